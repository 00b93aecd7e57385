/- Long division of two words by one: numbers only. -/
namespace Dv
/-- one digit: q is not below the digit, and too large -/
theorem kn_true {u y h e d q r : Nat} (hu : u < y) (hy : y = h * 4294967296 + e) (hq : q * h + r = u) (hc : 4294967296 ≤ q ∨ 4294967296 * r + d < q * e) (hd : d < 4294967296) : (u * 4294967296 + d) / y < q := by
  have hy0 : 0 < y := by omega
  rcases hc with hc | hc
  · refine Nat.lt_of_lt_of_le (Nat.div_lt_of_lt_mul ?_) hc
    have : (u + 1) * 4294967296 ≤ y * 4294967296 := Nat.mul_le_mul_right _ hu
    omega
  · refine Nat.div_lt_of_lt_mul ?_
    subst hy
    have e1 : (h * 4294967296 + e) * q = q * h * 4294967296 + q * e := by rw [Nat.add_mul, Nat.mul_comm q h, Nat.mul_right_comm, Nat.mul_comm e q]
    rw [e1]
    generalize q * h = a at *
    generalize q * e = b at *
    omega
theorem kn_le {u y h e d q r : Nat} (hy0 : 0 < y) (hy : y = h * 4294967296 + e) (hq : q * h + r = u) (hc : q * e ≤ 4294967296 * r + d) : q ≤ (u * 4294967296 + d) / y := by
  refine (Nat.le_div_iff_mul_le hy0).2 ?_
  subst hy
  have e1 : q * (h * 4294967296 + e) = q * h * 4294967296 + q * e := by rw [Nat.mul_add, Nat.mul_assoc]
  rw [e1]
  generalize q * h = a at *
  generalize q * e = b at *
  omega
theorem kn_top {u y h e : Nat} (hu : u < y) (hy : y = h * 4294967296 + e) (he : e < 4294967296) (hh : 2147483648 ≤ h) : u / h ≤ 4294967296 + 1 := by
  have : u / h < 4294967296 + 2 := Nat.div_lt_of_lt_mul (by
    rw [Nat.mul_add]; omega)
  omega
theorem kn_ge {u y h e d : Nat} (hy : y = h * 4294967296 + e) (hh : 0 < h) (hd : d < 4294967296) : (u * 4294967296 + d) / y ≤ u / h := by
  refine (Nat.le_div_iff_mul_le hh).2 ?_
  have h1 : (u * 4294967296 + d) / y * y ≤ u * 4294967296 + d := Nat.div_mul_le_self _ _
  generalize (u * 4294967296 + d) / y = q at *
  subst hy
  have e1 : q * (h * 4294967296 + e) = q * h * 4294967296 + q * e := by rw [Nat.mul_add, Nat.mul_assoc]
  rw [e1] at h1
  generalize q * h = a at *
  generalize q * e = b at *
  omega
theorem kn_small {q e : Nat} (hq : q ≤ 4294967296) (he : e < 4294967296) : q * e ≤ 18446744069414584320 := by
  have := Nat.mul_le_mul hq (show e ≤ 4294967295 by omega)
  omega
/-- the rest of a digit, where words overflow -/
theorem wrapsub {u d z R : Nat} (h : u * 4294967296 + d = z + R) (hR : R < 18446744073709551616) : ((u * 4294967296 % 18446744073709551616 + d) % 18446744073709551616 + (18446744073709551616 - z % 18446744073709551616 % 18446744073709551616)) % 18446744073709551616 = R := by omega
/-- two digits -/
theorem two {u l1 l0 y q1 r1 : Nat} (hy : 0 < y) (h1 : u * 4294967296 + l1 = q1 * y + r1) (q0 r0 : Nat) (h0 : r1 * 4294967296 + l0 = q0 * y + r0) (hr0 : r0 < y) :
    (u * 18446744073709551616 + (l1 * 4294967296 + l0)) / y = q1 * 4294967296 + q0 ∧ (u * 18446744073709551616 + (l1 * 4294967296 + l0)) % y = r0 := by
  have e1 : (q1 * 4294967296 + q0) * y = q1 * y * 4294967296 + q0 * y := by rw [Nat.add_mul, Nat.mul_right_comm]
  obtain ⟨N, hN⟩ : ∃ N, N = u * 18446744073709551616 + (l1 * 4294967296 + l0) := ⟨_, rfl⟩
  obtain ⟨K, hK⟩ : ∃ K, K = q1 * 4294967296 + q0 := ⟨_, rfl⟩
  rw [← hK] at e1
  have e : N = K * y + r0 := by
    generalize q1 * y = a at *
    generalize q0 * y = b at *
    omega
  rw [← hN, ← hK, e]
  constructor
  · rw [Nat.mul_comm, Nat.mul_add_div hy, Nat.div_eq_of_lt hr0, Nat.add_zero]
  · rw [Nat.mul_comm, Nat.mul_add_mod, Nat.mod_eq_of_lt hr0]
/-- shifted -/
theorem shifted {x y k : Nat} : (x * 2 ^ k) / (y * 2 ^ k) = x / y ∧ (x * 2 ^ k) % (y * 2 ^ k) / 2 ^ k = x % y :=
  ⟨Nat.mul_div_mul_right _ _ (Nat.two_pow_pos k), by rw [Nat.mul_mod_mul_right, Nat.mul_div_cancel _ (Nat.two_pow_pos k)]⟩
/-- the shifted words -/
theorem words {hi lo s : Nat} (hs : s ≤ 63) (hlo : lo < 18446744073709551616) : hi * 2 ^ s ||| lo / 2 ^ (64 - s) = hi * 2 ^ s + lo / 2 ^ (64 - s) ∧ (hi * 2 ^ s + lo / 2 ^ (64 - s)) * 18446744073709551616 + lo * 2 ^ s % 18446744073709551616 = (hi * 18446744073709551616 + lo) * 2 ^ s := by
  have e1 : 2 ^ s * 2 ^ (64 - s) = 18446744073709551616 := by rw [← Nat.pow_add, show s + (64 - s) = 64 by omega]
  have h1 : lo / 2 ^ (64 - s) < 2 ^ s := Nat.div_lt_of_lt_mul (by rw [Nat.mul_comm, e1]; exact hlo)
  constructor
  · rw [Nat.mul_comm hi, ← Nat.two_pow_add_eq_or_of_lt h1]
  · have h2 : lo * 2 ^ s / 18446744073709551616 = lo / 2 ^ (64 - s) := by
      rw [← e1, Nat.mul_comm lo, Nat.mul_div_mul_left _ _ (Nat.two_pow_pos s)]
    have h3 := Nat.div_add_mod (lo * 2 ^ s) 18446744073709551616
    rw [h2] at h3
    rw [Nat.add_mul (hi * 18446744073709551616), Nat.mul_right_comm hi]
    generalize hi * 2 ^ s = a at *
    generalize lo * 2 ^ s = b at *
    generalize lo / 2 ^ (64 - s) = c at *
    omega
theorem mulB {u y l : Nat} (h : u < y) (hl : l < 4294967296) : u * 4294967296 + l < y * 4294967296 := by omega
theorem mulA {u : Nat} (h : u < 4294967296) : u * 4294967296 < 18446744073709551616 := by omega
theorem addA {u l : Nat} (h : u < 4294967296) (hl : l < 4294967296) : u * 4294967296 + l < 18446744073709551616 := by omega
end Dv
