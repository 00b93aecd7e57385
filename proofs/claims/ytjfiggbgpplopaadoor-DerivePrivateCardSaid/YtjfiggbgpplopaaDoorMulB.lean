/- The product of two words as two words: numbers only. -/
namespace Dv
/-- a product of two halves -/
theorem half {a b : Nat} (ha : a < 4294967296) (hb : b < 4294967296) : a * b ≤ 18446744065119617025 := by
  have := Nat.mul_le_mul (show a ≤ 4294967295 by omega) (show b ≤ 4294967295 by omega)
  omega
/-- the upper word -/
theorem mul_hi {x0 x1 y0 y1 a b c d t w1 : Nat} (ha : x0 * y0 = a) (hb : x1 * y0 = b) (hc : x0 * y1 = c) (hd : x1 * y1 = d) (ht : t = b + a / 4294967296) (hw : w1 = t % 4294967296 + c) :
    (x1 * 4294967296 + x0) * (y1 * 4294967296 + y0) / 18446744073709551616 = d + t / 4294967296 + w1 / 4294967296 := by
  have e : (x1 * 4294967296 + x0) * (y1 * 4294967296 + y0) = d * 18446744073709551616 + (b + c) * 4294967296 + a := by
    rw [Nat.add_mul, Nat.mul_add, Nat.mul_add, ← ha, ← hb, ← hc, ← hd]
    have h1 : x1 * 4294967296 * (y1 * 4294967296) = x1 * y1 * 18446744073709551616 := by
      rw [Nat.mul_assoc, Nat.mul_left_comm 4294967296, Nat.mul_assoc]
    have h2 : x1 * 4294967296 * y0 = x1 * y0 * 4294967296 := Nat.mul_right_comm _ _ _
    have h3 : x0 * (y1 * 4294967296) = x0 * y1 * 4294967296 := (Nat.mul_assoc _ _ _).symm
    rw [h1, h2, h3]
    generalize x1 * y1 = d at *
    generalize x1 * y0 = b at *
    generalize x0 * y1 = c at *
    generalize x0 * y0 = a at *
    omega
  rw [e]
  clear e ha hb hc hd
  subst ht hw
  omega
theorem split2 (x : Nat) : x / 2 ^ 32 * 4294967296 + x % 2 ^ 32 = x := by omega
theorem pow_step (b e i m : Nat) : let a := b ^ (e / 2 ^ (i + 1)) % m
    b ^ (e / 2 ^ i) % m = if e / 2 ^ i % 2 = 1 then (a * a % m) * b % m else a * a % m := by
  intro a
  have h1 : e / 2 ^ (i + 1) = e / 2 ^ i / 2 := by rw [Nat.pow_succ, Nat.div_div_eq_div_mul]
  have ha : a * a % m = b ^ (2 * (e / 2 ^ i / 2)) % m := by
    show b ^ (e / 2 ^ (i + 1)) % m * (b ^ (e / 2 ^ (i + 1)) % m) % m = _
    rw [← Nat.mul_mod, ← Nat.pow_add, h1, Nat.two_mul]
  rw [ha]
  have h2 := Nat.div_add_mod (e / 2 ^ i) 2
  by_cases h : e / 2 ^ i % 2 = 1
  · rw [if_pos h]
    rw [h] at h2
    conv => lhs; rw [← h2]
    rw [Nat.pow_succ, Nat.mod_mul_mod]
  · rw [if_neg h]
    have h0 : e / 2 ^ i % 2 = 0 := by omega
    rw [h0, Nat.add_zero] at h2
    rw [h2]
end Dv
