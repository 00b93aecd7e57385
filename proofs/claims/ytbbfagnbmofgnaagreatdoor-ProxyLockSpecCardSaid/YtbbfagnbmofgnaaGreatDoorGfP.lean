/- Capsules as plain numbers; no program in sight. -/
import Derived.Test.YtbbfagnbmofgnaaGreatDoorPrx
namespace Gf
/-- what a private number finds; the factor from one to another; the private key that a number stands for -/
noncomputable def opM (x u v : Nat) : Nat := v * pp (pp u (qq x 2305843009213688667)) 2305843009213688668 % 4611686018427377339
noncomputable def fac (x y : Nat) : Nat := y * qq x 2305843009213688667 % 2305843009213688669
def keyN (n : Int) : Nat := 1 + (n % 4611686018427387904).toNat % 2305843009213688668
theorem keyN_pos (n : Int) : 0 < keyN n := by unfold keyN; omega
theorem keyN_lt (n : Int) : keyN n < 2305843009213688669 := by
  have := Nat.mod_lt (n % 4611686018427387904).toNat (show 0 < 2305843009213688668 by decide)
  unfold keyN; omega
theorem mulQ (a b : Nat) : a % 2305843009213688669 * b % 2305843009213688669 = a * b % 2305843009213688669 := by rw [Nat.mul_mod, Nat.mod_mod, ← Nat.mul_mod]
theorem mulQ' (a b : Nat) : a * (b % 2305843009213688669) % 2305843009213688669 = a * b % 2305843009213688669 := by rw [Nat.mul_mod, Nat.mod_mod, ← Nat.mul_mod]
/-- x times its inverse, within a product -/
theorem inv_in {x : Nat} (h0 : 0 < x) (hx : x < 2305843009213688669) (r : Nat) : x * r * qq x 2305843009213688667 % 2305843009213688669 = r % 2305843009213688669 := by
  rw [show x * r * qq x 2305843009213688667 = x * qq x 2305843009213688667 * r by rw [Nat.mul_assoc, Nat.mul_comm r, ← Nat.mul_assoc], ← mulQ, qq_inv h0 hx, Nat.one_mul]
theorem opM_own {x m r : Nat} (h0 : 0 < x) (hx : x < 2305843009213688669) (hm : El m) : opM x (pp (pp 4 x) r) (m * pp 4 r % 4611686018427377339) = m := by
  unfold opM
  have e1 : pp (pp (pp 4 x) r) (qq x 2305843009213688667) = pp 4 r := by
    rw [pp_pp, pp_pp]
    exact El.four.pcongr (by rw [Qeq, ← Nat.mul_assoc]; exact inv_in h0 hx r)
  rw [e1, ← mulP_assoc, (El.four.pow r).inv, Nat.mul_one, Nat.mod_eq_of_lt hm.lt]
theorem turned {x y r : Nat} (h0 : 0 < x) (hx : x < 2305843009213688669) : pp (pp (pp 4 x) r) (fac x y) = pp (pp 4 y) r := by
  rw [pp_pp, pp_pp, pp_pp]
  refine El.four.pcongr ?_
  rw [Qeq]
  unfold fac
  rw [← Nat.mul_assoc x r, mulQ', show x * r * (y * qq x 2305843009213688667) = x * (r * y) * qq x 2305843009213688667 by ac_rfl, inv_in h0 hx, Nat.mul_comm]
theorem fac_lt (x y : Nat) : fac x y < 2305843009213688669 := Nat.mod_lt _ (by decide)
theorem fac_self {x : Nat} (h0 : 0 < x) (hx : x < 2305843009213688669) : fac x x = 1 := qq_inv h0 hx
theorem fac_mul {x y z : Nat} (h0 : 0 < y) (hy : y < 2305843009213688669) : fac x y * fac y z % 2305843009213688669 = fac x z := by
  unfold fac
  rw [mulQ, mulQ', show y * qq x 2305843009213688667 * (z * qq y 2305843009213688667) = y * (z * qq x 2305843009213688667) * qq y 2305843009213688667 by ac_rfl, inv_in h0 hy]
theorem dvdQ {a : Nat} (h0 : 0 < a) (h : a < 2305843009213688669) : ¬ Num.Q ∣ a := fun hd => by
  have := Nat.le_of_dvd h0 hd
  rw [Qeq] at this; omega
theorem prod_pos {x y : Nat} (hx0 : 0 < x) (hx : x < 2305843009213688669) (hy0 : 0 < y) (hy : y < 2305843009213688669) : 0 < x * y % 2305843009213688669 := by
  rcases Nat.eq_zero_or_pos (x * y % 2305843009213688669) with h | h
  · have hd : Num.Q ∣ x * y := Nat.dvd_of_mod_eq_zero (by rw [Qeq]; exact h)
    rcases Num.prime_Q.dvd_mul hd with h1 | h1
    · exact absurd h1 (dvdQ hx0 hx)
    · exact absurd h1 (dvdQ hy0 hy)
  · exact h
theorem qq_pos {x : Nat} (h0 : 0 < x) (h : x < 2305843009213688669) : 0 < qq x 2305843009213688667 := by
  rcases Nat.eq_zero_or_pos (qq x 2305843009213688667) with h1 | h1
  · have := qq_inv h0 h
    rw [h1, Nat.mul_zero] at this
    exact absurd this (by decide)
  · exact h1
theorem fac_pos {x y : Nat} (hx0 : 0 < x) (hx : x < 2305843009213688669) (hy0 : 0 < y) (hy : y < 2305843009213688669) : 0 < fac x y := prod_pos hy0 hy (qq_pos hx0 hx) (qq_lt _ _)
/-- turning twice; turning back -/
theorem twice {u : Nat} (h : El u) (x y : Nat) : pp (pp u x) y = pp u (x * y % 2305843009213688669) := by
  rw [pp_pp]; exact h.pcongr (by rw [Qeq, Nat.mod_mod])
theorem back {u x : Nat} (h : El u) (h0 : 0 < x) (hx : x < 2305843009213688669) : pp (pp u x) (qq x 2305843009213688667) = u := by
  rw [twice h, qq_inv h0 hx, pp_self h.lt]
/-- another private number finds another element -/
theorem opM_other {x y m r : Nat} (hx0 : 0 < x) (hx : x < 2305843009213688669) (hy0 : 0 < y) (hy : y < 2305843009213688669) (hr0 : 0 < r) (hr : r < 2305843009213688669) (hm : El m) (hne : x ≠ y) :
    opM y (pp (pp 4 x) r) (m * pp 4 r % 4611686018427377339) ≠ m := fun h => by
  -- the product with what y took away
  have hE := (((El.four.pow x).pow r).pow (qq y 2305843009213688667))
  have h1 : opM y (pp (pp 4 x) r) (m * pp 4 r % 4611686018427377339) * pp (pp (pp 4 x) r) (qq y 2305843009213688667) % 4611686018427377339 = m * pp 4 r % 4611686018427377339 := by
    unfold opM
    rw [← mulP_assoc, Nat.mul_comm (pp _ 2305843009213688668), hE.inv, Nat.mul_one, Nat.mod_mod]
  rw [h] at h1
  -- so both are equal, times the inverse of m
  have h2 : pp (pp (pp 4 x) r) (qq y 2305843009213688667) = pp 4 r := by
    have h3 : ∀ z : Nat, z < 4611686018427377339 → pp m 2305843009213688668 * (m * z % 4611686018427377339) % 4611686018427377339 = z := fun z hz => by
      rw [mulP_assoc, Nat.mul_comm (pp m _), hm.inv, Nat.one_mul, Nat.mod_eq_of_lt hz]
    rw [← h3 _ (pp_lt _ _), h1, h3 _ (pp_lt _ _)]
  rw [pp_pp, pp_pp, ← El.four.pmod (x * (r * qq y 2305843009213688667)), Qeq] at h2
  have h4 := four_inj (Nat.mod_lt _ (by decide)) hr h2
  -- times y: x * r = r * y
  have h5 : x * r % 2305843009213688669 = y * r % 2305843009213688669 := by
    have h6 := inv_in hy0 hy (x * r)
    rw [show y * (x * r) * qq y 2305843009213688667 = y * (x * (r * qq y 2305843009213688667)) by ac_rfl, ← mulQ', h4] at h6
    exact h6.symm
  -- times the inverse of r
  have h7 := inv_in hr0 hr x
  have h8 := inv_in hr0 hr y
  rw [Nat.mul_comm r x, ← mulQ, h5, mulQ, Nat.mul_comm y r, h8, Nat.mod_eq_of_lt hx, Nat.mod_eq_of_lt hy] at h7
  exact hne h7.symm
end Gf
