/- The group and the field as plain functions on numbers; no program in sight. -/
import Derived.Test.YtchpcabehchfjaaDoorPowX
namespace Gf
open Eng
theorem pp_ex : ∃ f : Nat → Nat → Nat, ∀ a k, f a k = a ^ k % 4611686018427377339 := ⟨fun a k => a ^ k % 4611686018427377339, fun _ _ => rfl⟩
/-- a power modulo P; modulo Q -/
noncomputable def pp : Nat → Nat → Nat := Classical.choose pp_ex
theorem pp_def (a k : Nat) : pp a k = a ^ k % 4611686018427377339 := Classical.choose_spec pp_ex a k
theorem qq_ex : ∃ f : Nat → Nat → Nat, ∀ a k, f a k = a ^ k % 2305843009213688669 := ⟨fun a k => a ^ k % 2305843009213688669, fun _ _ => rfl⟩
noncomputable def qq : Nat → Nat → Nat := Classical.choose qq_ex
theorem qq_def (a k : Nat) : qq a k = a ^ k % 2305843009213688669 := Classical.choose_spec qq_ex a k
/-- is it an element? -/
noncomputable def el (a : Int) : Bool := decide (1 ≤ a) && (decide (a < 4611686018427377339) && decide (pp a.toNat Num.Q = 1))
noncomputable def chk (a : Int) : Int := bif el a then 0 else 40
/-- is it a scalar? -/
def sc (a : Int) : Bool := decide (0 ≤ a) && decide (a < 2305843009213688669)
noncomputable def expE (a k : Int) : Int := bif el a then (bif sc k then 0 else 1) else 40
noncomputable def expV (a k : Int) : Int := bif el a && sc k then ((pp a.toNat k.toNat : Nat) : Int) else 0
noncomputable def mulE (a b : Int) : Int := bif el a && el b then 0 else 40
noncomputable def mulV (a b : Int) : Int := bif el a && el b then ((a.toNat * b.toNat % 4611686018427377339 : Nat) : Int) else 0
def fmE (a b : Int) : Int := bif sc a && sc b then 0 else 1
def fmV (a b : Int) : Int := bif sc a && sc b then ((a.toNat * b.toNat % 2305843009213688669 : Nat) : Int) else 0
def faV (a b : Int) : Int := bif sc a && sc b then (a + b) % 2305843009213688669 else 0
def fsV (a b : Int) : Int := bif sc a && sc b then (a - b) % 2305843009213688669 else 0
def fiE (a : Int) : Int := bif sc a then (bif decide (a = 0) then 30 else 0) else 1
noncomputable def fiV (a : Int) : Int := bif sc a && !decide (a = 0) then ((qq a.toNat 2305843009213688667 : Nat) : Int) else 0

theorem el_of {x : Nat} (h0 : 0 < x) (h1 : x < 4611686018427377339) : el (x : Int) = decide (pp x Num.Q = 1) := by
  unfold el
  rw [decide_eq_true (show (1 : Int) ≤ (x : Int) by omega), decide_eq_true (show (x : Int) < 4611686018427377339 by omega), Int.toNat_natCast, Bool.true_and, Bool.true_and]
theorem el_lo {a : Int} (h : a < 1) : el a = false := by unfold el; rw [decide_eq_false (show ¬ 1 ≤ a by omega), Bool.false_and]
theorem el_hi {a : Int} (h : 4611686018427377339 ≤ a) : el a = false := by unfold el; rw [decide_eq_false (show ¬ a < 4611686018427377339 by omega)]; simp
theorem el_nat {a : Int} (h : el a = true) : ∃ x : Nat, a = (x : Int) ∧ 0 < x ∧ x < 4611686018427377339 ∧ pp x Num.Q = 1 := by
  unfold el at h
  simp only [Bool.and_eq_true, decide_eq_true_eq] at h
  exact ⟨a.toNat, by omega, by omega, by omega, h.2.2⟩
theorem sc_nat {a : Int} (h : sc a = true) : ∃ x : Nat, a = (x : Int) ∧ x < 2305843009213688669 := by
  unfold sc at h
  simp only [Bool.and_eq_true, decide_eq_true_eq] at h
  exact ⟨a.toNat, by omega, by omega⟩
theorem sc_of {x : Nat} (h : x < 2305843009213688669) : sc (x : Int) = true := by
  unfold sc
  rw [decide_eq_true (show (0 : Int) ≤ (x : Int) by omega), decide_eq_true (show (x : Int) < 2305843009213688669 by omega)]; rfl
theorem sc_lo {a : Int} (h : a < 0) : sc a = false := by unfold sc; rw [decide_eq_false (show ¬ 0 ≤ a by omega)]; rfl
theorem sc_hi {a : Int} (h : 2305843009213688669 ≤ a) : sc a = false := by unfold sc; rw [decide_eq_false (show ¬ a < 2305843009213688669 by omega)]; simp
theorem pp_lt (a k : Nat) : pp a k < 4611686018427377339 := by rw [pp_def]; exact Nat.mod_lt _ (by decide)
theorem qq_lt (a k : Nat) : qq a k < 2305843009213688669 := by rw [qq_def]; exact Nat.mod_lt _ (by decide)
/-- an element: a number -/
structure El (x : Nat) : Prop where
  pos : 0 < x
  lt : x < 4611686018427377339
  one : pp x Num.Q = 1
theorem El.el {x : Nat} (h : El x) : Gf.el (x : Int) = true := by rw [el_of h.pos h.lt, decide_eq_true h.one]
theorem pp_add (a m n : Nat) : pp a (m + n) = pp a m * pp a n % 4611686018427377339 := by rw [pp_def, pp_def, pp_def]; exact Num.pow_add_mod a m n _
theorem pp_pp (a m n : Nat) : pp (pp a m) n = pp a (m * n) := by rw [pp_def, pp_def, pp_def, ← Nat.pow_mod, ← Nat.pow_mul]
theorem pp_mul (a b k : Nat) : pp (a * b % 4611686018427377339) k = pp a k * pp b k % 4611686018427377339 := by
  rw [pp_def, pp_def, pp_def, ← Nat.pow_mod, Nat.mul_pow, Nat.mul_mod]
theorem pp_one (k : Nat) : pp 1 k = 1 := by rw [pp_def, Nat.one_pow]
theorem pp_zero (a : Nat) : pp a 0 = 1 := by rw [pp_def, Nat.pow_zero]
theorem pp_self {x : Nat} (h : x < 4611686018427377339) : pp x 1 = x := by rw [pp_def]; rw [Nat.pow_one, Nat.mod_eq_of_lt h]
theorem El.pos' {y : Nat} (h : pp y Num.Q = 1) : 0 < y := by
  rcases Nat.eq_zero_or_pos y with h0 | h0
  · subst h0
    rw [pp_def, Nat.zero_pow (show 0 < Num.Q from (show 0 < 2305843009213688669 by decide))] at h
    exact absurd h (by decide)
  · exact h0
theorem El.mk' {y : Nat} (hl : y < 4611686018427377339) (h : pp y Num.Q = 1) : El y := ⟨El.pos' h, hl, h⟩
theorem El.pow {x : Nat} (h : El x) (k : Nat) : El (pp x k) := El.mk' (pp_lt _ _) (by rw [pp_pp, Nat.mul_comm, ← pp_pp, h.one, pp_one])
theorem El.mul {x y : Nat} (hx : El x) (hy : El y) : El (x * y % 4611686018427377339) := El.mk' (Nat.mod_lt _ (by decide)) (by rw [pp_mul, hx.one, hy.one])
theorem El.four : El 4 := El.mk' (by decide) (by rw [pp_def]; exact Go.Proofs.YtchpcabehchfjaaDoor.four_Q)
/-- exponents count modulo Q -/
theorem El.pmod {x : Nat} (h : El x) (k : Nat) : pp x (k % Num.Q) = pp x k := by
  have e : k = Num.Q * (k / Num.Q) + k % Num.Q := (Nat.div_add_mod k Num.Q).symm
  have h1 : pp x (Num.Q * (k / Num.Q)) = 1 := by rw [← pp_pp, h.one, pp_one]
  have h2 := pp_add x (Num.Q * (k / Num.Q)) (k % Num.Q)
  rw [← e, h1, Nat.one_mul, Nat.mod_eq_of_lt (pp_lt _ _)] at h2
  exact h2.symm
theorem El.pcongr {x : Nat} (h : El x) {a b : Nat} (hab : a % Num.Q = b % Num.Q) : pp x a = pp x b := by rw [← h.pmod a, hab, h.pmod]
theorem Qeq : Num.Q = 2305843009213688669 := rfl
/-- the inverse -/
theorem El.inv {x : Nat} (h : El x) : x * pp x 2305843009213688668 % 4611686018427377339 = 1 := by
  have h1 := pp_add x 1 2305843009213688668
  rw [pp_self h.lt, show 1 + 2305843009213688668 = Num.Q from rfl, h.one] at h1
  exact h1.symm
theorem mulP_assoc (a b c : Nat) : a * (b * c % 4611686018427377339) % 4611686018427377339 = a * b % 4611686018427377339 * c % 4611686018427377339 := by
  rw [Nat.mul_mod, Nat.mod_mod, ← Nat.mul_mod, Nat.mul_mod (a * b % 4611686018427377339), Nat.mod_mod, ← Nat.mul_mod, Nat.mul_assoc]
/-- inverse in the field -/
theorem qq_inv {x : Nat} (h0 : 0 < x) (h1 : x < 2305843009213688669) : x * qq x 2305843009213688667 % 2305843009213688669 = 1 := by
  have h := Num.fermat_Q (a := x) (by rw [Qeq, Nat.mod_eq_of_lt h1]; omega)
  rw [qq_def]
  have h2 := Num.pow_add_mod x 1 2305843009213688667 2305843009213688669
  rw [Nat.pow_one, Nat.mod_eq_of_lt h1] at h2
  rw [← h2, show 1 + 2305843009213688667 = Num.Q - 1 from rfl]
  exact h
/-- the generator has the order Q -/
theorem four_inj {i j : Nat} (hi : i < 2305843009213688669) (hj : j < 2305843009213688669) (h : pp 4 i = pp 4 j) : i = j := by
  have key : ∀ {i j : Nat}, i < j → j < 2305843009213688669 → pp 4 i = pp 4 j → False := fun {i j} hij hj h => by
    -- 4 ^ (Q - i) times both
    have h1 := pp_add 4 i (2305843009213688669 - i)
    have h2 := pp_add 4 j (2305843009213688669 - i)
    rw [h] at h1
    rw [← h1, show i + (2305843009213688669 - i) = Num.Q by rw [Qeq]; omega] at h2
    rw [El.four.one] at h2
    have h3 : pp 4 (j + (2305843009213688669 - i)) = pp 4 (j - i) := El.four.pcongr (by rw [Qeq, show j + (2305843009213688669 - i) = (j - i) + 2305843009213688669 by omega, Nat.add_mod_right])
    rw [h3] at h2
    rw [pp_def] at h2
    exact Go.Proofs.YtchpcabehchfjaaDoor.four_ne (j - i) (by omega) (by omega) h2
  rcases Nat.lt_trichotomy i j with h1 | h1 | h1
  · exact (key h1 hj h).elim
  · exact h1
  · exact (key h1 hi h.symm).elim
end Gf
