/- The low bits of an int. -/
import Derived.Test.YtchpcabehchfjaaDoorBase
namespace Go.Proofs.YtchpcabehchfjaaDoor
open Go Eng
/-- a number that is not negative, and the low bits of any int -/
theorem maskI (p : Int) (m : Nat) (h : m ≤ 62) : ((BitVec.ofInt 64 p &&& BitVec.ofInt 64 ((2 ^ m - 1 : Nat) : Int)).toNat : Int) = p % 2 ^ m := by
  have h1 : (2 ^ m : Nat) ≤ 2 ^ 62 := Nat.pow_le_pow_right (by decide) h
  rw [BitVec.toNat_and, show (BitVec.ofInt 64 ((2 ^ m - 1 : Nat) : Int)).toNat = 2 ^ m - 1 from bitsn (k := .i64) (by simp only [IntKind.bits]; omega), Nat.and_two_pow_sub_one_eq_mod, BitVec.toNat_ofInt]
  have h2 : (2 : Int) ^ m ∣ 2 ^ 64 := ⟨2 ^ (64 - m), by rw [← Int.pow_add]; congr 1; omega⟩
  have h3 : p % ((2 ^ 64 : Nat) : Int) % 2 ^ m = p % 2 ^ m := by rw [show ((2 ^ 64 : Nat) : Int) = (2 : Int) ^ 64 by norm_cast]; exact Int.emod_emod_of_dvd p h2
  rw [Int.natCast_emod, Int.toNat_of_nonneg (Int.emod_nonneg _ (by decide)), Int.natCast_pow]
  exact h3
theorem y_maski (m : Nat) {n : Nat} {D : List Deferred} {W : World} {Bo : List Nat} {F : List (Nat × Value)} {l : SH} {d : Option Tmp} {ty : TypeId} {ps : String} {af : Array Edge} {g : Option (Nat × Bool)} {x y : Operand} {ta tb : TypeId} {P : Program} {p : Int}
    (hx : evO F x = some (I p) := by rfl) (hy : evO F y = some (I ((2 ^ m - 1 : Nat) : Int)) := by rfl) (h : m ≤ 62 := by decide) : Y P n D W Bo ⟨d, .binOp .and ta x y tb, ty, ps, af, g⟩ F l (I (p % 2 ^ m)) :=
  .mk (by simp) fun a w ha _ => by
    have h1 : (2 : Int) ^ m ≤ 2 ^ 62 := by
      have : (2 ^ m : Nat) ≤ 2 ^ 62 := Nat.pow_le_pow_right (by decide) h
      exact_mod_cast this
    have h0 : (0 : Int) < 2 ^ m := by
      have : 0 < (2 ^ m : Nat) := Nat.two_pow_pos m
      exact_mod_cast this
    have h2 := Int.emod_nonneg p (show (2 : Int) ^ m ≠ 0 by omega)
    have h3 := Int.emod_lt_of_pos p h0
    refine exec_bin P w w _ _ _ _ _ _ _ _ _ _ _ _ ⟨by simp, by simp⟩ ?_
    rw [ha.eval hx, ha.eval hy]
    simp only [binOp, ne_eq, not_true_eq_false, if_false, Op.intBits, Sem.run_pure]
    rw [show IntKind.i64.bits = 64 from rfl, maskI p m h, wrap_i64 (by unfold R64; omega)]
end Go.Proofs.YtchpcabehchfjaaDoor
