/- Joined texts. -/
import Derived.Test.YtnmaegbobfngeaaDoorTag
/- The specification of digest: the same hash. -/
namespace Eng
open Go Go.RowKit
section
variable {r : Option Nat} {P : Program} {n : Nat} {D : List Deferred} {W : World} {Bo : List Nat} {F : List (Nat × Value)} {l l' : SH}
  {d : Option Tmp} {dd : Nat} {ty : TypeId} {ps : String} {af : Array Edge} {g : Option (Nat × Bool)} {x y z : Operand} {v u : Value} {ta tb t e : TypeId}
theorem y_not32 {q : UInt32} (hx : evO F x = some (W32 q) := by rfl) : Y P n D W Bo ⟨d, .unOp .xor ta x, ty, ps, af, g⟩ F l (W32 (~~~q)) :=
  .mk (by simp) fun a w ha _ => by
    have e : (4294967295 : UInt32).toBitVec ^^^ q.toBitVec = (~~~q).toBitVec := by
      apply BitVec.eq_of_getLsbD_eq
      intro i hi
      rw [BitVec.getLsbD_xor, UInt32.toBitVec_not, BitVec.getLsbD_not]
      have : (4294967295 : UInt32).toBitVec.getLsbD i = true := by
        show (BitVec.allOnes 32).getLsbD i = true
        rw [BitVec.getLsbD_allOnes]; simp [hi]
      rw [this]
      simp [hi]
    have h := bits32 4294967295 q (· ^^^ ·) (~~~q) e
    simp only [execOp, ha.eval hx, Op.unary]
    show Result.ok (Next.value (.int .u32 (IntKind.u32.wrap _))) w = _
    exact congrArg (fun z => Result.ok (Next.value (.int .u32 z)) w) h
end
end Eng
namespace Go.Proofs.YtnmaegbobfngeaaDoor
open Go Eng Sha

end Go.Proofs.YtnmaegbobfngeaaDoor
/- The specification of digest: the hash of bytes, under a tag. -/
namespace Go.Proofs.YtnmaegbobfngeaaDoor
open Go Eng Sha

theorem flat_get : ∀ (l : List UInt32) (j r : Nat), j < l.length → r < 4 → (l.flatMap (fun v => be v.toNat 4)).getD (4 * j + r) 0 = (be (l.getD j 0).toNat 4).getD r 0
  | [], _, _, h, _ => by simp at h
  | x :: l, 0, r, _, hr => by
    simp only [List.flatMap_cons, List.getD_eq_getElem?_getD, Nat.mul_zero, Nat.zero_add]
    rw [List.getElem?_append_left (by rw [be_length]; exact hr)]
    rfl
  | x :: l, j + 1, r, h, hr => by
    have ih := flat_get l j r (by simpa using h) hr
    simp only [List.flatMap_cons, List.getD_eq_getElem?_getD] at ih ⊢
    rw [List.getElem?_append_right (by rw [be_length]; omega), be_length, show 4 * (j + 1) + r - 4 = 4 * j + r by omega, ih]
    rfl
theorem out_get (s : S8) (i : Nat) (h : i < 32) : (out s).getD i 0 = UInt8.ofNat ((s.l.getD (i / 4) 0).toNat / 2 ^ (24 - 8 * (i % 4))) := by
  have h1 := flat_get s.l (i / 4) (i % 4) (by rw [l8]; omega) (by omega)
  have h2 : s.l.flatMap (fun v => be v.toNat 4) = out s := by simp [S8.l, out, List.append_assoc]
  rw [h2, Nat.div_add_mod] at h1
  rw [h1, be_get _ _ _ (by omega), show 8 * (4 - 1 - i % 4) = 24 - 8 * (i % 4) by omega]

end Go.Proofs.YtnmaegbobfngeaaDoor
