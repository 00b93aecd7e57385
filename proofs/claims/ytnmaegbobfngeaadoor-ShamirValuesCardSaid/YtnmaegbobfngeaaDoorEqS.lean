/- Structs compared with themselves. -/
import Derived.Test.YtnmaegbobfngeaaDoorEqA
import Derived.Laws.StructEq
namespace Eng
open Go Go.RowKit
section
variable {P : Program} {n : Nat} {D : List Deferred} {W : World} {Bo : List Nat} {F : List (Nat × Value)} {l : SH}
  {d : Option Tmp} {ty : TypeId} {ps : String} {af : Array Edge} {g : Option (Nat × Bool)} {x y : Operand} {ta tb e : TypeId}
theorem eqItems_r [hf : HT P e true] {by' : Nat} [hs : HS P e 1 by'] [hi : HU P e (.int .u8)] {p : List UInt8} (k : Nat) (w : World) : ∀ is : List Nat, (∀ i ∈ is, i < p.length) →
    (Op.eqItems (k + 1) e 1 (bs p).toArray (bs p).toArray is).run P w = .ok true w
  | [], _ => by simp [Op.eqItems]
  | i :: is, h => by
    have h1 := h i (.head _)
    have e1 : (bs p).toArray[i]? = some (B p[i]) := by rw [List.getElem?_toArray, bs_get h1]; simp [List.getD_eq_getElem?_getD, List.getElem?_eq_getElem h1]
    have e3 : (Op.equalIn (k + 1) e (B p[i]) (B p[i])).run P w = .ok true w := by
      have := run_equalIn_int w k e .u8 .u8 ((p[i].toNat : Nat) : Int) ((p[i].toNat : Nat) : Int) hi.h
      simpa using this
    simp only [Op.eqItems, Sem.run_bind, Nat.mul_one, run_part1 e1, Result.andThen_ok, e3]
    simpa using eqItems_r k w is fun j hj => h j (.tail _ hj)
theorem run_eqr {m : Nat} [hu : HU P ta (.array m e)] [hf : HT P e true] {by' : Nat} [hs : HS P e 1 by'] [hi : HU P e (.int .u8)] {p : List UInt8} (hp : p.length = m) (k : Nat) (w : World) :
    (Op.equalIn (k + 2) ta (.agg (bs p).toArray) (.agg (bs p).toArray)).run P w = .ok true w := by
  obtain ⟨inf, h1, h2, h3⟩ := hs.h
  have h4 := run_equalIn_array w (k + 1) (bs p).toArray (bs p).toArray hu.h h1
  have h5 : P.cellsOf e = 1 := by simp [Program.cellsOf, h1, h2]
  rw [h5, eqItems_r k w (List.range m) (fun i hi => by have := List.mem_range.1 hi; omega)] at h4
  exact h4
theorem run_partA {t : TypeId} [hf : HT P t false] {s by' : Nat} [hs : HS P t s by'] {cs : Array Value} {off : Nat} {ys : List Value} (h : (cs.extract off (off + s)).toList = ys) (w : World) : (part t cs off).run P w = .ok (.agg ys.toArray) w := by
  have h' : cs.extract off (off + s) = ys.toArray := by rw [← h, Array.toArray_toList]
  simp [part, run_isAgg hf, run_sizeOf' hs, h']
theorem run_eqI {t : TypeId} [hi : HU P t (.int .i64)] (k : Nat) (z : Int) (w : World) : (Op.equalIn (k + 1) t (I z) (I z)).run P w = .ok true w := by
  have := run_equalIn_int w k t .i64 .i64 z z hi.h
  simpa using this
theorem run_eqF3 {k : Nat} {X : Array Value} {f1 f2 f3 : Field} {v1 v2 v3 : Value} {w : World} (n1 : f1.name ≠ "_") (n2 : f2.name ≠ "_") (n3 : f3.name ≠ "_")
    (c1 : (part f1.type X f1.offset).run P w = .ok v1 w) (c2 : (part f2.type X f2.offset).run P w = .ok v2 w) (c3 : (part f3.type X f3.offset).run P w = .ok v3 w)
    (e1 : (Op.equalIn k f1.type v1 v1).run P w = .ok true w) (e2 : (Op.equalIn k f2.type v2 v2).run P w = .ok true w) (e3 : (Op.equalIn k f3.type v3 v3).run P w = .ok true w) :
    (Op.eqFields k X X [f1, f2, f3]).run P w = .ok true w := by
  simp only [Op.eqFields, if_pos n1, if_pos n2, if_pos n3, Sem.run_bind, c1, c2, c3, Result.andThen_ok, e1, e2, e3, Bool.not_true, Bool.false_eq_true, if_false, Sem.run_pure]
end
end Eng
