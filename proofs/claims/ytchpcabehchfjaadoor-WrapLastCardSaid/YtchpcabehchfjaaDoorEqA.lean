/- Arrays of bytes compared. -/
import Derived.Test.YtchpcabehchfjaaDoorStep
import Derived.ChangeKeysEq
namespace Eng
open Go Go.RowKit
section
variable {P : Program} {n : Nat} {D : List Deferred} {W : World} {Bo : List Nat} {F : List (Nat × Value)} {l : SH}
  {d : Option Tmp} {ty : TypeId} {ps : String} {af : Array Edge} {g : Option (Nat × Bool)} {x y : Operand} {ta tb e : TypeId}
theorem run_part1 [hf : HT P e true] {by' : Nat} [hs : HS P e 1 by'] {cs : Array Value} {v : Value} {i : Nat} (hv : cs[i]? = some v) (w : World) : (part e cs i).run P w = .ok v w := by
  simp [part, run_isAgg hf, run_sizeOf' hs, hv]
theorem eqItems_b [hf : HT P e true] {by' : Nat} [hs : HS P e 1 by'] [hi : HU P e (.int .u8)] {p q : List UInt8} (w : World) : ∀ is : List Nat, (∀ i ∈ is, i < p.length ∧ i < q.length) →
    (Op.eqItems 9999 e 1 (bs p).toArray (bs q).toArray is).run P w = .ok (is.all fun i => p[i]? == q[i]?) w
  | [], _ => by simp [Op.eqItems]
  | i :: is, h => by
    obtain ⟨h1, h2⟩ := h i (.head _)
    have e1 : (bs p).toArray[i]? = some (B p[i]) := by rw [List.getElem?_toArray, bs_get h1]; simp [List.getD_eq_getElem?_getD, List.getElem?_eq_getElem h1]
    have e2 : (bs q).toArray[i]? = some (B q[i]) := by rw [List.getElem?_toArray, bs_get h2]; simp [List.getD_eq_getElem?_getD, List.getElem?_eq_getElem h2]
    have e3 : (Op.equalIn 9999 e (B p[i]) (B q[i])).run P w = .ok (((p[i].toNat : Nat) : Int) == ((q[i].toNat : Nat) : Int)) w := run_equalIn_int w 9998 e .u8 .u8 _ _ hi.h
    have e4 : (((p[i].toNat : Nat) : Int) == ((q[i].toNat : Nat) : Int)) = (p[i]? == q[i]?) := by
      rw [List.getElem?_eq_getElem h1, List.getElem?_eq_getElem h2]
      by_cases hpq : p[i] = q[i]
      · simp [hpq]
      · have : p[i].toNat ≠ q[i].toNat := fun e => hpq (UInt8.toNat_inj.1 e)
        have h5 : (((p[i].toNat : Nat) : Int) == ((q[i].toNat : Nat) : Int)) = false := by rw [beq_eq_false_iff_ne]; omega
        have h6 : (some p[i] == some q[i]) = false := by simpa using hpq
        rw [h5, h6]
    simp only [Op.eqItems, Sem.run_bind, Nat.mul_one, run_part1 e1, run_part1 e2, Result.andThen_ok, e3, List.all_cons, ← e4]
    cases ((p[i].toNat : Nat) : Int) == ((q[i].toNat : Nat) : Int) with
    | false => simp
    | true => simpa using eqItems_b w is fun j hj => h j (.tail _ hj)
theorem all_eq {p q : List UInt8} {m : Nat} (hp : p.length = m) (hq : q.length = m) : ((List.range m).all fun i => p[i]? == q[i]?) = decide (p = q) := by
  by_cases h : p = q
  · subst h; simp
  · rw [decide_eq_false h, List.all_eq_false]
    apply Classical.byContradiction
    intro hc
    refine h (List.ext_getElem? fun i => ?_)
    rcases Nat.lt_or_ge i m with hi | hi
    · apply Classical.byContradiction
      intro hne
      exact hc ⟨i, List.mem_range.2 hi, by simpa using hne⟩
    · rw [List.getElem?_eq_none (by omega), List.getElem?_eq_none (by omega)]
theorem run_eqa {m : Nat} [hu : HU P ta (.array m e)] [hf : HT P e true] {by' : Nat} [hs : HS P e 1 by'] [hi : HU P e (.int .u8)] {p q : List UInt8} (hp : p.length = m) (hq : q.length = m) (w : World) :
    (Op.equalIn 10000 ta (.agg (bs p).toArray) (.agg (bs q).toArray)).run P w = .ok (decide (p = q)) w := by
  obtain ⟨inf, h1, h2, h3⟩ := hs.h
  have h4 := run_equalIn_array w 9999 (bs p).toArray (bs q).toArray hu.h h1
  have h5 : P.cellsOf e = 1 := by simp [Program.cellsOf, h1, h2]
  rw [h5, eqItems_b w (List.range m) (fun i hi => by have := List.mem_range.1 hi; omega), all_eq hp hq] at h4
  exact h4
theorem y_eqla {m : Nat} [hu : HU P ta (.array m e)] [hf : HT P e true] {by' : Nat} [hs : HS P e 1 by'] [hi : HU P e (.int .u8)] {p q : List UInt8} (hp : p.length = m) (hq : q.length = m) (hgd : P.eqGuardType P.depth ta = false)
    (hx : evO F x = some (.agg (bs p).toArray) := by rfl) (hy : evO F y = some (.agg (bs q).toArray) := by rfl) : Y P n D W Bo ⟨d, .binOp .eql ta x y tb, ty, ps, af, g⟩ F l (.bool (decide (p = q))) :=
  .mk (by simp) fun ac w ha _ => by
    simp only [execOp, ha.eval hx, ha.eval hy, Sem.run_bind, run_eqGuard_agg w .eql ta x y _ _ hgd, Result.andThen_ok, run_eql_struct, run_eqa hp hq, Sem.run_pure]
theorem y_neqa {m : Nat} [hu : HU P ta (.array m e)] [hf : HT P e true] {by' : Nat} [hs : HS P e 1 by'] [hi : HU P e (.int .u8)] {p q : List UInt8} (hp : p.length = m) (hq : q.length = m) (hgd : P.eqGuardType P.depth ta = false)
    (hx : evO F x = some (.agg (bs p).toArray) := by rfl) (hy : evO F y = some (.agg (bs q).toArray) := by rfl) : Y P n D W Bo ⟨d, .binOp .neq ta x y tb, ty, ps, af, g⟩ F l (.bool (!decide (p = q))) :=
  .mk (by simp) fun ac w ha _ => by
    simp only [execOp, ha.eval hx, ha.eval hy, Sem.run_bind, run_eqGuard_agg w .neq ta x y _ _ hgd, Result.andThen_ok, run_neq_struct, run_eqa hp hq, Sem.run_pure]
end
end Eng
