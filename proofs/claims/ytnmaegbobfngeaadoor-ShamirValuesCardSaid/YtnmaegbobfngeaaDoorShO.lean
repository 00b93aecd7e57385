/- Fits, in the program. -/
import Derived.Test.YtnmaegbobfngeaaDoorShN
namespace Eng
open Go Go.RowKit
section
variable {P : Program} {n : Nat} {D : List Deferred} {W : World} {Bo : List Nat} {F : List (Nat × Value)} {l : SH}
  {d : Option Tmp} {ty : TypeId} {ps : String} {af : Array Edge} {g : Option (Nat × Bool)} {x y : Operand} {ta tb : TypeId}
theorem y_min {p q : Int} (hx : evO F x = some (I p) := by rfl) (hy : evO F y = some (I q) := by rfl) : Y P n D W Bo ⟨d, .call ⟨.builtin .min, #[x, y], #[ta, tb]⟩, ty, ps, af, g⟩ F l (I (min p q)) :=
  y_b (vs := [I p, I q]) (by simp [evL, hx, hy]) fun w _ cs => by
    by_cases h : q < p
    · simp [builtin, Builtin.min_, Builtin.min2, h, Int.min_eq_right (Int.le_of_lt h)]
    · simp [builtin, Builtin.min_, Builtin.min2, h, Int.min_eq_left (Int.not_lt.1 h)]
end
end Eng
namespace Gf
open Go Eng
theorem Vld.take {l : List (Nat × Nat)} (hv : Vld l) {k : Nat} (h1 : 1 ≤ k) : Vld (l.take k) where
  le := by rw [List.length_take]; have := hv.le; omega
  pos := by rw [List.length_take]; have := hv.pos; omega
  at' s hs := hv.at' s (List.mem_of_mem_take hs)
  up := hv.up.sublist (List.take_sublist _ _)
theorem sN_take (l : List (Nat × Nat)) (k : Nat) : sN (l.take k) = (sN l).take k := by unfold sN; rw [List.map_take]
theorem sN_drop (l : List (Nat × Nat)) (k : Nat) : sN (l.drop k) = (sN l).drop k := by unfold sN; rw [List.map_drop]
theorem shc_take (l : List (Int × Int)) (k : Nat) (h : k ≤ l.length) : shc (l.take k) = (shc l).take (k * 2) := by
  conv => rhs; rw [← List.take_append_drop k l, shc_append]
  rw [List.take_left' (by rw [shc_length, List.length_take]; omega)]
theorem shc_drop (l : List (Int × Int)) (k : Nat) (h : k ≤ l.length) : shc (l.drop k) = (shc l).drop (k * 2) := by
  conv => rhs; rw [← List.take_append_drop k l, shc_append]
  rw [List.drop_left' (by rw [shc_length, List.length_take]; omega)]
/-- do shares fit? -/
noncomputable def ftV (l : List (Nat × Nat)) (n : Nat) : Bool := !((l.drop n).any fun s => !decide (((valQ (l.take n) s.1 : Nat) : Int) = (s.2 : Int)))
end Gf
