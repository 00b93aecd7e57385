/- Capsules compared with themselves. -/
import Derived.Test.YtbbfagnbmofgnaaGreatDoorGfP
import Derived.Test.YtbbfagnbmofgnaaGreatDoorEqS
namespace Go.Proofs.YtbbfagnbmofgnaaGreatDoor
open Go Eng Gf Sha Cod
set_option maxRecDepth 100000
theorem hgk : (Tryz.prog).eqGuardType (Tryz.prog).depth 23 = false := by kernel_rfl
theorem hgCap : (Tryz.prog).eqGuardType (Tryz.prog).depth 25 = false := by kernel_rfl
theorem hsCap : (Tryz.prog).stoodInHeld 25 = false := by kernel_rfl
theorem hfCap : (Tryz.prog).underlying 25 = some (.struct ((Tryz.prog).fieldsOf 25)) := by kernel_rfl
theorem hlCap : ∃ f1 f2 f3 : Field, ((Tryz.prog).fieldsOf 25).toList = [f1, f2, f3] ∧ f1.name = "A" ∧ f2.name = "B" ∧ f3.name = "Pad" ∧ f1.type = 3 ∧ f2.type = 3 ∧ f3.type = 23 ∧ f1.offset = 0 ∧ f2.offset = 1 ∧ f3.offset = 2 := by
  simp only [Program.fieldsOf, Tryz.underlying25]
  exact ⟨_, _, _, rfl, rfl, rfl, rfl, rfl, rfl, rfl, rfl, rfl, rfl⟩
theorem eqCapIn (k : Nat) {a b : Int} {p : List UInt8} (hp : p.length = 32) (w : World) : (Op.equalIn (k + 3) 25 (.agg (I a :: I b :: bs p).toArray) (.agg (I a :: I b :: bs p).toArray)).run Tryz.prog w = .ok true w := by
  obtain ⟨f1, f2, f3, hl, n1, n2, n3, t1, t2, t3, o1, o2, o3⟩ := hlCap
  have c1 : (part 3 (I a :: I b :: bs p).toArray 0).run Tryz.prog w = .ok (I a) w := run_part1 (by rfl) w
  have c2 : (part 3 (I a :: I b :: bs p).toArray 1).run Tryz.prog w = .ok (I b) w := run_part1 (by rfl) w
  have c3 : (part 23 (I a :: I b :: bs p).toArray 2).run Tryz.prog w = .ok (.agg (bs p).toArray) w := run_partA (s := 32) (by
    simp [List.extract, List.take_of_length_le, bs_length, hp]) w
  have e1 : (Op.equalIn (k + 2) 3 (I a) (I a)).run Tryz.prog w = .ok true w := run_eqI (k + 1) a w
  have e2 : (Op.equalIn (k + 2) 3 (I b) (I b)).run Tryz.prog w = .ok true w := run_eqI (k + 1) b w
  have e3 : (Op.equalIn (k + 2) 23 (.agg (bs p).toArray) (.agg (bs p).toArray)).run Tryz.prog w = .ok true w := run_eqr (m := 32) (e := 5) hp k w
  rw [← t1, ← o1] at c1
  rw [← t2, ← o2] at c2
  rw [← t3, ← o3] at c3
  rw [← t1] at e1
  rw [← t2] at e2
  rw [← t3] at e3
  rw [run_equalIn_struct w (k + 2) _ _ _ hfCap hsCap, hl]
  exact run_eqF3 (n1 ▸ by decide) (n2 ▸ by decide) (n3 ▸ by decide) c1 c2 c3 e1 e2 e3
theorem run_eqCap {a b : Int} {p : List UInt8} (hp : p.length = 32) (w : World) : (Op.equalIn 10000 25 (.agg (I a :: I b :: bs p).toArray) (.agg (I a :: I b :: bs p).toArray)).run Tryz.prog w = .ok true w := eqCapIn 9997 hp w
theorem y_eqlCap {n : Nat} {D : List Deferred} {W : World} {Bo : List Nat} {F : List (Nat × Value)} {l : SH} {d : Option Tmp} {ty : TypeId} {ps : String} {af : Array Edge} {g : Option (Nat × Bool)} {x y : Operand} {tb : TypeId} {a b : Int} {p : List UInt8} (hp : p.length = 32)
    (hx : evO F x = some (.agg (I a :: I b :: bs p).toArray) := by rfl) (hy : evO F y = some (.agg (I a :: I b :: bs p).toArray) := by rfl) : Y Tryz.prog n D W Bo ⟨d, .binOp .eql 25 x y tb, ty, ps, af, g⟩ F l (.bool true) :=
  .mk (by simp) fun ac w ha _ => by
    simp only [execOp, ha.eval hx, ha.eval hy, Sem.run_bind, run_eqGuard_agg w .eql 25 x y _ _ hgCap, Result.andThen_ok, run_eql_struct, run_eqCap hp, Sem.run_pure]
end Go.Proofs.YtbbfagnbmofgnaaGreatDoor
