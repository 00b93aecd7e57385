/- The listed variables behind the statements on proxy. -/
import Derived.Test.YtbbfagnbmofgnaaGreatDoorShaX
import Derived.Test.YtbbfagnbmofgnaaGreatDoorOpenX
import Derived.Test.YtbbfagnbmofgnaaGreatDoorCards
import Derived.Test.YtbbfagnbmofgnaaGreatDoorTie
import Derived.JoinedOf
import Derived.SevenTiedAt
namespace Go.Proofs.YtbbfagnbmofgnaaGreatDoor
open Go Eng Sha Go.ChangeShapes Go.WideShapes Go.ChangeAt Go.RowKit

theorem own11 : ownKnob Tryz.prog.godebug = none := by kernel_rfl
theorem gStart : Tryz.prog.globalNamed "chartroom/digest.start" = some 2 := by kernel_rfl
theorem tStart : (Tryz.prog.globals[2]?).map (·.type) = some 112 := by kernel_rfl
theorem gNums : Tryz.prog.globalNamed "chartroom/digest.numbers" = some 4 := by kernel_rfl
theorem tNums : (Tryz.prog.globals[4]?).map (·.type) = some 128 := by kernel_rfl
abbrev laid11 : List (String × DataW Unit) := [("chartroom/digest.start", Rows.laid_chartroom_digest_start), ("chartroom/digest.numbers", Rows.laid_chartroom_digest_numbers), ("bytes.ErrTooLarge", Rows.laid_bytes_ErrTooLarge)]
theorem eStart : (Rows.laid_chartroom_digest_start : DataW Unit) = .agg (init.l.map fun z => .lit (.int .u32 z.toNat)) := by kernel_rfl
theorem eNums : (Rows.laid_chartroom_digest_numbers : DataW Unit) = .agg (K.map fun z => .lit (.int .u32 z.toNat)) := by kernel_rfl

theorem door11 (os : Os) (args : Array Value) : laidMetH Tryz.prog laid11 ((World.doorLaid Tryz.prog 400 os).forCall (fun _ _ => 0) ⟨#[], args, []⟩).memory :=
  laidMetH_of_parts3 (fuel := 8) (laidMet_of_run' 8 (by kernel_rfl) (by kernel_rfl)) (by kernel_rfl) (by kernel_rfl)

theorem ls_of_laid {W : World} (h : laidMetH Tryz.prog laid11 W) : LS W := by
  rw [MakeChecks.laidMetH_plain _ _ _ (by kernel_rfl)] at h
  obtain ⟨ps, ⟨g0, t0, cs0, f0, p0, q0, hg0, ht0, hv0, hd0, ⟨g1, t1, cs1, f1, p1, q1, hg1, ht1, hv1, hd1, _⟩, _⟩, _⟩ := h
  obtain rfl := Option.some.inj (gStart.symm.trans hg0)
  obtain rfl := Option.some.inj (tStart.symm.trans ht0)
  obtain rfl := Option.some.inj (gNums.symm.trans hg1)
  obtain rfl := Option.some.inj (tNums.symm.trans ht1)
  rw [eStart] at hd0
  rw [eNums] at hd1
  exact ⟨rd_listedW gStart hv0 Tryz.underlying112 Tryz.underlying111 (by kernel_rfl) hd0, rd_listedW gNums hv1 Tryz.underlying128 Tryz.underlying111 (by kernel_rfl) hd1⟩
section
variable {H : Type} {enc : TypeId × Value → H} {W : World} {r : Reach} {b0 : Nat} {v : Value} {d : DataW H} {ps : List MemPlace}
set_option maxRecDepth 100000 in
/-- a capsule -/
theorem op_cap (hval : Value.okWide Tryz.prog W r b0 25 v) (hd : DataW.Trod enc Tryz.prog W 0 (fun _ => true) true 25 v d ps) :
    ∃ (a b : Int) (p : List UInt8), v = .agg (I a :: I b :: bs p).toArray ∧ p.length = 32 ∧ R64 a ∧ R64 b := by
  have h0 : ∃ cs, v = .agg cs ∧ cs.size = (Tryz.prog).cellsOf 25 := by
    simp only [Value.okWide, Tryz.underlying25] at hval
    obtain ⟨cs, h1, h2, _⟩ := hval
    exact ⟨cs, h1, h2⟩
  obtain ⟨cs, rfl, hsz⟩ := h0
  rw [show (Tryz.prog).cellsOf 25 = 34 by kernel_rfl] at hsz
  obtain ⟨fuel, hf⟩ := hd
  obtain ⟨xs, n, _, _, hl, hn, hel⟩ := DataW.trod_struct Tryz.underlying25 hf
  have hn' : xs.length = 3 := hn
  have h0 := hel 0 _ rfl
  have h1 := hel 1 _ rfl
  have h2 := hel 2 _ rfl
  rw [List.getElem?_eq_getElem (by omega)] at h0 h1 h2
  obtain ⟨a, e0, ha⟩ := td_int Tryz.underlying3 h0
  obtain ⟨b, e1, hb⟩ := td_int Tryz.underlying3 h1
  obtain ⟨p, e2, hp⟩ := td_key (m := 32) Tryz.underlying23 Tryz.underlying5 (by kernel_rfl) (by kernel_rfl) h2
  refine ⟨a, b, p, ?_, hp, ha, hb⟩
  have e0' : (cs.toList.drop 0).take 1 = [I a] := e0
  have e1' : (cs.toList.drop 1).take 1 = [I b] := e1
  have e2' : (cs.toList.drop 2).take 32 = bs p := e2
  have hlen : cs.toList.length = 34 := by simpa using hsz
  obtain ⟨L, rfl⟩ : ∃ L : List Value, cs = L.toArray := ⟨cs.toList, by simp⟩
  have hlen : L.length = 34 := hlen
  have e0' : (L.drop 0).take 1 = [I a] := e0'
  have e1' : (L.drop 1).take 1 = [I b] := e1'
  have e2' : (L.drop 2).take 32 = bs p := e2'
  match L, hlen with
  | x :: y :: rest, hlen =>
    simp only [List.drop_zero, List.take_succ_cons, List.take_zero, List.drop_succ_cons, List.cons.injEq, and_true] at e0' e1' e2'
    rw [List.take_of_length_le (by simp only [List.length_cons] at hlen; omega)] at e2'
    rw [e0', e1', e2']
end
end Go.Proofs.YtbbfagnbmofgnaaGreatDoor
