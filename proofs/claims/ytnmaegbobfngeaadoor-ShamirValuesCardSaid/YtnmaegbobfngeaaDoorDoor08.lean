/- The listed variables behind the statements on shares. -/
import Derived.Test.YtnmaegbobfngeaaDoorShA
import Derived.Test.YtnmaegbobfngeaaDoorOpenX
import Derived.Test.YtnmaegbobfngeaaDoorCards
import Derived.Test.YtnmaegbobfngeaaDoorTie
import Derived.JoinedOf
import Derived.SevenTiedAt
namespace Go.Proofs.YtnmaegbobfngeaaDoor
open Go Eng Sha Go.ChangeShapes Go.WideShapes Go.ChangeAt Go.RowKit

theorem own08 : ownKnob Tryd.prog.godebug = none := by kernel_rfl
theorem gStart : Tryd.prog.globalNamed "chartroom/digest.start" = some 3 := by kernel_rfl
theorem tStart : (Tryd.prog.globals[3]?).map (·.type) = some 130 := by kernel_rfl
theorem gNums : Tryd.prog.globalNamed "chartroom/digest.numbers" = some 4 := by kernel_rfl
theorem tNums : (Tryd.prog.globals[4]?).map (·.type) = some 137 := by kernel_rfl
abbrev laid08 : List (String × DataW Unit) := [("chartroom/digest.start", Rows.laid_chartroom_digest_start), ("chartroom/digest.numbers", Rows.laid_chartroom_digest_numbers), ("bytes.ErrTooLarge", Rows.laid_bytes_ErrTooLarge)]
theorem eStart : (Rows.laid_chartroom_digest_start : DataW Unit) = .agg (init.l.map fun z => .lit (.int .u32 z.toNat)) := by kernel_rfl
theorem eNums : (Rows.laid_chartroom_digest_numbers : DataW Unit) = .agg (K.map fun z => .lit (.int .u32 z.toNat)) := by kernel_rfl

theorem door08 (os : Os) (args : Array Value) : laidMetH Tryd.prog laid08 ((World.doorLaid Tryd.prog 400 os).forCall (fun _ _ => 0) ⟨#[], args, []⟩).memory :=
  laidMetH_of_parts3 (fuel := 8) (laidMet_of_run' 8 (by kernel_rfl) (by kernel_rfl)) (by kernel_rfl) (by kernel_rfl)

theorem ls_of_laid {W : World} (h : laidMetH Tryd.prog laid08 W) : LS W := by
  rw [MakeChecks.laidMetH_plain _ _ _ (by kernel_rfl)] at h
  obtain ⟨ps, ⟨g0, t0, cs0, f0, p0, q0, hg0, ht0, hv0, hd0, ⟨g1, t1, cs1, f1, p1, q1, hg1, ht1, hv1, hd1, _⟩, _⟩, _⟩ := h
  obtain rfl := Option.some.inj (gStart.symm.trans hg0)
  obtain rfl := Option.some.inj (tStart.symm.trans ht0)
  obtain rfl := Option.some.inj (gNums.symm.trans hg1)
  obtain rfl := Option.some.inj (tNums.symm.trans ht1)
  rw [eStart] at hd0
  rw [eNums] at hd1
  exact ⟨rd_listedW gStart hv0 Tryd.underlying130 Tryd.underlying129 (by kernel_rfl) hd0, rd_listedW gNums hv1 Tryd.underlying137 Tryd.underlying129 (by kernel_rfl) hd1⟩
section
variable {H : Type} {enc : TypeId × Value → H} {W : World} {r : Reach} {b0 fuel : Nat} {v : Value} {d : DataW H} {ps : List MemPlace} {cs : List Value} {x : DataW H × List MemPlace}
set_option maxRecDepth 100000 in
theorem td_share (h : DataW.trod enc Tryd.prog W b0 (fun _ => true) true fuel 42 cs = some x) (hlen : cs.length = 2) : ∃ s : Int × Int, cs = [I s.1, I s.2] := by
  obtain ⟨xs, n, _, _, hl, hn, hel⟩ := DataW.trod_struct Tryd.underlying42 h
  have hn' : xs.length = 2 := hn
  have h0 := hel 0 _ rfl
  have h1 := hel 1 _ rfl
  rw [List.getElem?_eq_getElem (by omega)] at h0 h1
  obtain ⟨a, e0, _⟩ := td_int Tryd.underlying3 h0
  obtain ⟨b, e1, _⟩ := td_int Tryd.underlying3 h1
  have e0' : (cs.drop 0).take 1 = [I a] := e0
  have e1' : (cs.drop 1).take 1 = [I b] := e1
  match cs, hlen with
  | [x, y], _ =>
    simp only [List.drop_zero, List.take_succ_cons, List.take_zero, List.drop_succ_cons, List.cons.injEq, and_true] at e0' e1'
    exact ⟨(a, b), by rw [e0', e1']⟩
set_option maxRecDepth 100000 in
/-- a list of shares -/
theorem op_shares (hval : Value.okWide Tryd.prog W r b0 22 v) (hd : DataW.Trod enc Tryd.prog W 0 (fun _ => true) true 22 v d ps) :
    ∃ a c l, v = .slice a (List.length l) c ∧ Rd W a (Gf.shc l) ∧ l.length ≤ c := by
  obtain ⟨a0, len, cap, rfl⟩ := okWide_slice Tryd.underlying22 hval
  obtain ⟨fuel, hf⟩ := hd
  obtain ⟨a, L, c, h1, h2, h3, h4, h5⟩ := td_slice Tryd.underlying22 hf
  simp only [Value.cells, List.cons.injEq, Value.slice.injEq, and_true] at h1
  obtain ⟨rfl, rfl, rfl⟩ := h1
  obtain ⟨l, rfl, _⟩ := map_of (f := fun s : Int × Int => [I s.1, I s.2]) (p := fun _ => True) fun y hy => by
    obtain ⟨hy, n, z, hz⟩ := h5 y hy
    rw [show (Tryd.prog).cellsOf 42 = 2 by kernel_rfl] at hy
    obtain ⟨s, hs⟩ := td_share hz hy
    exact ⟨s, hs, trivial⟩
  rw [List.length_map] at h3
  exact ⟨a0, cap, l, by rw [List.length_map], by rw [Gf.shc, List.flatMap_def]; exact h2, h3⟩
set_option maxRecDepth 100000 in
/-- a list of truth values -/
theorem op_bools (hval : Value.okWide Tryd.prog W r b0 34 v) (hd : DataW.Trod enc Tryd.prog W 0 (fun _ => true) true 34 v d ps) :
    ∃ a c l, v = .slice a (List.length l) c ∧ Rd W a (l.map Value.bool) := by
  obtain ⟨a0, len, cap, rfl⟩ := okWide_slice Tryd.underlying34 hval
  obtain ⟨fuel, hf⟩ := hd
  obtain ⟨a, L, c, h1, h2, h3, h4, h5⟩ := td_slice Tryd.underlying34 hf
  simp only [Value.cells, List.cons.injEq, Value.slice.injEq, and_true] at h1
  obtain ⟨rfl, rfl, rfl⟩ := h1
  obtain ⟨l, rfl, _⟩ := map_of (f := fun b : Bool => [Value.bool b]) (p := fun _ => True) fun y hy => by
    obtain ⟨_, n, z, hz⟩ := h5 y hy
    obtain ⟨b, hb⟩ := td_bool Tryd.underlying4 hz
    exact ⟨b, hb, trivial⟩
  have e : ∀ l : List Bool, (l.map fun b : Bool => [Value.bool b]).flatten = l.map Value.bool := fun l => by
    induction l with
    | nil => rfl
    | cons b l ih => simp [ih]
  rw [e] at h2
  exact ⟨a0, cap, l, by rw [List.length_map], h2⟩
end
end Go.Proofs.YtnmaegbobfngeaaDoor
