/- The listed variables behind the statements on schedule. -/
import Derived.Test.YtmpjmjllfldjdaaDoorSchA
import Derived.Test.YtmpjmjllfldjdaaDoorOpenX
import Derived.Test.YtmpjmjllfldjdaaDoorCards
import Derived.Test.YtmpjmjllfldjdaaDoorTie
import Derived.JoinedOf
import Derived.SevenTiedAt
namespace Eng
open Go Go.RowKit Go.ChangeShapes Go.WideShapes Go.ChangeAt
/-- a listed array of strings -/
theorem rd_listedS {P : Program} {w : World} {nm : String} {g t e n fuel : Nat} {cs : Array Value} {l : List (List UInt8)} {p : List MemPlace} (hg : P.globalNamed nm = some g) (hv : w.var? P nm = some cs)
    (ht : P.underlying t = some (.array n e)) (he : P.underlying e = some .string) (hce : P.cellsOf e = 1)
    (hd : DataW.trod (fun _ => ()) P w 0 (fun _ => true) false fuel t cs.toList = some (.agg (l.map fun q => .lit (.string q)), p)) : Rd w (some ⟨g, 0, none⟩) (l.map fun q => .string (sb q)) := by
  obtain ⟨tt, fz, hh⟩ := var_heap hg hv
  obtain ⟨xs, m, rfl, hx, hlen, hn, hel⟩ := DataW.trod_array ht hd
  refine .inr ⟨g, 0, cs, tt, fz, rfl, hh, fun i v hiv => ?_⟩
  simp only [Prod.mk.injEq, DataW.agg.injEq] at hx
  obtain ⟨z, hz, rfl⟩ : ∃ z, l[i]? = some z ∧ Value.string (sb z) = v := by simpa [List.getElem?_map] using hiv
  have hi : i < n := by
    have h1 : i < l.length := (List.getElem?_eq_some_iff.1 hz).1
    have h2 : l.length = xs.length := by have := congrArg List.length hx.1; simpa using this
    omega
  have h1 := hel i hi
  have h2 : (xs.map (·.1))[i]? = some (.lit (.string z)) := by rw [← hx.1]; simp [hz]
  rw [List.getElem?_map] at h2
  cases hxi : xs[i]? with
  | none => rw [hxi] at h2; cases h2
  | some y =>
    rw [hxi] at h2 h1
    obtain ⟨s, e1, e2, _⟩ := DataW.trod_string he h1
    have : s = sb z := by
      rw [e2] at h2
      have h4 : s.data.toList = z := by simpa using h2
      rw [← h4]; rfl
    subst this
    rw [hce, Nat.mul_one] at e1
    have h3 : (cs.toList.drop i)[0]? = some (.string (sb z)) := by
      have : ((cs.toList.drop i).take 1)[0]? = some (.string (sb z)) := by rw [e1]; rfl
      simpa [List.getElem?_take] using this
    rw [List.getElem?_drop] at h3
    simpa using h3
end Eng
namespace Go.Proofs.YtmpjmjllfldjdaaDoor
open Go Eng Sha Go.ChangeShapes Go.WideShapes Go.ChangeAt Go.RowKit

theorem own22 : ownKnob Tryd.prog.godebug = none := by kernel_rfl
theorem gStart : Tryd.prog.globalNamed "chartroom/digest.start" = some 1 := by kernel_rfl
theorem tStart : (Tryd.prog.globals[1]?).map (·.type) = some 95 := by kernel_rfl
theorem gNums : Tryd.prog.globalNamed "chartroom/digest.numbers" = some 3 := by kernel_rfl
theorem tNums : (Tryd.prog.globals[3]?).map (·.type) = some 115 := by kernel_rfl
theorem gLab : Tryd.prog.globalNamed "chartroom/schedule.labels" = some 0 := by kernel_rfl
theorem tLab : (Tryd.prog.globals[0]?).map (·.type) = some 93 := by kernel_rfl
abbrev laid22 : List (String × DataW Unit) := [("chartroom/digest.start", Rows.laid_chartroom_digest_start), ("chartroom/digest.numbers", Rows.laid_chartroom_digest_numbers), ("bytes.ErrTooLarge", Rows.laid_bytes_ErrTooLarge), ("chartroom/schedule.labels", Rows.laid_chartroom_schedule_labels)]
theorem eStart : (Rows.laid_chartroom_digest_start : DataW Unit) = .agg (init.l.map fun z => .lit (.int .u32 z.toNat)) := by kernel_rfl
theorem eNums : (Rows.laid_chartroom_digest_numbers : DataW Unit) = .agg (K.map fun z => .lit (.int .u32 z.toNat)) := by kernel_rfl
theorem eLab : (Rows.laid_chartroom_schedule_labels : DataW Unit) = .agg (labs.map fun q => .lit (.string q)) := by kernel_rfl

theorem door22 (os : Os) (args : Array Value) : laidMetH Tryd.prog laid22 ((World.doorLaid Tryd.prog 400 os).forCall (fun _ _ => 0) ⟨#[], args, []⟩).memory :=
  laidMetH_of_parts3 (fuel := 8) (laidMet_of_run' 8 (by kernel_rfl) (by kernel_rfl)) (by kernel_rfl) (by kernel_rfl)

theorem ls_of_laid {W : World} (h : laidMetH Tryd.prog laid22 W) : LS2 W := by
  rw [MakeChecks.laidMetH_plain _ _ _ (by kernel_rfl)] at h
  obtain ⟨ps, ⟨g0, t0, cs0, f0, p0, q0, hg0, ht0, hv0, hd0, ⟨g1, t1, cs1, f1, p1, q1, hg1, ht1, hv1, hd1, ⟨g2, t2, cs2, f2, p2, q2, hg2, ht2, hv2, hd2, ⟨g3, t3, cs3, f3, p3, q3, hg3, ht3, hv3, hd3, _⟩, _⟩, _⟩, _⟩, _⟩ := h
  obtain rfl := Option.some.inj (gStart.symm.trans hg0)
  obtain rfl := Option.some.inj (tStart.symm.trans ht0)
  obtain rfl := Option.some.inj (gNums.symm.trans hg1)
  obtain rfl := Option.some.inj (tNums.symm.trans ht1)
  obtain rfl := Option.some.inj (gLab.symm.trans hg3)
  obtain rfl := Option.some.inj (tLab.symm.trans ht3)
  rw [eStart] at hd0
  rw [eNums] at hd1
  rw [eLab] at hd3
  exact ⟨⟨rd_listedW gStart hv0 Tryd.underlying95 Tryd.underlying94 (by kernel_rfl) hd0, rd_listedW gNums hv1 Tryd.underlying115 Tryd.underlying94 (by kernel_rfl) hd1⟩,
    rd_listedS gLab hv3 Tryd.underlying93 Tryd.underlying9 (by kernel_rfl) hd3⟩
end Go.Proofs.YtmpjmjllfldjdaaDoor
