/- The listed variables behind the statements on derive. -/
import Derived.Test.YtjfiggbgpplopaaDoorLawB07
import Derived.Test.YtjfiggbgpplopaaDoorOpenX
import Derived.Test.YtjfiggbgpplopaaDoorCards
import Derived.Test.YtjfiggbgpplopaaDoorTie
import Derived.JoinedOf
import Derived.SevenTiedAt
namespace Go.Proofs.YtjfiggbgpplopaaDoor
open Go Eng Sha Go.ChangeShapes Go.WideShapes Go.ChangeAt Go.RowKit

theorem own07 : ownKnob Tryd.prog.godebug = none := by kernel_rfl
theorem gStart : Tryd.prog.globalNamed "chartroom/digest.start" = some 0 := by kernel_rfl
theorem tStart : (Tryd.prog.globals[0]?).map (·.type) = some 73 := by kernel_rfl
theorem gNums : Tryd.prog.globalNamed "chartroom/digest.numbers" = some 1 := by kernel_rfl
theorem tNums : (Tryd.prog.globals[1]?).map (·.type) = some 104 := by kernel_rfl
abbrev laid07 : List (String × DataW Unit) := [("chartroom/digest.start", Rows.laid_chartroom_digest_start), ("chartroom/digest.numbers", Rows.laid_chartroom_digest_numbers), ("bytes.ErrTooLarge", Rows.laid_bytes_ErrTooLarge)]
theorem eStart : (Rows.laid_chartroom_digest_start : DataW Unit) = .agg (init.l.map fun z => .lit (.int .u32 z.toNat)) := by kernel_rfl
theorem eNums : (Rows.laid_chartroom_digest_numbers : DataW Unit) = .agg (K.map fun z => .lit (.int .u32 z.toNat)) := by kernel_rfl

theorem door07 (os : Os) (args : Array Value) : laidMetH Tryd.prog laid07 ((World.doorLaid Tryd.prog 400 os).forCall (fun _ _ => 0) ⟨#[], args, []⟩).memory :=
  laidMetH_of_parts3 (fuel := 8) (laidMet_of_run' 8 (by kernel_rfl) (by kernel_rfl)) (by kernel_rfl) (by kernel_rfl)

theorem ls_of_laid {W : World} (h : laidMetH Tryd.prog laid07 W) : LS W := by
  rw [MakeChecks.laidMetH_plain _ _ _ (by kernel_rfl)] at h
  obtain ⟨ps, ⟨g0, t0, cs0, f0, p0, q0, hg0, ht0, hv0, hd0, ⟨g1, t1, cs1, f1, p1, q1, hg1, ht1, hv1, hd1, _⟩, _⟩, _⟩ := h
  obtain rfl := Option.some.inj (gStart.symm.trans hg0)
  obtain rfl := Option.some.inj (tStart.symm.trans ht0)
  obtain rfl := Option.some.inj (gNums.symm.trans hg1)
  obtain rfl := Option.some.inj (tNums.symm.trans ht1)
  rw [eStart] at hd0
  rw [eNums] at hd1
  exact ⟨rd_listedW gStart hv0 Tryd.underlying73 Tryd.underlying72 (by kernel_rfl) hd0, rd_listedW gNums hv1 Tryd.underlying104 Tryd.underlying72 (by kernel_rfl) hd1⟩
end Go.Proofs.YtjfiggbgpplopaaDoor
