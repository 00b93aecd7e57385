/- The statement through the layers: row and card. No condition beyond the row's own. -/
import Derived.Test.YtegfmbefhpagmaaGreatDoorTo8
import Derived.Test.YtegfmbefhpagmaaGreatDoorJoTop
namespace Go.Proofs.YtegfmbefhpagmaaGreatDoor
open Go Eng Rst Go.ChangeShapes Go.WideShapes Go.ChangeAt Go.RowKit

set_option maxRecDepth 100000 in
theorem TopRestore_lifted (os : Os) (started : os.Started) (H : Type) (enc : TypeId × Value → H) :
    ReturnsInHanded {} Tryz.checked os 3 .any (fun w args => (Rows.topRestoreSpec.pre enc Tryz.prog Tryz.f3 [] false w args ∧ laidMetH Tryz.prog laidTop w) ∧ sizedMet enc Tryz.prog Tryz.f3 (OpenSpec.ofChange Rows.topRestoreSpec) false w args)
      (Rows.topRestoreSpec.post enc Tryz.prog Tryz.f3 false true false false) := by
  refine law_lifted (C := Tryz.checked) (X := fun w _ => laidMetH Tryz.prog laidTop w) (fun _ _ _ hh h => h.of_heap hh) ownTop started (by kernel_rfl) Tryz.func3
    (ChangeSpec.witness_shaped (enc := enc) (C := Tryz.checked) (os := os) (X := fun w _ => laidMetH Tryz.prog laidTop w) false (World.doorLaid Tryz.prog 400 os) #[.int .u8 0, .int .u8 0, .int .u8 0, .agg (List.replicate 32 (.int .u8 0)).toArray, .slice none 0 0, .bool false, .int .u8 0] 8 rfl (World.shaped_of_RefB (by kernel_rfl) (by kernel_rfl)) (by kernel_rfl) (by kernel_rfl) (by kernel_rfl) (doorTop os _))
    (by kernel_rfl) (by kernel_rfl) rfl Tryz.underlying4 rfl (fun ds hds => by match ds, hds with | [d0, d1, d2, d3, d4, d5, d6], _ => rfl) ?_
  intro W base args ds p hval hA hsz hL
  rw [Tryz.params3] at hA hval hsz
  obtain ⟨v0, vs0, d0, ds0, p0, q0', hargs0, hds0, hps0, h0, r0⟩ := trodAll_cons hA
  obtain ⟨v1, vs1, d1, ds1, p1, q1', hargs1, hds1, hps1, h1, r1⟩ := trodAll_cons r0
  obtain ⟨v2, vs2, d2, ds2, p2, q2', hargs2, hds2, hps2, h2, r2⟩ := trodAll_cons r1
  obtain ⟨v3, vs3, d3, ds3, p3, q3', hargs3, hds3, hps3, h3, r3⟩ := trodAll_cons r2
  obtain ⟨v4, vs4, d4, ds4, p4, q4', hargs4, hds4, hps4, h4, r4⟩ := trodAll_cons r3
  obtain ⟨v5, vs5, d5, ds5, p5, q5', hargs5, hds5, hps5, h5, r5⟩ := trodAll_cons r4
  obtain ⟨v6, vs6, d6, ds6, p6, q6', hargs6, hds6, hps6, h6, r6⟩ := trodAll_cons r5
  obtain ⟨e1, e2, e3⟩ := trodAll_nil r6
  subst e1 e2 e3
  subst hargs6 hds6
  subst hargs5 hds5
  subst hargs4 hds4
  subst hargs3 hds3
  subst hargs2 hds2
  subst hargs1 hds1
  subst hds0
  obtain rfl : args = #[v0, v1, v2, v3, v4, v5, v6] := by cases args; simp_all
  obtain ⟨y0, rfl⟩ := op_byte Tryz.underlying5 (hval 0 5 v0 rfl rfl) h0
  obtain ⟨y1, rfl⟩ := op_byte Tryz.underlying5 (hval 1 5 v1 rfl rfl) h1
  obtain ⟨y2, rfl⟩ := op_byte Tryz.underlying5 (hval 2 5 v2 rfl rfl) h2
  obtain ⟨k3, rfl, hk3⟩ := op_key Tryz.underlying23 Tryz.underlying5 (by kernel_rfl) (by kernel_rfl) (hval 3 23 v3 rfl rfl) h3
  have hw4 : ∀ n ∈ d4.weights Tryz.prog 24, n ≤ reachBytes := fun n hn => by have := List.all_eq_true.1 hsz _ (DataW.weights_mem_each (j := 4) rfl rfl n hn); simpa using this
  obtain ⟨a4, c4, q4, rfl, hr4, hc4, hm4⟩ := op_bytes Tryz.underlying24 Tryz.underlying5 (by kernel_rfl) (by kernel_rfl) (hval 4 24 v4 rfl rfl) h4 hw4
  obtain ⟨b5, rfl⟩ := op_bool Tryz.underlying4 (hval 5 4 v5 rfl rfl) h5
  obtain ⟨y6, rfl⟩ := op_byte Tryz.underlying5 (hval 6 5 v6 rfl rfl) h6
  exact top_ok W y0 y1 y2 y6 k3 q4 a4 c4 b5 (lc_of_laid hL) hk3 hr4
theorem TopRestore_jA : (Rows.topRestoreRow.inPlace == Tryz.prog.inPlace 3) = true := by kernel_rfl
theorem TopRestore_jB : (Rows.topRestoreRow.unfollowed == Tryz.prog.unfollowed 3) = true := by kernel_rfl
theorem TopRestore_jC : (Rows.topRestoreRow.recurses == Tryz.prog.recurses 3) = true := by kernel_rfl
theorem TopRestore_jD : (Rows.topRestoreRow.named == Tryz.prog.varsNamed 3) = true := by kernel_rfl
theorem TopRestore_jI : (Rows.topRestoreRow.plainKeys == Tryz.prog.plainKeys) = true := by kernel_rfl
theorem TopRestore_goes : false = Rows.topRestoreRow.goesBy Tryz.prog := by kernel_rfl
theorem TopRestore_closed : joinedFacts Tryz.prog 3 Tryz.f3 Rows.topRestoreSpec Rows.topRestoreRow = true := by
  unfold joinedFacts
  rw [TopRestore_jA, TopRestore_jB, TopRestore_jC, TopRestore_jD, TopRestore_jI, jLaid, jMapsR, jHeard]
  kernel_rfl
theorem TopRestore_row : Rows.TopRestoreSaid :=
  OpenClaim.holds_of_wide 3 Tryz.f3 rfl rfl rfl rfl rfl rfl rfl ⟨rfl, rfl, rfl, rfl, rfl⟩ rfl rfl rfl rfl rfl (by kernel_rfl) Tryz.func3 TopRestore_closed
    (of_decide_eq_true (by kernel_rfl)) (by unfold Func.isWrapper; first | (rw [if_pos (by decide +kernel)]; kernel_rfl) | (rw [if_neg (by decide +kernel)]; exact ⟨rfl, rfl⟩))
    (fun os started H enc _ => TopRestore_lifted os started H enc)
theorem TopRestore_holds : Rows.TopRestoreCardSaid :=
  Claim7.holds_tied_plain_at .later [] [.data, .data, .sentinel, .widerDeep] true (true, "3d171bac95d5f738bdf9af893b7e59085410c2a074c2bdfd1247838dd878c9c5") true
    TopRestore_row (fun _ h => by cases h) (by kernel_rfl) (fun _ h => by cases h) topRestore_row_tie rfl ⟨rfl, rfl⟩ (by kernel_rfl) rfl
    (fun f fn hf hfn => by
      obtain rfl : f = 3 := Option.some.inj ((show Tryz.prog.funcNamed "chartroom/chartroomtop.TopRestore" = some 3 by kernel_rfl).symm.trans hf) |>.symm
      obtain rfl : fn = Tryz.f3 := (Option.some.inj (Tryz.func3.symm.trans hfn)).symm
      exact ⟨jLooks, fun j t ht => by
        rw [Tryz.params3] at ht
        have hm := Array.mem_of_getElem? ht
        have hall : (#[5, 5, 5, 23, 24, 4, 5].all fun u => !Tryz.prog.wantsStandIn u) = true := by kernel_rfl
        have := Array.all_eq_true_iff_forall_mem.1 hall t hm
        exact (show Tryz.prog.wantsStandIn t = false by simpa using this)⟩)
    TopRestore_goes
#print axioms TopRestore_holds

end Go.Proofs.YtegfmbefhpagmaaGreatDoor

