/- The statements on restoring people: rows and cards. No condition beyond the rows' own. -/
import Derived.Test.YtojohglifijnnaaGreatDoorSg7
import Derived.Test.YtojohglifijnnaaGreatDoorJo39
set_option linter.all false
namespace Go.Proofs.YtojohglifijnnaaGreatDoor
open Go Eng Rst Go.ChangeShapes Go.WideShapes Go.ChangeAt Go.RowKit

set_option maxRecDepth 100000 in
theorem RestoreSigned_lifted (os : Os) (started : os.Started) (H : Type) (enc : TypeId × Value → H) :
    ReturnsInHanded {} Tryz.checked os 8 .any (fun w args => (Rows.restoreSignedSpec.pre enc Tryz.prog Tryz.f8 [] false w args ∧ laidMetH Tryz.prog laid39 w) ∧ sizedMet enc Tryz.prog Tryz.f8 (OpenSpec.ofChange Rows.restoreSignedSpec) false w args)
      (Rows.restoreSignedSpec.post enc Tryz.prog Tryz.f8 false true false false) := by
  refine law_lifted (C := Tryz.checked) (X := fun w _ => laidMetH Tryz.prog laid39 w) (fun _ _ _ hh h => h.of_heap hh) own39 started (by kernel_rfl) Tryz.func8
    (ChangeSpec.witness_shaped (enc := enc) (C := Tryz.checked) (os := os) (X := fun w _ => laidMetH Tryz.prog laid39 w) false (World.doorLaid Tryz.prog 400 os) #[.agg #[.int .i64 0, .int .i64 0, .slice none 0 0, .int .i64 0, .int .i64 0], .agg #[.int .i64 0, .int .i64 0, .int .i64 0, .int .i64 0, .int .i64 0, .slice none 0 0, .slice none 0 0], .int .i64 0, .agg #[.int .i64 0, .int .i64 0], .int .i64 0, .agg (List.replicate 32 (.int .u8 0)).toArray, .slice none 0 0, .int .i64 0, .int .i64 0] 8 rfl (World.shaped_of_RefB (by kernel_rfl) (by kernel_rfl)) (by kernel_rfl) (by kernel_rfl) (by kernel_rfl) (door39 os _))
    (by kernel_rfl) (by kernel_rfl) rfl Tryz.underlying4 rfl (fun ds hds => by match ds, hds with | [d0, d1, d2, d3, d4, d5, d6, d7, d8], _ => rfl) ?_
  intro W base args ds p hval hA hsz hL
  rw [Tryz.params8] at hA hval hsz
  obtain ⟨v0, vs0, d0, ds0, p0, q0', hargs0, hds0, hps0, h0, r0⟩ := trodAll_cons hA
  obtain ⟨v1, vs1, d1, ds1, p1, q1', hargs1, hds1, hps1, h1, r1⟩ := trodAll_cons r0
  obtain ⟨v2, vs2, d2, ds2, p2, q2', hargs2, hds2, hps2, h2, r2⟩ := trodAll_cons r1
  obtain ⟨v3, vs3, d3, ds3, p3, q3', hargs3, hds3, hps3, h3, r3⟩ := trodAll_cons r2
  obtain ⟨v4, vs4, d4, ds4, p4, q4', hargs4, hds4, hps4, h4, r4⟩ := trodAll_cons r3
  obtain ⟨v5, vs5, d5, ds5, p5, q5', hargs5, hds5, hps5, h5, r5⟩ := trodAll_cons r4
  obtain ⟨v6, vs6, d6, ds6, p6, q6', hargs6, hds6, hps6, h6, r6⟩ := trodAll_cons r5
  obtain ⟨v7, vs7, d7, ds7, p7, q7', hargs7, hds7, hps7, h7, r7⟩ := trodAll_cons r6
  obtain ⟨v8, vs8, d8, ds8, p8, q8', hargs8, hds8, hps8, h8, r8⟩ := trodAll_cons r7
  obtain ⟨e1, e2, e3⟩ := trodAll_nil r8
  subst e1 e2 e3
  subst hargs8 hds8
  subst hargs7 hds7
  subst hargs6 hds6
  subst hargs5 hds5
  subst hargs4 hds4
  subst hargs3 hds3
  subst hargs2 hds2
  subst hargs1 hds1
  subst hds0
  obtain rfl : args = #[v0, v1, v2, v3, v4, v5, v6, v7, v8] := by cases args; simp_all
  obtain ⟨p0, ga0, gc0, rfl, hp0⟩ := op_person (hval 0 26 v0 rfl rfl) h0
  obtain ⟨c1, aa1, va1, ac1, vc1, rfl, hc1⟩ := op_case (hval 1 30 v1 rfl rfl) h1
  obtain ⟨a2, rfl, hb2⟩ := op_int Tryz.underlying3 (hval 2 3 v2 rfl rfl) h2
  obtain ⟨x3, y3, rfl⟩ := op_share (hval 3 46 v3 rfl rfl) h3
  obtain ⟨a4, rfl, hb4⟩ := op_int Tryz.underlying3 (hval 4 3 v4 rfl rfl) h4
  obtain ⟨k5, rfl, hk5⟩ := op_key Tryz.underlying24 Tryz.underlying5 (by kernel_rfl) (by kernel_rfl) (hval 5 24 v5 rfl rfl) h5
  obtain ⟨a6, c6, l6, rfl, hr6, hl6⟩ := op_lists (hval 6 51 v6 rfl rfl) h6
  obtain ⟨a7, rfl, hb7⟩ := op_int Tryz.underlying3 (hval 7 3 v7 rfl rfl) h7
  obtain ⟨a8, rfl, hb8⟩ := op_int Tryz.underlying3 (hval 8 3 v8 rfl rfl) h8
  exact law_RestoreSigned_ok W (lc_of_laid hL) p0 c1 ga0 aa1 va1 gc0 ac1 vc1 hp0 hc1 a2 x3 y3 a4 k5 l6 a6 c6 a7 a8 hk5 hr6 hb2 hb7 hb8
theorem RestoreSigned_jA : (Rows.restoreSignedRow.inPlace == Tryz.prog.inPlace 8) = true := by kernel_rfl
theorem RestoreSigned_jB : (Rows.restoreSignedRow.unfollowed == Tryz.prog.unfollowed 8) = true := by kernel_rfl
theorem RestoreSigned_jC : (Rows.restoreSignedRow.recurses == Tryz.prog.recurses 8) = true := by kernel_rfl
theorem RestoreSigned_jD : (Rows.restoreSignedRow.named == Tryz.prog.varsNamed 8) = true := by kernel_rfl
theorem RestoreSigned_jI : (Rows.restoreSignedRow.plainKeys == Tryz.prog.plainKeys) = true := by kernel_rfl
theorem RestoreSigned_goes : false = Rows.restoreSignedRow.goesBy Tryz.prog := by kernel_rfl
theorem RestoreSigned_closed : joinedFacts Tryz.prog 8 Tryz.f8 Rows.restoreSignedSpec Rows.restoreSignedRow = true := by
  unfold joinedFacts
  rw [RestoreSigned_jA, RestoreSigned_jB, RestoreSigned_jC, RestoreSigned_jD, RestoreSigned_jI, jLaid, jMapsR, jHeard]
  kernel_rfl
theorem RestoreSigned_row : Rows.RestoreSignedSaid :=
  OpenClaim.holds_of_wide 8 Tryz.f8 rfl rfl rfl rfl rfl rfl rfl ⟨rfl, rfl, rfl, rfl, rfl⟩ rfl rfl rfl rfl rfl (by kernel_rfl) Tryz.func8 RestoreSigned_closed
    (of_decide_eq_true (by kernel_rfl)) (by unfold Func.isWrapper; first | (rw [if_pos (by decide +kernel)]; kernel_rfl) | (rw [if_neg (by decide +kernel)]; exact ⟨rfl, rfl⟩))
    (fun os started H enc _ => RestoreSigned_lifted os started H enc)
theorem RestoreSigned_holds : Rows.RestoreSignedCardSaid :=
  Claim7.holds_tied_plain_at .later [] [.data, .data, .sentinel, .widerDeep] true (true, "c5173c52556c730f0d35e313665cbab697f10c557c5ca798e47072747da33d9f") true
    RestoreSigned_row (fun _ h => by cases h) (by kernel_rfl) (fun _ h => by cases h) restoreSigned_row_tie rfl ⟨rfl, rfl⟩ (by kernel_rfl) rfl
    (fun f fn hf hfn => by
      obtain rfl : f = 8 := Option.some.inj ((show Tryz.prog.funcNamed "chartroom/chartroomlaw39.RestoreSigned" = some 8 by kernel_rfl).symm.trans hf) |>.symm
      obtain rfl : fn = Tryz.f8 := (Option.some.inj (Tryz.func8.symm.trans hfn)).symm
      exact ⟨jLooks, fun j t ht => by
        rw [Tryz.params8] at ht
        have hm := Array.mem_of_getElem? ht
        have hall : (#[26, 30, 3, 46, 3, 24, 51, 3, 3].all fun u => !Tryz.prog.wantsStandIn u) = true := by kernel_rfl
        have := Array.all_eq_true_iff_forall_mem.1 hall t hm
        exact (show Tryz.prog.wantsStandIn t = false by simpa using this)⟩)
    RestoreSigned_goes
#print axioms RestoreSigned_holds

end Go.Proofs.YtojohglifijnnaaGreatDoor

