/- The statements on restoring people: rows and cards. No condition beyond the rows' own. -/
import Derived.Test.YtojohglifijnnaaGreatDoorOj7
import Derived.Test.YtojohglifijnnaaGreatDoorJo39
set_option linter.all false
namespace Go.Proofs.YtojohglifijnnaaGreatDoor
open Go Eng Rst Go.ChangeShapes Go.WideShapes Go.ChangeAt Go.RowKit

set_option maxRecDepth 100000 in
theorem RestoreObjected_lifted (os : Os) (started : os.Started) (H : Type) (enc : TypeId × Value → H) :
    ReturnsInHanded {} Tryz.checked os 7 .any (fun w args => (Rows.restoreObjectedSpec.pre enc Tryz.prog Tryz.f7 [] false w args ∧ laidMetH Tryz.prog laid39 w) ∧ sizedMet enc Tryz.prog Tryz.f7 (OpenSpec.ofChange Rows.restoreObjectedSpec) false w args)
      (Rows.restoreObjectedSpec.post enc Tryz.prog Tryz.f7 false true false false) := by
  refine law_lifted (C := Tryz.checked) (X := fun w _ => laidMetH Tryz.prog laid39 w) (fun _ _ _ hh h => h.of_heap hh) own39 started (by kernel_rfl) Tryz.func7
    (ChangeSpec.witness_shaped (enc := enc) (C := Tryz.checked) (os := os) (X := fun w _ => laidMetH Tryz.prog laid39 w) false (World.doorLaid Tryz.prog 400 os) #[.agg #[.int .i64 0, .int .i64 0, .slice none 0 0, .int .i64 0, .int .i64 0], .agg #[.int .i64 0, .int .i64 0, .int .i64 0, .int .i64 0, .int .i64 0, .slice none 0 0, .slice none 0 0], .int .i64 0, .int .i64 0, .int .i64 0, .agg #[.int .i64 0, .int .i64 0, .int .i64 0, .int .i64 0, .bool false], .int .i64 0, .int .u16 0] 8 rfl (World.shaped_of_RefB (by kernel_rfl) (by kernel_rfl)) (by kernel_rfl) (by kernel_rfl) (by kernel_rfl) (door39 os _))
    (by kernel_rfl) (by kernel_rfl) rfl Tryz.underlying4 rfl (fun ds hds => by match ds, hds with | [d0, d1, d2, d3, d4, d5, d6, d7], _ => rfl) ?_
  intro W base args ds p hval hA hsz hL
  rw [Tryz.params7] at hA hval hsz
  obtain ⟨v0, vs0, d0, ds0, p0, q0', hargs0, hds0, hps0, h0, r0⟩ := trodAll_cons hA
  obtain ⟨v1, vs1, d1, ds1, p1, q1', hargs1, hds1, hps1, h1, r1⟩ := trodAll_cons r0
  obtain ⟨v2, vs2, d2, ds2, p2, q2', hargs2, hds2, hps2, h2, r2⟩ := trodAll_cons r1
  obtain ⟨v3, vs3, d3, ds3, p3, q3', hargs3, hds3, hps3, h3, r3⟩ := trodAll_cons r2
  obtain ⟨v4, vs4, d4, ds4, p4, q4', hargs4, hds4, hps4, h4, r4⟩ := trodAll_cons r3
  obtain ⟨v5, vs5, d5, ds5, p5, q5', hargs5, hds5, hps5, h5, r5⟩ := trodAll_cons r4
  obtain ⟨v6, vs6, d6, ds6, p6, q6', hargs6, hds6, hps6, h6, r6⟩ := trodAll_cons r5
  obtain ⟨v7, vs7, d7, ds7, p7, q7', hargs7, hds7, hps7, h7, r7⟩ := trodAll_cons r6
  obtain ⟨e1, e2, e3⟩ := trodAll_nil r7
  subst e1 e2 e3
  subst hargs7 hds7
  subst hargs6 hds6
  subst hargs5 hds5
  subst hargs4 hds4
  subst hargs3 hds3
  subst hargs2 hds2
  subst hargs1 hds1
  subst hds0
  obtain rfl : args = #[v0, v1, v2, v3, v4, v5, v6, v7] := by cases args; simp_all
  obtain ⟨p0, ga0, gc0, rfl, hp0⟩ := op_person (hval 0 26 v0 rfl rfl) h0
  obtain ⟨c1, aa1, va1, ac1, vc1, rfl, hc1⟩ := op_case (hval 1 30 v1 rfl rfl) h1
  obtain ⟨a2, rfl, hb2⟩ := op_int Tryz.underlying3 (hval 2 3 v2 rfl rfl) h2
  obtain ⟨a3, rfl, hb3⟩ := op_int Tryz.underlying3 (hval 3 3 v3 rfl rfl) h3
  obtain ⟨a4, rfl, hb4⟩ := op_int Tryz.underlying3 (hval 4 3 v4 rfl rfl) h4
  obtain ⟨z5, rfl, hz5⟩ := op_listing (hval 5 67 v5 rfl rfl) h5
  obtain ⟨a6, rfl, hb6⟩ := op_int Tryz.underlying3 (hval 6 3 v6 rfl rfl) h6
  obtain ⟨z7, rfl, hb7⟩ := op_u16 Tryz.underlying68 (hval 7 68 v7 rfl rfl) h7
  exact law_RestoreObjected_ok W (lc_of_laid hL) p0 c1 ga0 aa1 va1 gc0 ac1 vc1 hp0 hc1 a2 a3 a4 z5 a6 z7 hz5 hb7
theorem RestoreObjected_jA : (Rows.restoreObjectedRow.inPlace == Tryz.prog.inPlace 7) = true := by kernel_rfl
theorem RestoreObjected_jB : (Rows.restoreObjectedRow.unfollowed == Tryz.prog.unfollowed 7) = true := by kernel_rfl
theorem RestoreObjected_jC : (Rows.restoreObjectedRow.recurses == Tryz.prog.recurses 7) = true := by kernel_rfl
theorem RestoreObjected_jD : (Rows.restoreObjectedRow.named == Tryz.prog.varsNamed 7) = true := by kernel_rfl
theorem RestoreObjected_jI : (Rows.restoreObjectedRow.plainKeys == Tryz.prog.plainKeys) = true := by kernel_rfl
theorem RestoreObjected_goes : false = Rows.restoreObjectedRow.goesBy Tryz.prog := by kernel_rfl
theorem RestoreObjected_closed : joinedFacts Tryz.prog 7 Tryz.f7 Rows.restoreObjectedSpec Rows.restoreObjectedRow = true := by
  unfold joinedFacts
  rw [RestoreObjected_jA, RestoreObjected_jB, RestoreObjected_jC, RestoreObjected_jD, RestoreObjected_jI, jLaid, jMapsR, jHeard]
  kernel_rfl
theorem RestoreObjected_row : Rows.RestoreObjectedSaid :=
  OpenClaim.holds_of_wide 7 Tryz.f7 rfl rfl rfl rfl rfl rfl rfl ⟨rfl, rfl, rfl, rfl, rfl⟩ rfl rfl rfl rfl rfl (by kernel_rfl) Tryz.func7 RestoreObjected_closed
    (of_decide_eq_true (by kernel_rfl)) (by unfold Func.isWrapper; first | (rw [if_pos (by decide +kernel)]; kernel_rfl) | (rw [if_neg (by decide +kernel)]; exact ⟨rfl, rfl⟩))
    (fun os started H enc _ => RestoreObjected_lifted os started H enc)
theorem RestoreObjected_holds : Rows.RestoreObjectedCardSaid :=
  Claim7.holds_tied_plain_at .later [] [.data, .data, .sentinel, .widerDeep] true (true, "c5173c52556c730f0d35e313665cbab697f10c557c5ca798e47072747da33d9f") true
    RestoreObjected_row (fun _ h => by cases h) (by kernel_rfl) (fun _ h => by cases h) restoreObjected_row_tie rfl ⟨rfl, rfl⟩ (by kernel_rfl) rfl
    (fun f fn hf hfn => by
      obtain rfl : f = 7 := Option.some.inj ((show Tryz.prog.funcNamed "chartroom/chartroomlaw39.RestoreObjected" = some 7 by kernel_rfl).symm.trans hf) |>.symm
      obtain rfl : fn = Tryz.f7 := (Option.some.inj (Tryz.func7.symm.trans hfn)).symm
      exact ⟨jLooks, fun j t ht => by
        rw [Tryz.params7] at ht
        have hm := Array.mem_of_getElem? ht
        have hall : (#[26, 30, 3, 3, 3, 67, 3, 68].all fun u => !Tryz.prog.wantsStandIn u) = true := by kernel_rfl
        have := Array.all_eq_true_iff_forall_mem.1 hall t hm
        exact (show Tryz.prog.wantsStandIn t = false by simpa using this)⟩)
    RestoreObjected_goes
#print axioms RestoreObjected_holds

end Go.Proofs.YtojohglifijnnaaGreatDoor

