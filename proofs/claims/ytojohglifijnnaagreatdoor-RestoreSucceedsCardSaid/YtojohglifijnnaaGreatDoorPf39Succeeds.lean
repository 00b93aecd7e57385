/- The statements on restoring people: rows and cards. No condition beyond the rows' own. -/
import Derived.Test.YtojohglifijnnaaGreatDoorSU6
import Derived.Test.YtojohglifijnnaaGreatDoorJo39
set_option linter.all false
namespace Go.Proofs.YtojohglifijnnaaGreatDoor
open Go Eng Rst Go.ChangeShapes Go.WideShapes Go.ChangeAt Go.RowKit

set_option maxRecDepth 100000 in
theorem RestoreSucceeds_lifted (os : Os) (started : os.Started) (H : Type) (enc : TypeId × Value → H) :
    ReturnsInHanded {} Tryz.checked os 6 .any (fun w args => (Rows.restoreSucceedsSpec.pre enc Tryz.prog Tryz.f6 [] false w args ∧ laidMetH Tryz.prog laid39 w) ∧ sizedMet enc Tryz.prog Tryz.f6 (OpenSpec.ofChange Rows.restoreSucceedsSpec) false w args)
      (Rows.restoreSucceedsSpec.post enc Tryz.prog Tryz.f6 false true false false) := by
  refine law_lifted (C := Tryz.checked) (X := fun w _ => laidMetH Tryz.prog laid39 w) (fun _ _ _ hh h => h.of_heap hh) own39 started (by kernel_rfl) Tryz.func6
    (ChangeSpec.witness_shaped (enc := enc) (C := Tryz.checked) (os := os) (X := fun w _ => laidMetH Tryz.prog laid39 w) false (World.doorLaid Tryz.prog 400 os) #[.int .i64 0, .slice none 0 0, .int .i64 0, .int .i64 0, .agg (List.replicate 32 (.int .u8 0)).toArray, .int .u8 0, .int .i64 0, .int .i64 0, .slice none 0 0, .int .i64 0] 8 rfl (World.shaped_of_RefB (by kernel_rfl) (by kernel_rfl)) (by kernel_rfl) (by kernel_rfl) (by kernel_rfl) (door39 os _))
    (by kernel_rfl) (by kernel_rfl) rfl Tryz.underlying4 rfl (fun ds hds => by match ds, hds with | [d0, d1, d2, d3, d4, d5, d6, d7, d8, d9], _ => rfl) ?_
  intro W base args ds p hval hA hsz hL
  rw [Tryz.params6] at hA hval hsz
  obtain ⟨v0, vs0, d0, ds0, p0, q0', hargs0, hds0, hps0, h0, r0⟩ := trodAll_cons hA
  obtain ⟨v1, vs1, d1, ds1, p1, q1', hargs1, hds1, hps1, h1, r1⟩ := trodAll_cons r0
  obtain ⟨v2, vs2, d2, ds2, p2, q2', hargs2, hds2, hps2, h2, r2⟩ := trodAll_cons r1
  obtain ⟨v3, vs3, d3, ds3, p3, q3', hargs3, hds3, hps3, h3, r3⟩ := trodAll_cons r2
  obtain ⟨v4, vs4, d4, ds4, p4, q4', hargs4, hds4, hps4, h4, r4⟩ := trodAll_cons r3
  obtain ⟨v5, vs5, d5, ds5, p5, q5', hargs5, hds5, hps5, h5, r5⟩ := trodAll_cons r4
  obtain ⟨v6, vs6, d6, ds6, p6, q6', hargs6, hds6, hps6, h6, r6⟩ := trodAll_cons r5
  obtain ⟨v7, vs7, d7, ds7, p7, q7', hargs7, hds7, hps7, h7, r7⟩ := trodAll_cons r6
  obtain ⟨v8, vs8, d8, ds8, p8, q8', hargs8, hds8, hps8, h8, r8⟩ := trodAll_cons r7
  obtain ⟨v9, vs9, d9, ds9, p9, q9', hargs9, hds9, hps9, h9, r9⟩ := trodAll_cons r8
  obtain ⟨e1, e2, e3⟩ := trodAll_nil r9
  subst e1 e2 e3
  subst hargs9 hds9
  subst hargs8 hds8
  subst hargs7 hds7
  subst hargs6 hds6
  subst hargs5 hds5
  subst hargs4 hds4
  subst hargs3 hds3
  subst hargs2 hds2
  subst hargs1 hds1
  subst hds0
  obtain rfl : args = #[v0, v1, v2, v3, v4, v5, v6, v7, v8, v9] := by cases args; simp_all
  obtain ⟨a0, rfl, hb0⟩ := op_int Tryz.underlying3 (hval 0 3 v0 rfl rfl) h0
  obtain ⟨a1, c1, q1, rfl, hr1, hx1, hm1⟩ := op_ints Tryz.underlying22 Tryz.underlying3 (by kernel_rfl) (hval 1 22 v1 rfl rfl) h1
  obtain ⟨a2, rfl, hb2⟩ := op_int Tryz.underlying3 (hval 2 3 v2 rfl rfl) h2
  obtain ⟨a3, rfl, hb3⟩ := op_int Tryz.underlying3 (hval 3 3 v3 rfl rfl) h3
  obtain ⟨k4, rfl, hk4⟩ := op_key Tryz.underlying24 Tryz.underlying5 (by kernel_rfl) (by kernel_rfl) (hval 4 24 v4 rfl rfl) h4
  obtain ⟨y5, rfl⟩ := op_byte Tryz.underlying5 (hval 5 5 v5 rfl rfl) h5
  obtain ⟨a6, rfl, hb6⟩ := op_int Tryz.underlying3 (hval 6 3 v6 rfl rfl) h6
  obtain ⟨a7, rfl, hb7⟩ := op_int Tryz.underlying3 (hval 7 3 v7 rfl rfl) h7
  obtain ⟨a8, c8, q8, rfl, hr8, hx8, hm8⟩ := op_ints Tryz.underlying22 Tryz.underlying3 (by kernel_rfl) (hval 8 22 v8 rfl rfl) h8
  obtain ⟨a9, rfl, hb9⟩ := op_int Tryz.underlying3 (hval 9 3 v9 rfl rfl) h9
  exact law_RestoreSucceeds_ok W (lc_of_laid hL) a0 a2 a3 a6 a7 a9 q1 q8 k4 y5 a1 a8 c1 c8 hk4 hr1 hr8
theorem RestoreSucceeds_jA : (Rows.restoreSucceedsRow.inPlace == Tryz.prog.inPlace 6) = true := by kernel_rfl
theorem RestoreSucceeds_jB : (Rows.restoreSucceedsRow.unfollowed == Tryz.prog.unfollowed 6) = true := by kernel_rfl
theorem RestoreSucceeds_jC : (Rows.restoreSucceedsRow.recurses == Tryz.prog.recurses 6) = true := by kernel_rfl
theorem RestoreSucceeds_jD : (Rows.restoreSucceedsRow.named == Tryz.prog.varsNamed 6) = true := by kernel_rfl
theorem RestoreSucceeds_jI : (Rows.restoreSucceedsRow.plainKeys == Tryz.prog.plainKeys) = true := by kernel_rfl
theorem RestoreSucceeds_goes : false = Rows.restoreSucceedsRow.goesBy Tryz.prog := by kernel_rfl
theorem RestoreSucceeds_closed : joinedFacts Tryz.prog 6 Tryz.f6 Rows.restoreSucceedsSpec Rows.restoreSucceedsRow = true := by
  unfold joinedFacts
  rw [RestoreSucceeds_jA, RestoreSucceeds_jB, RestoreSucceeds_jC, RestoreSucceeds_jD, RestoreSucceeds_jI, jLaid, jMapsR, jHeard]
  kernel_rfl
theorem RestoreSucceeds_row : Rows.RestoreSucceedsSaid :=
  OpenClaim.holds_of_wide 6 Tryz.f6 rfl rfl rfl rfl rfl rfl rfl ⟨rfl, rfl, rfl, rfl, rfl⟩ rfl rfl rfl rfl rfl (by kernel_rfl) Tryz.func6 RestoreSucceeds_closed
    (of_decide_eq_true (by kernel_rfl)) (by unfold Func.isWrapper; first | (rw [if_pos (by decide +kernel)]; kernel_rfl) | (rw [if_neg (by decide +kernel)]; exact ⟨rfl, rfl⟩))
    (fun os started H enc _ => RestoreSucceeds_lifted os started H enc)
theorem RestoreSucceeds_holds : Rows.RestoreSucceedsCardSaid :=
  Claim7.holds_tied_plain_at .later [] [.data, .data, .sentinel, .widerDeep] true (true, "c5173c52556c730f0d35e313665cbab697f10c557c5ca798e47072747da33d9f") true
    RestoreSucceeds_row (fun _ h => by cases h) (by kernel_rfl) (fun _ h => by cases h) restoreSucceeds_row_tie rfl ⟨rfl, rfl⟩ (by kernel_rfl) rfl
    (fun f fn hf hfn => by
      obtain rfl : f = 6 := Option.some.inj ((show Tryz.prog.funcNamed "chartroom/chartroomlaw39.RestoreSucceeds" = some 6 by kernel_rfl).symm.trans hf) |>.symm
      obtain rfl : fn = Tryz.f6 := (Option.some.inj (Tryz.func6.symm.trans hfn)).symm
      exact ⟨jLooks, fun j t ht => by
        rw [Tryz.params6] at ht
        have hm := Array.mem_of_getElem? ht
        have hall : (#[3, 22, 3, 3, 24, 5, 3, 3, 22, 3].all fun u => !Tryz.prog.wantsStandIn u) = true := by kernel_rfl
        have := Array.all_eq_true_iff_forall_mem.1 hall t hm
        exact (show Tryz.prog.wantsStandIn t = false by simpa using this)⟩)
    RestoreSucceeds_goes
#print axioms RestoreSucceeds_holds

end Go.Proofs.YtojohglifijnnaaGreatDoor

