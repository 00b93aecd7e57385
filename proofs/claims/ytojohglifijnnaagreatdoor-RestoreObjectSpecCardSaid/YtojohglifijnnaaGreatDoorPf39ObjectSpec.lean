/- The statements on restoring people: rows and cards. No condition beyond the rows' own. -/
import Derived.Test.YtojohglifijnnaaGreatDoorOb7
import Derived.Test.YtojohglifijnnaaGreatDoorJo39
set_option linter.all false
namespace Go.Proofs.YtojohglifijnnaaGreatDoor
open Go Eng Rst Go.ChangeShapes Go.WideShapes Go.ChangeAt Go.RowKit

set_option maxRecDepth 100000 in
theorem RestoreObjectSpec_lifted (os : Os) (started : os.Started) (H : Type) (enc : TypeId × Value → H) :
    ReturnsInHanded {} Tryz.checked os 5 .any (fun w args => (Rows.restoreObjectSpecSpec.pre enc Tryz.prog Tryz.f5 [] false w args ∧ laidMetH Tryz.prog laid39 w) ∧ sizedMet enc Tryz.prog Tryz.f5 (OpenSpec.ofChange Rows.restoreObjectSpecSpec) false w args)
      (Rows.restoreObjectSpecSpec.post enc Tryz.prog Tryz.f5 false true false false) := by
  refine law_lifted (C := Tryz.checked) (X := fun w _ => laidMetH Tryz.prog laid39 w) (fun _ _ _ hh h => h.of_heap hh) own39 started (by kernel_rfl) Tryz.func5
    (ChangeSpec.witness_shaped (enc := enc) (C := Tryz.checked) (os := os) (X := fun w _ => laidMetH Tryz.prog laid39 w) false (World.doorLaid Tryz.prog 400 os) #[.agg #[.int .i64 0, .int .i64 0, .int .i64 0, .int .i64 0, .int .i64 0, .slice none 0 0, .slice none 0 0], .slice none 0 0, .int .i64 0, .int .i64 0, .int .i64 0] 8 rfl (World.shaped_of_RefB (by kernel_rfl) (by kernel_rfl)) (by kernel_rfl) (by kernel_rfl) (by kernel_rfl) (door39 os _))
    (by kernel_rfl) (by kernel_rfl) rfl Tryz.underlying4 rfl (fun ds hds => by match ds, hds with | [d0, d1, d2, d3, d4], _ => rfl) ?_
  intro W base args ds p hval hA hsz hL
  rw [Tryz.params5] at hA hval hsz
  obtain ⟨v0, vs0, d0, ds0, p0, q0', hargs0, hds0, hps0, h0, r0⟩ := trodAll_cons hA
  obtain ⟨v1, vs1, d1, ds1, p1, q1', hargs1, hds1, hps1, h1, r1⟩ := trodAll_cons r0
  obtain ⟨v2, vs2, d2, ds2, p2, q2', hargs2, hds2, hps2, h2, r2⟩ := trodAll_cons r1
  obtain ⟨v3, vs3, d3, ds3, p3, q3', hargs3, hds3, hps3, h3, r3⟩ := trodAll_cons r2
  obtain ⟨v4, vs4, d4, ds4, p4, q4', hargs4, hds4, hps4, h4, r4⟩ := trodAll_cons r3
  obtain ⟨e1, e2, e3⟩ := trodAll_nil r4
  subst e1 e2 e3
  subst hargs4 hds4
  subst hargs3 hds3
  subst hargs2 hds2
  subst hargs1 hds1
  subst hds0
  obtain rfl : args = #[v0, v1, v2, v3, v4] := by cases args; simp_all
  obtain ⟨c0, aa0, va0, ac0, vc0, rfl, hc0⟩ := op_case (hval 0 30 v0 rfl rfl) h0
  obtain ⟨a1, c1, l1, rfl, hr1, hl1⟩ := op_lists (hval 1 51 v1 rfl rfl) h1
  obtain ⟨a2, rfl, hb2⟩ := op_int Tryz.underlying3 (hval 2 3 v2 rfl rfl) h2
  obtain ⟨a3, rfl, hb3⟩ := op_int Tryz.underlying3 (hval 3 3 v3 rfl rfl) h3
  obtain ⟨a4, rfl, hb4⟩ := op_int Tryz.underlying3 (hval 4 3 v4 rfl rfl) h4
  exact law_RestoreObjectSpec_ok W (lc_of_laid hL) c0 l1 aa0 va0 a1 ac0 vc0 c1 hc0 a2 a3 a4 hr1 hb2 hb3
theorem RestoreObjectSpec_jA : (Rows.restoreObjectSpecRow.inPlace == Tryz.prog.inPlace 5) = true := by kernel_rfl
theorem RestoreObjectSpec_jB : (Rows.restoreObjectSpecRow.unfollowed == Tryz.prog.unfollowed 5) = true := by kernel_rfl
theorem RestoreObjectSpec_jC : (Rows.restoreObjectSpecRow.recurses == Tryz.prog.recurses 5) = true := by kernel_rfl
theorem RestoreObjectSpec_jD : (Rows.restoreObjectSpecRow.named == Tryz.prog.varsNamed 5) = true := by kernel_rfl
theorem RestoreObjectSpec_jI : (Rows.restoreObjectSpecRow.plainKeys == Tryz.prog.plainKeys) = true := by kernel_rfl
theorem RestoreObjectSpec_goes : false = Rows.restoreObjectSpecRow.goesBy Tryz.prog := by kernel_rfl
theorem RestoreObjectSpec_closed : joinedFacts Tryz.prog 5 Tryz.f5 Rows.restoreObjectSpecSpec Rows.restoreObjectSpecRow = true := by
  unfold joinedFacts
  rw [RestoreObjectSpec_jA, RestoreObjectSpec_jB, RestoreObjectSpec_jC, RestoreObjectSpec_jD, RestoreObjectSpec_jI, jLaid, jMapsR, jHeard]
  kernel_rfl
theorem RestoreObjectSpec_row : Rows.RestoreObjectSpecSaid :=
  OpenClaim.holds_of_wide 5 Tryz.f5 rfl rfl rfl rfl rfl rfl rfl ⟨rfl, rfl, rfl, rfl, rfl⟩ rfl rfl rfl rfl rfl (by kernel_rfl) Tryz.func5 RestoreObjectSpec_closed
    (of_decide_eq_true (by kernel_rfl)) (by unfold Func.isWrapper; first | (rw [if_pos (by decide +kernel)]; kernel_rfl) | (rw [if_neg (by decide +kernel)]; exact ⟨rfl, rfl⟩))
    (fun os started H enc _ => RestoreObjectSpec_lifted os started H enc)
theorem RestoreObjectSpec_holds : Rows.RestoreObjectSpecCardSaid :=
  Claim7.holds_tied_plain_at .later [] [.data, .data, .sentinel, .widerDeep] true (true, "c5173c52556c730f0d35e313665cbab697f10c557c5ca798e47072747da33d9f") true
    RestoreObjectSpec_row (fun _ h => by cases h) (by kernel_rfl) (fun _ h => by cases h) restoreObjectSpec_row_tie rfl ⟨rfl, rfl⟩ (by kernel_rfl) rfl
    (fun f fn hf hfn => by
      obtain rfl : f = 5 := Option.some.inj ((show Tryz.prog.funcNamed "chartroom/chartroomlaw39.RestoreObjectSpec" = some 5 by kernel_rfl).symm.trans hf) |>.symm
      obtain rfl : fn = Tryz.f5 := (Option.some.inj (Tryz.func5.symm.trans hfn)).symm
      exact ⟨jLooks, fun j t ht => by
        rw [Tryz.params5] at ht
        have hm := Array.mem_of_getElem? ht
        have hall : (#[30, 51, 3, 3, 3].all fun u => !Tryz.prog.wantsStandIn u) = true := by kernel_rfl
        have := Array.all_eq_true_iff_forall_mem.1 hall t hm
        exact (show Tryz.prog.wantsStandIn t = false by simpa using this)⟩)
    RestoreObjectSpec_goes
#print axioms RestoreObjectSpec_holds

end Go.Proofs.YtojohglifijnnaaGreatDoor

