/- The statements on shares: rows and cards. No condition beyond the rows' own. -/
import Derived.Test.YtnmaegbobfngeaaDoorDoor08
import Derived.Test.YtnmaegbobfngeaaDoorLawE08
namespace Go.Proofs.YtnmaegbobfngeaaDoor
open Go Eng Go.ChangeShapes Go.WideShapes Go.ChangeAt Go.RowKit

set_option maxRecDepth 100000 in
theorem ShamirNotices_lifted (os : Os) (started : os.Started) (H : Type) (enc : TypeId × Value → H) :
    ReturnsInHanded {} Tryd.checked os 6 .any (fun w args => (Rows.shamirNoticesSpec.pre enc Tryd.prog Tryd.f6 [] false w args ∧ laidMetH Tryd.prog laid08 w) ∧ sizedMet enc Tryd.prog Tryd.f6 (OpenSpec.ofChange Rows.shamirNoticesSpec) false w args)
      (Rows.shamirNoticesSpec.post enc Tryd.prog Tryd.f6 false true false false) := by
  refine law_lifted (C := Tryd.checked) (X := fun w _ => laidMetH Tryd.prog laid08 w) (fun _ _ _ hh h => h.of_heap hh) own08 started (by kernel_rfl) Tryd.func6
    (ChangeSpec.witness_shaped (enc := enc) (C := Tryd.checked) (os := os) (X := fun w _ => laidMetH Tryd.prog laid08 w) false (World.doorLaid Tryd.prog 400 os) #[.int .i64 0, .int .i64 0, .int .i64 0, .agg (List.replicate 32 (.int .u8 0)).toArray, .int .u64 0, .int .i64 0] 8 rfl (World.shaped_of_RefB (by kernel_rfl) (by kernel_rfl)) (by kernel_rfl) (by kernel_rfl) (by kernel_rfl) (door08 os _))
    (by kernel_rfl) (by kernel_rfl) rfl Tryd.underlying4 rfl (fun ds hds => by match ds, hds with | [d0, d1, d2, d3, d4, d5], _ => rfl) ?_
  intro W base args ds p hval hA hsz hL
  rw [Tryd.params6] at hA hval hsz
  obtain ⟨v0, vs0, d0, ds0, p0, q0', hargs0, hds0, hps0, h0, r0⟩ := trodAll_cons hA
  obtain ⟨v1, vs1, d1, ds1, p1, q1', hargs1, hds1, hps1, h1, r1⟩ := trodAll_cons r0
  obtain ⟨v2, vs2, d2, ds2, p2, q2', hargs2, hds2, hps2, h2, r2⟩ := trodAll_cons r1
  obtain ⟨v3, vs3, d3, ds3, p3, q3', hargs3, hds3, hps3, h3, r3⟩ := trodAll_cons r2
  obtain ⟨v4, vs4, d4, ds4, p4, q4', hargs4, hds4, hps4, h4, r4⟩ := trodAll_cons r3
  obtain ⟨v5, vs5, d5, ds5, p5, q5', hargs5, hds5, hps5, h5, r5⟩ := trodAll_cons r4
  obtain ⟨e1, e2, e3⟩ := trodAll_nil r5
  subst e1 e2 e3
  subst hargs5 hds5
  subst hargs4 hds4
  subst hargs3 hds3
  subst hargs2 hds2
  subst hargs1 hds1
  subst hds0
  obtain rfl : args = #[v0, v1, v2, v3, v4, v5] := by cases args; simp_all
  obtain ⟨a0, rfl, hb0⟩ := op_int Tryd.underlying3 (hval 0 3 v0 rfl rfl) h0
  obtain ⟨a1, rfl, hb1⟩ := op_int Tryd.underlying3 (hval 1 3 v1 rfl rfl) h1
  obtain ⟨a2, rfl, hb2⟩ := op_int Tryd.underlying3 (hval 2 3 v2 rfl rfl) h2
  obtain ⟨k3, rfl, hk3⟩ := op_key Tryd.underlying33 Tryd.underlying5 (by kernel_rfl) (by kernel_rfl) (hval 3 33 v3 rfl rfl) h3
  obtain ⟨z4, rfl, hb4⟩ := op_uint Tryd.underlying47 (hval 4 47 v4 rfl rfl) h4
  obtain ⟨a5, rfl, hb5⟩ := op_int Tryd.underlying3 (hval 5 3 v5 rfl rfl) h5
  exact law_ShamirNotices_ok W a0 a1 a2 k3 z4 a5 (ls_of_laid hL) hk3 hb4
theorem ShamirNotices_row : Rows.ShamirNoticesSaid :=
  OpenClaim.holds_of_wide 6 Tryd.f6 rfl rfl rfl rfl rfl rfl rfl ⟨rfl, rfl, rfl, rfl, rfl⟩ rfl rfl rfl rfl rfl (by kernel_rfl) Tryd.func6 (by kernel_rfl)
    (of_decide_eq_true (by kernel_rfl)) (by unfold Func.isWrapper; first | (rw [if_pos (by decide +kernel)]; kernel_rfl) | (rw [if_neg (by decide +kernel)]; exact ⟨rfl, rfl⟩))
    (fun os started H enc _ => ShamirNotices_lifted os started H enc)
theorem ShamirNotices_holds : Rows.ShamirNoticesCardSaid :=
  Claim7.holds_tied_plain_at .later [] [.data, .data, .sentinel] true (true, "18a5ef56fd4be0ed922e45c8bfae55f4ce60bd97bf72552058bef0f995e72af6") false
    ShamirNotices_row (fun _ h => by cases h) (by kernel_rfl) (fun _ h => by cases h) shamirNotices_row_tie rfl ⟨rfl, rfl⟩ (by kernel_rfl) rfl
    (fun f fn hf hfn => by
      obtain rfl : f = 6 := Option.some.inj ((show Tryd.prog.funcNamed "chartroom/chartroomlaw08.ShamirNotices" = some 6 by kernel_rfl).symm.trans hf) |>.symm
      obtain rfl : fn = Tryd.f6 := (Option.some.inj (Tryd.func6.symm.trans hfn)).symm
      exact ⟨by kernel_rfl, fun j t ht => by
        rw [Tryd.params6] at ht
        have hm := Array.mem_of_getElem? ht
        have hall : (#[3, 3, 3, 33, 47, 3].all fun u => !Tryd.prog.wantsStandIn u) = true := by kernel_rfl
        have := Array.all_eq_true_iff_forall_mem.1 hall t hm
        exact (show Tryd.prog.wantsStandIn t = false by simpa using this)⟩)
    (by kernel_rfl)
#print axioms ShamirNotices_holds

end Go.Proofs.YtnmaegbobfngeaaDoor
