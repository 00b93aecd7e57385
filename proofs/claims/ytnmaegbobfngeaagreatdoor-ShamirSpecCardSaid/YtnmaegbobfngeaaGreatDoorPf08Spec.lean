/- The statements on shares: rows and cards. No condition beyond the rows' own. -/
import Derived.Test.YtnmaegbobfngeaaGreatDoorDoor08
import Derived.Test.YtnmaegbobfngeaaGreatDoorLawZ08
namespace Go.Proofs.YtnmaegbobfngeaaGreatDoor
open Go Eng Go.ChangeShapes Go.WideShapes Go.ChangeAt Go.RowKit

set_option maxRecDepth 100000 in
theorem ShamirSpec_lifted (os : Os) (started : os.Started) (H : Type) (enc : TypeId × Value → H) :
    ReturnsInHanded {} Tryz.checked os 3 .any (fun w args => (Rows.shamirSpecSpec.pre enc Tryz.prog Tryz.f3 [] false w args ∧ laidMetH Tryz.prog laid08 w) ∧ sizedMet enc Tryz.prog Tryz.f3 (OpenSpec.ofChange Rows.shamirSpecSpec) false w args)
      (Rows.shamirSpecSpec.post enc Tryz.prog Tryz.f3 false true false false) := by
  refine law_lifted (C := Tryz.checked) (X := fun w _ => laidMetH Tryz.prog laid08 w) (fun _ _ _ hh h => h.of_heap hh) own08 started (by kernel_rfl) Tryz.func3
    (ChangeSpec.witness_shaped (enc := enc) (C := Tryz.checked) (os := os) (X := fun w _ => laidMetH Tryz.prog laid08 w) false (World.doorLaid Tryz.prog 400 os) #[.slice none 0 0, .int .i64 0, .int .i64 0, .int .i64 0, .agg (List.replicate 32 (.int .u8 0)).toArray] 8 rfl (World.shaped_of_RefB (by kernel_rfl) (by kernel_rfl)) (by kernel_rfl) (by kernel_rfl) (by kernel_rfl) (door08 os _))
    (by kernel_rfl) (by kernel_rfl) rfl Tryz.underlying4 rfl (fun ds hds => by match ds, hds with | [d0, d1, d2, d3, d4], _ => rfl) ?_
  intro W base args ds p hval hA hsz hL
  rw [Tryz.params3] at hA hval hsz
  obtain ⟨v0, vs0, d0, ds0, p0, q0', hargs0, hds0, hps0, h0, r0⟩ := trodAll_cons hA
  obtain ⟨v1, vs1, d1, ds1, p1, q1', hargs1, hds1, hps1, h1, r1⟩ := trodAll_cons r0
  obtain ⟨v2, vs2, d2, ds2, p2, q2', hargs2, hds2, hps2, h2, r2⟩ := trodAll_cons r1
  obtain ⟨v3, vs3, d3, ds3, p3, q3', hargs3, hds3, hps3, h3, r3⟩ := trodAll_cons r2
  obtain ⟨v4, vs4, d4, ds4, p4, q4', hargs4, hds4, hps4, h4, r4⟩ := trodAll_cons r3
  obtain ⟨e1, e2, e3⟩ := trodAll_nil r4
  subst e1 e2 e3
  subst hargs4 hds4
  subst hargs3 hds3
  subst hargs2 hds2
  subst hargs1 hds1
  subst hds0
  obtain rfl : args = #[v0, v1, v2, v3, v4] := by cases args; simp_all
  obtain ⟨a0, c0, l0, rfl, hr0, hc0⟩ := op_shares (hval 0 22 v0 rfl rfl) h0
  obtain ⟨a1, rfl, hb1⟩ := op_int Tryz.underlying3 (hval 1 3 v1 rfl rfl) h1
  obtain ⟨a2, rfl, hb2⟩ := op_int Tryz.underlying3 (hval 2 3 v2 rfl rfl) h2
  obtain ⟨a3, rfl, hb3⟩ := op_int Tryz.underlying3 (hval 3 3 v3 rfl rfl) h3
  obtain ⟨k4, rfl, hk4⟩ := op_key Tryz.underlying24 Tryz.underlying5 (by kernel_rfl) (by kernel_rfl) (hval 4 24 v4 rfl rfl) h4
  exact law_ShamirSpec_ok W a0 c0 l0 a1 a2 a3 k4 (ls_of_laid hL) hr0 hk4
theorem ShamirSpec_row : Rows.ShamirSpecSaid :=
  OpenClaim.holds_of_wide 3 Tryz.f3 rfl rfl rfl rfl rfl rfl rfl ⟨rfl, rfl, rfl, rfl, rfl⟩ rfl rfl rfl rfl rfl (by kernel_rfl) Tryz.func3 (by kernel_rfl)
    (of_decide_eq_true (by kernel_rfl)) (by unfold Func.isWrapper; first | (rw [if_pos (by decide +kernel)]; kernel_rfl) | (rw [if_neg (by decide +kernel)]; exact ⟨rfl, rfl⟩))
    (fun os started H enc _ => ShamirSpec_lifted os started H enc)
theorem ShamirSpec_holds : Rows.ShamirSpecCardSaid :=
  Claim7.holds_tied_plain_at .later [] [.data, .data, .sentinel] true (true, "146c1fe9764fe2082a6bde4642dc60b610d6c51b8ba935540afa7d7fdaa2273e") false
    ShamirSpec_row (fun _ h => by cases h) (by kernel_rfl) (fun _ h => by cases h) shamirSpec_row_tie rfl ⟨rfl, rfl⟩ (by kernel_rfl) rfl
    (fun f fn hf hfn => by
      obtain rfl : f = 3 := Option.some.inj ((show Tryz.prog.funcNamed "chartroom/chartroomlaw08.ShamirSpec" = some 3 by kernel_rfl).symm.trans hf) |>.symm
      obtain rfl : fn = Tryz.f3 := (Option.some.inj (Tryz.func3.symm.trans hfn)).symm
      exact ⟨by kernel_rfl, fun j t ht => by
        rw [Tryz.params3] at ht
        have hm := Array.mem_of_getElem? ht
        have hall : (#[22, 3, 3, 3, 24].all fun u => !Tryz.prog.wantsStandIn u) = true := by kernel_rfl
        have := Array.all_eq_true_iff_forall_mem.1 hall t hm
        exact (show Tryz.prog.wantsStandIn t = false by simpa using this)⟩)
    (by kernel_rfl)
#print axioms ShamirSpec_holds

end Go.Proofs.YtnmaegbobfngeaaGreatDoor
