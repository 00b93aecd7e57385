/- The statements on wraps: rows and cards. No condition beyond the rows' own. -/
import Derived.Test.YtchpcabehchfjaaDoorDoor09
import Derived.Test.YtchpcabehchfjaaDoorLawD09
namespace Go.Proofs.YtchpcabehchfjaaDoor
open Go Eng Go.ChangeShapes Go.WideShapes Go.ChangeAt Go.RowKit

set_option maxRecDepth 100000 in
theorem WrapTag_lifted (os : Os) (started : os.Started) (H : Type) (enc : TypeId × Value → H) :
    ReturnsInHanded {} Tryd.checked os 6 .any (fun w args => (Rows.wrapTagSpec.pre enc Tryd.prog Tryd.f6 [] false w args ∧ laidMetH Tryd.prog laid09 w) ∧ sizedMet enc Tryd.prog Tryd.f6 (OpenSpec.ofChange Rows.wrapTagSpec) false w args)
      (Rows.wrapTagSpec.post enc Tryd.prog Tryd.f6 false true false false) := by
  refine law_lifted (C := Tryd.checked) (X := fun w _ => laidMetH Tryd.prog laid09 w) (fun _ _ _ hh h => h.of_heap hh) own09 started (by kernel_rfl) Tryd.func6
    (ChangeSpec.witness_shaped (enc := enc) (C := Tryd.checked) (os := os) (X := fun w _ => laidMetH Tryd.prog laid09 w) false (World.doorLaid Tryd.prog 400 os) #[.int .i64 0, .slice none 0 0, .agg #[.int .i64 0, .slice none 0 0]] 8 rfl (World.shaped_of_RefB (by kernel_rfl) (by kernel_rfl)) (by kernel_rfl) (by kernel_rfl) (by kernel_rfl) (door09 os _))
    (by kernel_rfl) (by kernel_rfl) rfl Tryd.underlying4 rfl (fun ds hds => by match ds, hds with | [d0, d1, d2], _ => rfl) ?_
  intro W base args ds p hval hA hsz hL
  rw [Tryd.params6] at hA hval hsz
  obtain ⟨v0, vs0, d0, ds0, p0, q0', hargs0, hds0, hps0, h0, r0⟩ := trodAll_cons hA
  obtain ⟨v1, vs1, d1, ds1, p1, q1', hargs1, hds1, hps1, h1, r1⟩ := trodAll_cons r0
  obtain ⟨v2, vs2, d2, ds2, p2, q2', hargs2, hds2, hps2, h2, r2⟩ := trodAll_cons r1
  obtain ⟨e1, e2, e3⟩ := trodAll_nil r2
  subst e1 e2 e3
  subst hargs2 hds2
  subst hargs1 hds1
  subst hds0
  obtain rfl : args = #[v0, v1, v2] := by cases args; simp_all
  obtain ⟨a0, rfl, hb0⟩ := op_int Tryd.underlying3 (hval 0 3 v0 rfl rfl) h0
  have hw1 : ∀ n ∈ d1.weights Tryd.prog 22, n ≤ reachBytes := fun n hn => by have := List.all_eq_true.1 hsz _ (DataW.weights_mem_each (j := 1) rfl rfl n hn); simpa using this
  obtain ⟨a1, c1, q1, rfl, hr1, hc1, hm1⟩ := op_bytes Tryd.underlying22 Tryd.underlying5 (by kernel_rfl) (by kernel_rfl) (hval 1 22 v1 rfl rfl) h1 hw1
  have hw2 : ∀ n ∈ d2.weights Tryd.prog 24, n ≤ reachBytes := fun n hn => by have := List.all_eq_true.1 hsz _ (DataW.weights_mem_each (j := 2) rfl rfl n hn); simpa using this
  obtain ⟨u2, a2, c2, q2, rfl, hr2, hc2, hm2⟩ := op_wrap (hval 2 24 v2 rfl rfl) h2 hw2
  exact law_WrapTag_ok W a1 a2 c1 c2 q1 q2 (lc_of_laid hL) hr1 hr2 (by omega) (by omega) a0 u2 hc2
theorem WrapTag_row : Rows.WrapTagSaid :=
  OpenClaim.holds_of_wide 6 Tryd.f6 rfl rfl rfl rfl rfl rfl rfl ⟨rfl, rfl, rfl, rfl, rfl⟩ rfl rfl rfl rfl rfl (by kernel_rfl) Tryd.func6 (by kernel_rfl)
    (of_decide_eq_true (by kernel_rfl)) (by unfold Func.isWrapper; first | (rw [if_pos (by decide +kernel)]; kernel_rfl) | (rw [if_neg (by decide +kernel)]; exact ⟨rfl, rfl⟩))
    (fun os started H enc _ => WrapTag_lifted os started H enc)
theorem WrapTag_holds : Rows.WrapTagCardSaid :=
  Claim7.holds_tied_plain_at .later [] [.data, .data, .sentinel, .widerDeep] true (true, "f2a569c4421e357a642cbf867d112181d0cf8e9ab2d0a1a1c2f93246f2d8e88a") false
    WrapTag_row (fun _ h => by cases h) (by kernel_rfl) (fun _ h => by cases h) wrapTag_row_tie rfl ⟨rfl, rfl⟩ (by kernel_rfl) rfl
    (fun f fn hf hfn => by
      obtain rfl : f = 6 := Option.some.inj ((show Tryd.prog.funcNamed "chartroom/chartroomlaw09.WrapTag" = some 6 by kernel_rfl).symm.trans hf) |>.symm
      obtain rfl : fn = Tryd.f6 := (Option.some.inj (Tryd.func6.symm.trans hfn)).symm
      exact ⟨by kernel_rfl, fun j t ht => by
        rw [Tryd.params6] at ht
        have hm := Array.mem_of_getElem? ht
        have hall : (#[3, 22, 24].all fun u => !Tryd.prog.wantsStandIn u) = true := by kernel_rfl
        have := Array.all_eq_true_iff_forall_mem.1 hall t hm
        exact (show Tryd.prog.wantsStandIn t = false by simpa using this)⟩)
    (by kernel_rfl)
#print axioms WrapTag_holds

end Go.Proofs.YtchpcabehchfjaaDoor
