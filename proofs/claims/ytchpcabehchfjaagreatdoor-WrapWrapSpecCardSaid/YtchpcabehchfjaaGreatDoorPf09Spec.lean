/- The statements on wraps: rows and cards. No condition beyond the rows' own. -/
import Derived.Test.YtchpcabehchfjaaGreatDoorDoor09
import Derived.Test.YtchpcabehchfjaaGreatDoorLawZ09
namespace Go.Proofs.YtchpcabehchfjaaGreatDoor
open Go Eng Go.ChangeShapes Go.WideShapes Go.ChangeAt Go.RowKit

set_option maxRecDepth 100000 in
theorem WrapWrapSpec_lifted (os : Os) (started : os.Started) (H : Type) (enc : TypeId × Value → H) :
    ReturnsInHanded {} Tryz.checked os 3 .any (fun w args => (Rows.wrapWrapSpecSpec.pre enc Tryz.prog Tryz.f3 [] false w args ∧ laidMetH Tryz.prog laid09 w) ∧ sizedMet enc Tryz.prog Tryz.f3 (OpenSpec.ofChange Rows.wrapWrapSpecSpec) false w args)
      (Rows.wrapWrapSpecSpec.post enc Tryz.prog Tryz.f3 false true false false) := by
  refine law_lifted (C := Tryz.checked) (X := fun w _ => laidMetH Tryz.prog laid09 w) (fun _ _ _ hh h => h.of_heap hh) own09 started (by kernel_rfl) Tryz.func3
    (ChangeSpec.witness_shaped (enc := enc) (C := Tryz.checked) (os := os) (X := fun w _ => laidMetH Tryz.prog laid09 w) false (World.doorLaid Tryz.prog 400 os) #[.int .i64 0, .agg (List.replicate 32 (.int .u8 0)).toArray, .slice none 0 0, .slice none 0 0, .agg #[.int .i64 0, .slice none 0 0]] 8 rfl (World.shaped_of_RefB (by kernel_rfl) (by kernel_rfl)) (by kernel_rfl) (by kernel_rfl) (by kernel_rfl) (door09 os _))
    (by kernel_rfl) (by kernel_rfl) rfl Tryz.underlying4 rfl (fun ds hds => by match ds, hds with | [d0, d1, d2, d3, d4], _ => rfl) ?_
  intro W base args ds p hval hA hsz hL
  rw [Tryz.params3] at hA hval hsz
  obtain ⟨v0, vs0, d0, ds0, p0, q0', hargs0, hds0, hps0, h0, r0⟩ := trodAll_cons hA
  obtain ⟨v1, vs1, d1, ds1, p1, q1', hargs1, hds1, hps1, h1, r1⟩ := trodAll_cons r0
  obtain ⟨v2, vs2, d2, ds2, p2, q2', hargs2, hds2, hps2, h2, r2⟩ := trodAll_cons r1
  obtain ⟨v3, vs3, d3, ds3, p3, q3', hargs3, hds3, hps3, h3, r3⟩ := trodAll_cons r2
  obtain ⟨v4, vs4, d4, ds4, p4, q4', hargs4, hds4, hps4, h4, r4⟩ := trodAll_cons r3
  obtain ⟨e1, e2, e3⟩ := trodAll_nil r4
  subst e1 e2 e3
  subst hargs4 hds4
  subst hargs3 hds3
  subst hargs2 hds2
  subst hargs1 hds1
  subst hds0
  obtain rfl : args = #[v0, v1, v2, v3, v4] := by cases args; simp_all
  obtain ⟨a0, rfl, hb0⟩ := op_int Tryz.underlying3 (hval 0 3 v0 rfl rfl) h0
  obtain ⟨k1, rfl, hk1⟩ := op_key Tryz.underlying23 Tryz.underlying5 (by kernel_rfl) (by kernel_rfl) (hval 1 23 v1 rfl rfl) h1
  have hw2 : ∀ n ∈ d2.weights Tryz.prog 24, n ≤ reachBytes := fun n hn => by have := List.all_eq_true.1 hsz _ (DataW.weights_mem_each (j := 2) rfl rfl n hn); simpa using this
  obtain ⟨a2, c2, q2, rfl, hr2, hc2, hm2⟩ := op_bytes Tryz.underlying24 Tryz.underlying5 (by kernel_rfl) (by kernel_rfl) (hval 2 24 v2 rfl rfl) h2 hw2
  have hw3 : ∀ n ∈ d3.weights Tryz.prog 24, n ≤ reachBytes := fun n hn => by have := List.all_eq_true.1 hsz _ (DataW.weights_mem_each (j := 3) rfl rfl n hn); simpa using this
  obtain ⟨a3, c3, q3, rfl, hr3, hc3, hm3⟩ := op_bytes Tryz.underlying24 Tryz.underlying5 (by kernel_rfl) (by kernel_rfl) (hval 3 24 v3 rfl rfl) h3 hw3
  have hw4 : ∀ n ∈ d4.weights Tryz.prog 26, n ≤ reachBytes := fun n hn => by have := List.all_eq_true.1 hsz _ (DataW.weights_mem_each (j := 4) rfl rfl n hn); simpa using this
  obtain ⟨u4, a4, c4, q4, rfl, hr4, hc4, hm4⟩ := op_wrap (hval 4 26 v4 rfl rfl) h4 hw4
  exact law_WrapWrapSpec_ok W a2 a3 c2 c3 q2 q3 (lc_of_laid hL) hr2 hr3 (by omega) (by omega) k1 hk1 a0 u4 a4 c4 q4 (by omega)
theorem WrapWrapSpec_row : Rows.WrapWrapSpecSaid :=
  OpenClaim.holds_of_wide 3 Tryz.f3 rfl rfl rfl rfl rfl rfl rfl ⟨rfl, rfl, rfl, rfl, rfl⟩ rfl rfl rfl rfl rfl (by kernel_rfl) Tryz.func3 (by kernel_rfl)
    (of_decide_eq_true (by kernel_rfl)) (by unfold Func.isWrapper; first | (rw [if_pos (by decide +kernel)]; kernel_rfl) | (rw [if_neg (by decide +kernel)]; exact ⟨rfl, rfl⟩))
    (fun os started H enc _ => WrapWrapSpec_lifted os started H enc)
theorem WrapWrapSpec_holds : Rows.WrapWrapSpecCardSaid :=
  Claim7.holds_tied_plain_at .later [] [.data, .data, .sentinel, .widerDeep] true (true, "6f1033e8283fdb67fed8e8590c351587eb0fad51ab537fe0ef7658ab907b73b9") false
    WrapWrapSpec_row (fun _ h => by cases h) (by kernel_rfl) (fun _ h => by cases h) wrapWrapSpec_row_tie rfl ⟨rfl, rfl⟩ (by kernel_rfl) rfl
    (fun f fn hf hfn => by
      obtain rfl : f = 3 := Option.some.inj ((show Tryz.prog.funcNamed "chartroom/chartroomlaw09.WrapWrapSpec" = some 3 by kernel_rfl).symm.trans hf) |>.symm
      obtain rfl : fn = Tryz.f3 := (Option.some.inj (Tryz.func3.symm.trans hfn)).symm
      exact ⟨by kernel_rfl, fun j t ht => by
        rw [Tryz.params3] at ht
        have hm := Array.mem_of_getElem? ht
        have hall : (#[3, 23, 24, 24, 26].all fun u => !Tryz.prog.wantsStandIn u) = true := by kernel_rfl
        have := Array.all_eq_true_iff_forall_mem.1 hall t hm
        exact (show Tryz.prog.wantsStandIn t = false by simpa using this)⟩)
    (by kernel_rfl)
#print axioms WrapWrapSpec_holds

end Go.Proofs.YtchpcabehchfjaaGreatDoor
