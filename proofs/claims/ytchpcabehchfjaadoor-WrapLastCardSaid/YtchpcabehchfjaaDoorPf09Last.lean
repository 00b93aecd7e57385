/- The statements on wraps: rows and cards. No condition beyond the rows' own. -/
import Derived.Test.YtchpcabehchfjaaDoorDoor09
import Derived.Test.YtchpcabehchfjaaDoorLawD09
namespace Go.Proofs.YtchpcabehchfjaaDoor
open Go Eng Go.ChangeShapes Go.WideShapes Go.ChangeAt Go.RowKit

set_option maxRecDepth 100000 in
theorem WrapLast_lifted (os : Os) (started : os.Started) (H : Type) (enc : TypeId × Value → H) :
    ReturnsInHanded {} Tryd.checked os 8 .any (fun w args => (Rows.wrapLastSpec.pre enc Tryd.prog Tryd.f8 [] false w args ∧ laidMetH Tryd.prog laid09 w) ∧ sizedMet enc Tryd.prog Tryd.f8 (OpenSpec.ofChange Rows.wrapLastSpec) false w args)
      (Rows.wrapLastSpec.post enc Tryd.prog Tryd.f8 false true false false) := by
  refine law_lifted (C := Tryd.checked) (X := fun w _ => laidMetH Tryd.prog laid09 w) (fun _ _ _ hh h => h.of_heap hh) own09 started (by kernel_rfl) Tryd.func8
    (ChangeSpec.witness_shaped (enc := enc) (C := Tryd.checked) (os := os) (X := fun w _ => laidMetH Tryd.prog laid09 w) false (World.doorLaid Tryd.prog 400 os) #[.int .i64 0, .agg (List.replicate 32 (.int .u8 0)).toArray, .slice none 0 0, .slice none 0 0, .int .u8 0, .int .u8 0] 8 rfl (World.shaped_of_RefB (by kernel_rfl) (by kernel_rfl)) (by kernel_rfl) (by kernel_rfl) (by kernel_rfl) (door09 os _))
    (by kernel_rfl) (by kernel_rfl) rfl Tryd.underlying4 rfl (fun ds hds => by match ds, hds with | [d0, d1, d2, d3, d4, d5], _ => rfl) ?_
  intro W base args ds p hval hA hsz hL
  rw [Tryd.params8] at hA hval hsz
  obtain ⟨v0, vs0, d0, ds0, p0, q0', hargs0, hds0, hps0, h0, r0⟩ := trodAll_cons hA
  obtain ⟨v1, vs1, d1, ds1, p1, q1', hargs1, hds1, hps1, h1, r1⟩ := trodAll_cons r0
  obtain ⟨v2, vs2, d2, ds2, p2, q2', hargs2, hds2, hps2, h2, r2⟩ := trodAll_cons r1
  obtain ⟨v3, vs3, d3, ds3, p3, q3', hargs3, hds3, hps3, h3, r3⟩ := trodAll_cons r2
  obtain ⟨v4, vs4, d4, ds4, p4, q4', hargs4, hds4, hps4, h4, r4⟩ := trodAll_cons r3
  obtain ⟨v5, vs5, d5, ds5, p5, q5', hargs5, hds5, hps5, h5, r5⟩ := trodAll_cons r4
  obtain ⟨e1, e2, e3⟩ := trodAll_nil r5
  subst e1 e2 e3
  subst hargs5 hds5
  subst hargs4 hds4
  subst hargs3 hds3
  subst hargs2 hds2
  subst hargs1 hds1
  subst hds0
  obtain rfl : args = #[v0, v1, v2, v3, v4, v5] := by cases args; simp_all
  obtain ⟨a0, rfl, hb0⟩ := op_int Tryd.underlying3 (hval 0 3 v0 rfl rfl) h0
  obtain ⟨k1, rfl, hk1⟩ := op_key Tryd.underlying32 Tryd.underlying5 (by kernel_rfl) (by kernel_rfl) (hval 1 32 v1 rfl rfl) h1
  have hw2 : ∀ n ∈ d2.weights Tryd.prog 22, n ≤ reachBytes := fun n hn => by have := List.all_eq_true.1 hsz _ (DataW.weights_mem_each (j := 2) rfl rfl n hn); simpa using this
  obtain ⟨a2, c2, q2, rfl, hr2, hc2, hm2⟩ := op_bytes Tryd.underlying22 Tryd.underlying5 (by kernel_rfl) (by kernel_rfl) (hval 2 22 v2 rfl rfl) h2 hw2
  have hw3 : ∀ n ∈ d3.weights Tryd.prog 22, n ≤ reachBytes := fun n hn => by have := List.all_eq_true.1 hsz _ (DataW.weights_mem_each (j := 3) rfl rfl n hn); simpa using this
  obtain ⟨a3, c3, q3, rfl, hr3, hc3, hm3⟩ := op_bytes Tryd.underlying22 Tryd.underlying5 (by kernel_rfl) (by kernel_rfl) (hval 3 22 v3 rfl rfl) h3 hw3
  obtain ⟨y4, rfl⟩ := op_byte Tryd.underlying5 (hval 4 5 v4 rfl rfl) h4
  obtain ⟨y5, rfl⟩ := op_byte Tryd.underlying5 (hval 5 5 v5 rfl rfl) h5
  exact law_WrapLast_ok W a2 a3 c2 c3 q2 q3 (lc_of_laid hL) hr2 hr3 (by omega) (by omega) k1 hk1 a0 y4 y5
theorem WrapLast_row : Rows.WrapLastSaid :=
  OpenClaim.holds_of_wide 8 Tryd.f8 rfl rfl rfl rfl rfl rfl rfl ⟨rfl, rfl, rfl, rfl, rfl⟩ rfl rfl rfl rfl rfl (by kernel_rfl) Tryd.func8 (by kernel_rfl)
    (of_decide_eq_true (by kernel_rfl)) (by unfold Func.isWrapper; first | (rw [if_pos (by decide +kernel)]; kernel_rfl) | (rw [if_neg (by decide +kernel)]; exact ⟨rfl, rfl⟩))
    (fun os started H enc _ => WrapLast_lifted os started H enc)
theorem WrapLast_holds : Rows.WrapLastCardSaid :=
  Claim7.holds_tied_plain_at .later [] [.data, .data, .sentinel, .widerDeep] true (true, "f2a569c4421e357a642cbf867d112181d0cf8e9ab2d0a1a1c2f93246f2d8e88a") false
    WrapLast_row (fun _ h => by cases h) (by kernel_rfl) (fun _ h => by cases h) wrapLast_row_tie rfl ⟨rfl, rfl⟩ (by kernel_rfl) rfl
    (fun f fn hf hfn => by
      obtain rfl : f = 8 := Option.some.inj ((show Tryd.prog.funcNamed "chartroom/chartroomlaw09.WrapLast" = some 8 by kernel_rfl).symm.trans hf) |>.symm
      obtain rfl : fn = Tryd.f8 := (Option.some.inj (Tryd.func8.symm.trans hfn)).symm
      exact ⟨by kernel_rfl, fun j t ht => by
        rw [Tryd.params8] at ht
        have hm := Array.mem_of_getElem? ht
        have hall : (#[3, 32, 22, 22, 5, 5].all fun u => !Tryd.prog.wantsStandIn u) = true := by kernel_rfl
        have := Array.all_eq_true_iff_forall_mem.1 hall t hm
        exact (show Tryd.prog.wantsStandIn t = false by simpa using this)⟩)
    (by kernel_rfl)
#print axioms WrapLast_holds

end Go.Proofs.YtchpcabehchfjaaDoor
