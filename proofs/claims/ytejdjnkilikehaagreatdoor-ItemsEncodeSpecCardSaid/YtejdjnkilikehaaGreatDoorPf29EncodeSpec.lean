/- The statements on items: rows and cards. No condition beyond the rows' own. -/
import Derived.Test.YtejdjnkilikehaaGreatDoorEn6
import Derived.Test.YtejdjnkilikehaaGreatDoorJo29
set_option linter.all false
namespace Go.Proofs.YtejdjnkilikehaaGreatDoor
open Go Eng Itm Go.ChangeShapes Go.WideShapes Go.ChangeAt Go.RowKit

set_option maxRecDepth 100000 in
theorem ItemsEncodeSpec_lifted (os : Os) (started : os.Started) (H : Type) (enc : TypeId × Value → H) :
    ReturnsInHanded {} Tryz.checked os 5 .any (fun w args => (Rows.itemsEncodeSpecSpec.pre enc Tryz.prog Tryz.f5 [] false w args ∧ laidMetH Tryz.prog laid29 w) ∧ sizedMet enc Tryz.prog Tryz.f5 (OpenSpec.ofChange Rows.itemsEncodeSpecSpec) false w args)
      (Rows.itemsEncodeSpecSpec.post enc Tryz.prog Tryz.f5 false true false false) := by
  refine law_lifted (C := Tryz.checked) (X := fun w _ => laidMetH Tryz.prog laid29 w) (fun _ _ _ hh h => h.of_heap hh) own29 started (by kernel_rfl) Tryz.func5
    (ChangeSpec.witness_shaped (enc := enc) (C := Tryz.checked) (os := os) (X := fun w _ => laidMetH Tryz.prog laid29 w) false (World.doorLaid Tryz.prog 400 os) #[.agg (.int .i64 0 :: (List.replicate 32 (.int .u8 0) ++ (List.replicate 6 (.int .i64 0) ++ (List.replicate 32 (.int .u8 0) ++ [.slice none 0 0, .int .i64 0, .int .i64 0])))).toArray, .slice none 0 0] 8 rfl (World.shaped_of_RefB (by kernel_rfl) (by kernel_rfl)) (by kernel_rfl) (by kernel_rfl) (by kernel_rfl) (door29 os _))
    (by kernel_rfl) (by kernel_rfl) rfl Tryz.underlying4 rfl (fun ds hds => by match ds, hds with | [d0, d1], _ => rfl) ?_
  intro W base args ds p hval hA hsz hL
  rw [Tryz.params5] at hA hval hsz
  obtain ⟨v0, vs0, d0, ds0, p0, q0', hargs0, hds0, hps0, h0, r0⟩ := trodAll_cons hA
  obtain ⟨v1, vs1, d1, ds1, p1, q1', hargs1, hds1, hps1, h1, r1⟩ := trodAll_cons r0
  obtain ⟨e1, e2, e3⟩ := trodAll_nil r1
  subst e1 e2 e3
  subst hargs1 hds1
  subst hds0
  obtain rfl : args = #[v0, v1] := by cases args; simp_all
  have hw0 : ∀ n ∈ d0.weights Tryz.prog 36, n ≤ reachBytes := fun n hn => by have := List.all_eq_true.1 hsz _ (DataW.weights_mem_each (j := 0) rfl rfl n hn); simpa using this
  obtain ⟨i0, a0, c0, rfl, hi0, hr0, hcc0, hm0⟩ := op_item (hval 0 36 v0 rfl rfl) h0 hw0
  have hw1 : ∀ n ∈ d1.weights Tryz.prog 27, n ≤ reachBytes := fun n hn => by have := List.all_eq_true.1 hsz _ (DataW.weights_mem_each (j := 1) rfl rfl n hn); simpa using this
  obtain ⟨a1, c1, q1, rfl, hr1, hc1, hm1⟩ := op_bytes Tryz.underlying27 Tryz.underlying5 (by kernel_rfl) (by kernel_rfl) (hval 1 27 v1 rfl rfl) h1 hw1
  exact law_ItemsEncodeSpec_ok W (lg_of_laid hL) i0 a0 c0 hi0 hr0 hcc0 q1 a1 c1 hr1 hc1 (by omega)
theorem ItemsEncodeSpec_jA : (Rows.itemsEncodeSpecRow.inPlace == Tryz.prog.inPlace 5) = true := by kernel_rfl
theorem ItemsEncodeSpec_jB : (Rows.itemsEncodeSpecRow.unfollowed == Tryz.prog.unfollowed 5) = true := by kernel_rfl
theorem ItemsEncodeSpec_jC : (Rows.itemsEncodeSpecRow.recurses == Tryz.prog.recurses 5) = true := by kernel_rfl
theorem ItemsEncodeSpec_jD : (Rows.itemsEncodeSpecRow.named == Tryz.prog.varsNamed 5) = true := by kernel_rfl
theorem ItemsEncodeSpec_jI : (Rows.itemsEncodeSpecRow.plainKeys == Tryz.prog.plainKeys) = true := by kernel_rfl
theorem ItemsEncodeSpec_goes : false = Rows.itemsEncodeSpecRow.goesBy Tryz.prog := by kernel_rfl
theorem ItemsEncodeSpec_closed : joinedFacts Tryz.prog 5 Tryz.f5 Rows.itemsEncodeSpecSpec Rows.itemsEncodeSpecRow = true := by
  unfold joinedFacts
  rw [ItemsEncodeSpec_jA, ItemsEncodeSpec_jB, ItemsEncodeSpec_jC, ItemsEncodeSpec_jD, ItemsEncodeSpec_jI, jLaid, jMapsR, jHeard]
  kernel_rfl
theorem ItemsEncodeSpec_row : Rows.ItemsEncodeSpecSaid :=
  OpenClaim.holds_of_wide 5 Tryz.f5 rfl rfl rfl rfl rfl rfl rfl ⟨rfl, rfl, rfl, rfl, rfl⟩ rfl rfl rfl rfl rfl (by kernel_rfl) Tryz.func5 ItemsEncodeSpec_closed
    (of_decide_eq_true (by kernel_rfl)) (by unfold Func.isWrapper; first | (rw [if_pos (by decide +kernel)]; kernel_rfl) | (rw [if_neg (by decide +kernel)]; exact ⟨rfl, rfl⟩))
    (fun os started H enc _ => ItemsEncodeSpec_lifted os started H enc)
theorem ItemsEncodeSpec_holds : Rows.ItemsEncodeSpecCardSaid :=
  Claim7.holds_tied_plain_at .later [] [.data, .data, .widerDeep, .sentinel, .widerDeep] true (true, "94e03ded36e05c3f1ce72b1ad2f8c497af097728aac54644fbbe099c18637493") true
    ItemsEncodeSpec_row (fun _ h => by cases h) (by kernel_rfl) (fun _ h => by cases h) itemsEncodeSpec_row_tie rfl ⟨rfl, rfl⟩ (by kernel_rfl) rfl
    (fun f fn hf hfn => by
      obtain rfl : f = 5 := Option.some.inj ((show Tryz.prog.funcNamed "chartroom/chartroomlaw29.ItemsEncodeSpec" = some 5 by kernel_rfl).symm.trans hf) |>.symm
      obtain rfl : fn = Tryz.f5 := (Option.some.inj (Tryz.func5.symm.trans hfn)).symm
      exact ⟨jLooks, fun j t ht => by
        rw [Tryz.params5] at ht
        have hm := Array.mem_of_getElem? ht
        have hall : (#[36, 27].all fun u => !Tryz.prog.wantsStandIn u) = true := by kernel_rfl
        have := Array.all_eq_true_iff_forall_mem.1 hall t hm
        exact (show Tryz.prog.wantsStandIn t = false by simpa using this)⟩)
    ItemsEncodeSpec_goes
#print axioms ItemsEncodeSpec_holds

end Go.Proofs.YtejdjnkilikehaaGreatDoor

