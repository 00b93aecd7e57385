/- The statements on items: rows and cards. No condition beyond the rows' own. -/
import Derived.Test.YtejdjnkilikehaaGreatDoorSg5
import Derived.Test.YtejdjnkilikehaaGreatDoorJo29
set_option linter.all false
namespace Go.Proofs.YtejdjnkilikehaaGreatDoor
open Go Eng Itm Go.ChangeShapes Go.WideShapes Go.ChangeAt Go.RowKit

set_option maxRecDepth 100000 in
theorem ItemsSigned_lifted (os : Os) (started : os.Started) (H : Type) (enc : TypeId × Value → H) :
    ReturnsInHanded {} Tryz.checked os 8 .any (fun w args => (Rows.itemsSignedSpec.pre enc Tryz.prog Tryz.f8 [] false w args ∧ laidMetH Tryz.prog laid29 w) ∧ sizedMet enc Tryz.prog Tryz.f8 (OpenSpec.ofChange Rows.itemsSignedSpec) false w args)
      (Rows.itemsSignedSpec.post enc Tryz.prog Tryz.f8 false true false false) := by
  refine law_lifted (C := Tryz.checked) (X := fun w _ => laidMetH Tryz.prog laid29 w) (fun _ _ _ hh h => h.of_heap hh) own29 started (by kernel_rfl) Tryz.func8
    (ChangeSpec.witness_shaped (enc := enc) (C := Tryz.checked) (os := os) (X := fun w _ => laidMetH Tryz.prog laid29 w) false (World.doorLaid Tryz.prog 400 os) #[.agg (.int .i64 0 :: (List.replicate 32 (.int .u8 0) ++ (List.replicate 6 (.int .i64 0) ++ (List.replicate 32 (.int .u8 0) ++ [.slice none 0 0, .int .i64 0, .int .i64 0])))).toArray, .int .i64 0] 8 rfl (World.shaped_of_RefB (by kernel_rfl) (by kernel_rfl)) (by kernel_rfl) (by kernel_rfl) (by kernel_rfl) (door29 os _))
    (by kernel_rfl) (by kernel_rfl) rfl Tryz.underlying4 rfl (fun ds hds => by match ds, hds with | [d0, d1], _ => rfl) ?_
  intro W base args ds p hval hA hsz hL
  rw [Tryz.params8] at hA hval hsz
  obtain ⟨v0, vs0, d0, ds0, p0, q0', hargs0, hds0, hps0, h0, r0⟩ := trodAll_cons hA
  obtain ⟨v1, vs1, d1, ds1, p1, q1', hargs1, hds1, hps1, h1, r1⟩ := trodAll_cons r0
  obtain ⟨e1, e2, e3⟩ := trodAll_nil r1
  subst e1 e2 e3
  subst hargs1 hds1
  subst hds0
  obtain rfl : args = #[v0, v1] := by cases args; simp_all
  have hw0 : ∀ n ∈ d0.weights Tryz.prog 36, n ≤ reachBytes := fun n hn => by have := List.all_eq_true.1 hsz _ (DataW.weights_mem_each (j := 0) rfl rfl n hn); simpa using this
  obtain ⟨i0, a0, c0, rfl, hi0, hr0, hcc0, hm0⟩ := op_item (hval 0 36 v0 rfl rfl) h0 hw0
  obtain ⟨a1, rfl, hb1⟩ := op_int Tryz.underlying3 (hval 1 3 v1 rfl rfl) h1
  exact law_ItemsSigned_ok W (lg_of_laid hL) i0 a0 c0 hi0 hr0 hcc0 a1
theorem ItemsSigned_jA : (Rows.itemsSignedRow.inPlace == Tryz.prog.inPlace 8) = true := by kernel_rfl
theorem ItemsSigned_jB : (Rows.itemsSignedRow.unfollowed == Tryz.prog.unfollowed 8) = true := by kernel_rfl
theorem ItemsSigned_jC : (Rows.itemsSignedRow.recurses == Tryz.prog.recurses 8) = true := by kernel_rfl
theorem ItemsSigned_jD : (Rows.itemsSignedRow.named == Tryz.prog.varsNamed 8) = true := by kernel_rfl
theorem ItemsSigned_jI : (Rows.itemsSignedRow.plainKeys == Tryz.prog.plainKeys) = true := by kernel_rfl
theorem ItemsSigned_goes : false = Rows.itemsSignedRow.goesBy Tryz.prog := by kernel_rfl
theorem ItemsSigned_closed : joinedFacts Tryz.prog 8 Tryz.f8 Rows.itemsSignedSpec Rows.itemsSignedRow = true := by
  unfold joinedFacts
  rw [ItemsSigned_jA, ItemsSigned_jB, ItemsSigned_jC, ItemsSigned_jD, ItemsSigned_jI, jLaid, jMapsR, jHeard]
  kernel_rfl
theorem ItemsSigned_row : Rows.ItemsSignedSaid :=
  OpenClaim.holds_of_wide 8 Tryz.f8 rfl rfl rfl rfl rfl rfl rfl ⟨rfl, rfl, rfl, rfl, rfl⟩ rfl rfl rfl rfl rfl (by kernel_rfl) Tryz.func8 ItemsSigned_closed
    (of_decide_eq_true (by kernel_rfl)) (by unfold Func.isWrapper; first | (rw [if_pos (by decide +kernel)]; kernel_rfl) | (rw [if_neg (by decide +kernel)]; exact ⟨rfl, rfl⟩))
    (fun os started H enc _ => ItemsSigned_lifted os started H enc)
theorem ItemsSigned_holds : Rows.ItemsSignedCardSaid :=
  Claim7.holds_tied_plain_at .later [] [.data, .data, .widerDeep, .sentinel, .widerDeep] true (true, "94e03ded36e05c3f1ce72b1ad2f8c497af097728aac54644fbbe099c18637493") true
    ItemsSigned_row (fun _ h => by cases h) (by kernel_rfl) (fun _ h => by cases h) itemsSigned_row_tie rfl ⟨rfl, rfl⟩ (by kernel_rfl) rfl
    (fun f fn hf hfn => by
      obtain rfl : f = 8 := Option.some.inj ((show Tryz.prog.funcNamed "chartroom/chartroomlaw29.ItemsSigned" = some 8 by kernel_rfl).symm.trans hf) |>.symm
      obtain rfl : fn = Tryz.f8 := (Option.some.inj (Tryz.func8.symm.trans hfn)).symm
      exact ⟨jLooks, fun j t ht => by
        rw [Tryz.params8] at ht
        have hm := Array.mem_of_getElem? ht
        have hall : (#[36, 3].all fun u => !Tryz.prog.wantsStandIn u) = true := by kernel_rfl
        have := Array.all_eq_true_iff_forall_mem.1 hall t hm
        exact (show Tryz.prog.wantsStandIn t = false by simpa using this)⟩)
    ItemsSigned_goes
#print axioms ItemsSigned_holds

end Go.Proofs.YtejdjnkilikehaaGreatDoor

