/- The statements on items: rows and cards. No condition beyond the rows' own. -/
import Derived.Test.YtejdjnkilikehaaGreatDoorLe6
import Derived.Test.YtejdjnkilikehaaGreatDoorJo29
set_option linter.all false
namespace Go.Proofs.YtejdjnkilikehaaGreatDoor
open Go Eng Itm Go.ChangeShapes Go.WideShapes Go.ChangeAt Go.RowKit

set_option maxRecDepth 100000 in
theorem ItemsLengths_lifted (os : Os) (started : os.Started) (H : Type) (enc : TypeId × Value → H) :
    ReturnsInHanded {} Tryz.checked os 7 .any (fun w args => (Rows.itemsLengthsSpec.pre enc Tryz.prog Tryz.f7 [] false w args ∧ laidMetH Tryz.prog laid29 w) ∧ sizedMet enc Tryz.prog Tryz.f7 (OpenSpec.ofChange Rows.itemsLengthsSpec) false w args)
      (Rows.itemsLengthsSpec.post enc Tryz.prog Tryz.f7 false true false false) := by
  refine law_lifted (C := Tryz.checked) (X := fun w _ => laidMetH Tryz.prog laid29 w) (fun _ _ _ hh h => h.of_heap hh) own29 started (by kernel_rfl) Tryz.func7
    (ChangeSpec.witness_shaped (enc := enc) (C := Tryz.checked) (os := os) (X := fun w _ => laidMetH Tryz.prog laid29 w) false (World.doorLaid Tryz.prog 400 os) #[.agg (.int .i64 0 :: (List.replicate 64 (.int .u8 0) ++ (List.replicate 4 (.int .i64 0) ++ (.slice none 0 0 :: List.replicate 32 (.int .u8 0))))).toArray, .agg (.int .i64 0 :: (List.replicate 64 (.int .u8 0) ++ (List.replicate 4 (.int .i64 0) ++ (.slice none 0 0 :: List.replicate 32 (.int .u8 0))))).toArray] 8 rfl (World.shaped_of_RefB (by kernel_rfl) (by kernel_rfl)) (by kernel_rfl) (by kernel_rfl) (by kernel_rfl) (door29 os _))
    (by kernel_rfl) (by kernel_rfl) rfl Tryz.underlying4 rfl (fun ds hds => by match ds, hds with | [d0, d1], _ => rfl) ?_
  intro W base args ds p hval hA hsz hL
  rw [Tryz.params7] at hA hval hsz
  obtain ⟨v0, vs0, d0, ds0, p0, q0', hargs0, hds0, hps0, h0, r0⟩ := trodAll_cons hA
  obtain ⟨v1, vs1, d1, ds1, p1, q1', hargs1, hds1, hps1, h1, r1⟩ := trodAll_cons r0
  obtain ⟨e1, e2, e3⟩ := trodAll_nil r1
  subst e1 e2 e3
  subst hargs1 hds1
  subst hds0
  obtain rfl : args = #[v0, v1] := by cases args; simp_all
  have hw0 : ∀ n ∈ d0.weights Tryz.prog 29, n ≤ reachBytes := fun n hn => by have := List.all_eq_true.1 hsz _ (DataW.weights_mem_each (j := 0) rfl rfl n hn); simpa using this
  obtain ⟨nf0, nd0, nc0, nk0, nx0, cm0, ks0, bq0, sd0, a0, c0, rfl, hf0, hdd0, hc0, hk0, hcm0, hks0, hs0, hr0, hq0⟩ := op_in (hval 0 29 v0 rfl rfl) h0 hw0
  have hw1 : ∀ n ∈ d1.weights Tryz.prog 29, n ≤ reachBytes := fun n hn => by have := List.all_eq_true.1 hsz _ (DataW.weights_mem_each (j := 1) rfl rfl n hn); simpa using this
  obtain ⟨nf1, nd1, nc1, nk1, nx1, cm1, ks1, bq1, sd1, a1, c1, rfl, hf1, hdd1, hc1, hk1, hcm1, hks1, hs1, hr1, hq1⟩ := op_in (hval 1 29 v1 rfl rfl) h1 hw1
  exact law_ItemsLengths_ok W (lg_of_laid hL) nf0 nd0 nc0 nk0 nx0 cm0 ks0 bq0 sd0 a0 c0 hf0 hdd0 hc0 hk0 hcm0 hks0 hs0 hr0 hq0 nf1 nd1 nc1 nk1 nx1 cm1 ks1 bq1 sd1 a1 c1 hf1 hdd1 hc1 hk1 hcm1 hks1 hs1 hr1 hq1
theorem ItemsLengths_jA : (Rows.itemsLengthsRow.inPlace == Tryz.prog.inPlace 7) = true := by kernel_rfl
theorem ItemsLengths_jB : (Rows.itemsLengthsRow.unfollowed == Tryz.prog.unfollowed 7) = true := by kernel_rfl
theorem ItemsLengths_jC : (Rows.itemsLengthsRow.recurses == Tryz.prog.recurses 7) = true := by kernel_rfl
theorem ItemsLengths_jD : (Rows.itemsLengthsRow.named == Tryz.prog.varsNamed 7) = true := by kernel_rfl
theorem ItemsLengths_jI : (Rows.itemsLengthsRow.plainKeys == Tryz.prog.plainKeys) = true := by kernel_rfl
theorem ItemsLengths_goes : false = Rows.itemsLengthsRow.goesBy Tryz.prog := by kernel_rfl
theorem ItemsLengths_closed : joinedFacts Tryz.prog 7 Tryz.f7 Rows.itemsLengthsSpec Rows.itemsLengthsRow = true := by
  unfold joinedFacts
  rw [ItemsLengths_jA, ItemsLengths_jB, ItemsLengths_jC, ItemsLengths_jD, ItemsLengths_jI, jLaid, jMapsR, jHeard]
  kernel_rfl
theorem ItemsLengths_row : Rows.ItemsLengthsSaid :=
  OpenClaim.holds_of_wide 7 Tryz.f7 rfl rfl rfl rfl rfl rfl rfl ⟨rfl, rfl, rfl, rfl, rfl⟩ rfl rfl rfl rfl rfl (by kernel_rfl) Tryz.func7 ItemsLengths_closed
    (of_decide_eq_true (by kernel_rfl)) (by unfold Func.isWrapper; first | (rw [if_pos (by decide +kernel)]; kernel_rfl) | (rw [if_neg (by decide +kernel)]; exact ⟨rfl, rfl⟩))
    (fun os started H enc _ => ItemsLengths_lifted os started H enc)
theorem ItemsLengths_holds : Rows.ItemsLengthsCardSaid :=
  Claim7.holds_tied_plain_at .later [] [.data, .data, .widerDeep, .sentinel, .widerDeep] true (true, "94e03ded36e05c3f1ce72b1ad2f8c497af097728aac54644fbbe099c18637493") true
    ItemsLengths_row (fun _ h => by cases h) (by kernel_rfl) (fun _ h => by cases h) itemsLengths_row_tie rfl ⟨rfl, rfl⟩ (by kernel_rfl) rfl
    (fun f fn hf hfn => by
      obtain rfl : f = 7 := Option.some.inj ((show Tryz.prog.funcNamed "chartroom/chartroomlaw29.ItemsLengths" = some 7 by kernel_rfl).symm.trans hf) |>.symm
      obtain rfl : fn = Tryz.f7 := (Option.some.inj (Tryz.func7.symm.trans hfn)).symm
      exact ⟨jLooks, fun j t ht => by
        rw [Tryz.params7] at ht
        have hm := Array.mem_of_getElem? ht
        have hall : (#[29, 29].all fun u => !Tryz.prog.wantsStandIn u) = true := by kernel_rfl
        have := Array.all_eq_true_iff_forall_mem.1 hall t hm
        exact (show Tryz.prog.wantsStandIn t = false by simpa using this)⟩)
    ItemsLengths_goes
#print axioms ItemsLengths_holds

end Go.Proofs.YtejdjnkilikehaaGreatDoor

