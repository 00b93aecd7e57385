/- The statements on items: rows and cards. No condition beyond the rows' own. -/
import Derived.Test.YtejdjnkilikehaaGreatDoorBa6
import Derived.Test.YtejdjnkilikehaaGreatDoorJo29
set_option linter.all false
namespace Go.Proofs.YtejdjnkilikehaaGreatDoor
open Go Eng Itm Go.ChangeShapes Go.WideShapes Go.ChangeAt Go.RowKit

set_option maxRecDepth 100000 in
theorem ItemsBack_lifted (os : Os) (started : os.Started) (H : Type) (enc : TypeId × Value → H) :
    ReturnsInHanded {} Tryz.checked os 10 .any (fun w args => (Rows.itemsBackSpec.pre enc Tryz.prog Tryz.f10 [] false w args ∧ laidMetH Tryz.prog laid29 w) ∧ sizedMet enc Tryz.prog Tryz.f10 (OpenSpec.ofChange Rows.itemsBackSpec) false w args)
      (Rows.itemsBackSpec.post enc Tryz.prog Tryz.f10 false true false false) := by
  refine law_lifted (C := Tryz.checked) (X := fun w _ => laidMetH Tryz.prog laid29 w) (fun _ _ _ hh h => h.of_heap hh) own29 started (by kernel_rfl) Tryz.func10
    (ChangeSpec.witness_shaped (enc := enc) (C := Tryz.checked) (os := os) (X := fun w _ => laidMetH Tryz.prog laid29 w) false (World.doorLaid Tryz.prog 400 os) #[.agg (.int .i64 0 :: (List.replicate 64 (.int .u8 0) ++ (List.replicate 4 (.int .i64 0) ++ (.slice none 0 0 :: List.replicate 32 (.int .u8 0))))).toArray, .slice none 0 0] 8 rfl (World.shaped_of_RefB (by kernel_rfl) (by kernel_rfl)) (by kernel_rfl) (by kernel_rfl) (by kernel_rfl) (door29 os _))
    (by kernel_rfl) (by kernel_rfl) rfl Tryz.underlying4 rfl (fun ds hds => by match ds, hds with | [d0, d1], _ => rfl) ?_
  intro W base args ds p hval hA hsz hL
  rw [Tryz.params10] at hA hval hsz
  obtain ⟨v0, vs0, d0, ds0, p0, q0', hargs0, hds0, hps0, h0, r0⟩ := trodAll_cons hA
  obtain ⟨v1, vs1, d1, ds1, p1, q1', hargs1, hds1, hps1, h1, r1⟩ := trodAll_cons r0
  obtain ⟨e1, e2, e3⟩ := trodAll_nil r1
  subst e1 e2 e3
  subst hargs1 hds1
  subst hds0
  obtain rfl : args = #[v0, v1] := by cases args; simp_all
  have hw0 : ∀ n ∈ d0.weights Tryz.prog 29, n ≤ reachBytes := fun n hn => by have := List.all_eq_true.1 hsz _ (DataW.weights_mem_each (j := 0) rfl rfl n hn); simpa using this
  obtain ⟨nf0, nd0, nc0, nk0, nx0, cm0, ks0, bq0, sd0, a0, c0, rfl, hf0, hdd0, hc0, hk0, hcm0, hks0, hs0, hr0, hq0⟩ := op_in (hval 0 29 v0 rfl rfl) h0 hw0
  have hw1 : ∀ n ∈ d1.weights Tryz.prog 27, n ≤ reachBytes := fun n hn => by have := List.all_eq_true.1 hsz _ (DataW.weights_mem_each (j := 1) rfl rfl n hn); simpa using this
  obtain ⟨a1, c1, q1, rfl, hr1, hc1, hm1⟩ := op_bytes Tryz.underlying27 Tryz.underlying5 (by kernel_rfl) (by kernel_rfl) (hval 1 27 v1 rfl rfl) h1 hw1
  exact law_ItemsBack_ok W (lg_of_laid hL) nf0 nd0 nc0 nk0 nx0 cm0 ks0 bq0 sd0 a0 c0 hf0 hdd0 hc0 hk0 hcm0 hks0 hs0 hr0 hq0 q1 a1 c1 hr1 hc1 (by omega)
theorem ItemsBack_jA : (Rows.itemsBackRow.inPlace == Tryz.prog.inPlace 10) = true := by kernel_rfl
theorem ItemsBack_jB : (Rows.itemsBackRow.unfollowed == Tryz.prog.unfollowed 10) = true := by kernel_rfl
theorem ItemsBack_jC : (Rows.itemsBackRow.recurses == Tryz.prog.recurses 10) = true := by kernel_rfl
theorem ItemsBack_jD : (Rows.itemsBackRow.named == Tryz.prog.varsNamed 10) = true := by kernel_rfl
theorem ItemsBack_jI : (Rows.itemsBackRow.plainKeys == Tryz.prog.plainKeys) = true := by kernel_rfl
theorem ItemsBack_goes : false = Rows.itemsBackRow.goesBy Tryz.prog := by kernel_rfl
theorem ItemsBack_closed : joinedFacts Tryz.prog 10 Tryz.f10 Rows.itemsBackSpec Rows.itemsBackRow = true := by
  unfold joinedFacts
  rw [ItemsBack_jA, ItemsBack_jB, ItemsBack_jC, ItemsBack_jD, ItemsBack_jI, jLaid, jMapsR, jHeard]
  kernel_rfl
theorem ItemsBack_row : Rows.ItemsBackSaid :=
  OpenClaim.holds_of_wide 10 Tryz.f10 rfl rfl rfl rfl rfl rfl rfl ⟨rfl, rfl, rfl, rfl, rfl⟩ rfl rfl rfl rfl rfl (by kernel_rfl) Tryz.func10 ItemsBack_closed
    (of_decide_eq_true (by kernel_rfl)) (by unfold Func.isWrapper; first | (rw [if_pos (by decide +kernel)]; kernel_rfl) | (rw [if_neg (by decide +kernel)]; exact ⟨rfl, rfl⟩))
    (fun os started H enc _ => ItemsBack_lifted os started H enc)
theorem ItemsBack_holds : Rows.ItemsBackCardSaid :=
  Claim7.holds_tied_plain_at .later [] [.data, .data, .widerDeep, .sentinel, .widerDeep] true (true, "94e03ded36e05c3f1ce72b1ad2f8c497af097728aac54644fbbe099c18637493") true
    ItemsBack_row (fun _ h => by cases h) (by kernel_rfl) (fun _ h => by cases h) itemsBack_row_tie rfl ⟨rfl, rfl⟩ (by kernel_rfl) rfl
    (fun f fn hf hfn => by
      obtain rfl : f = 10 := Option.some.inj ((show Tryz.prog.funcNamed "chartroom/chartroomlaw29.ItemsBack" = some 10 by kernel_rfl).symm.trans hf) |>.symm
      obtain rfl : fn = Tryz.f10 := (Option.some.inj (Tryz.func10.symm.trans hfn)).symm
      exact ⟨jLooks, fun j t ht => by
        rw [Tryz.params10] at ht
        have hm := Array.mem_of_getElem? ht
        have hall : (#[29, 27].all fun u => !Tryz.prog.wantsStandIn u) = true := by kernel_rfl
        have := Array.all_eq_true_iff_forall_mem.1 hall t hm
        exact (show Tryz.prog.wantsStandIn t = false by simpa using this)⟩)
    ItemsBack_goes
#print axioms ItemsBack_holds

end Go.Proofs.YtejdjnkilikehaaGreatDoor

