/- The statements on items: rows and cards. No condition beyond the rows' own. -/
import Derived.Test.YtejdjnkilikehaaGreatDoorOp5
import Derived.Test.YtejdjnkilikehaaGreatDoorJo29
set_option linter.all false
namespace Go.Proofs.YtejdjnkilikehaaGreatDoor
open Go Eng Itm Go.ChangeShapes Go.WideShapes Go.ChangeAt Go.RowKit

set_option maxRecDepth 100000 in
theorem ItemsOpens_lifted (os : Os) (started : os.Started) (H : Type) (enc : TypeId × Value → H) :
    ReturnsInHanded {} Tryz.checked os 6 .any (fun w args => (Rows.itemsOpensSpec.pre enc Tryz.prog Tryz.f6 [] false w args ∧ laidMetH Tryz.prog laid29 w) ∧ sizedMet enc Tryz.prog Tryz.f6 (OpenSpec.ofChange Rows.itemsOpensSpec) false w args)
      (Rows.itemsOpensSpec.post enc Tryz.prog Tryz.f6 false true false false) := by
  refine law_lifted (C := Tryz.checked) (X := fun w _ => laidMetH Tryz.prog laid29 w) (fun _ _ _ hh h => h.of_heap hh) own29 started (by kernel_rfl) Tryz.func6
    (ChangeSpec.witness_shaped (enc := enc) (C := Tryz.checked) (os := os) (X := fun w _ => laidMetH Tryz.prog laid29 w) false (World.doorLaid Tryz.prog 400 os) #[.agg (.int .i64 0 :: (List.replicate 64 (.int .u8 0) ++ (List.replicate 4 (.int .i64 0) ++ (.slice none 0 0 :: List.replicate 32 (.int .u8 0))))).toArray] 8 rfl (World.shaped_of_RefB (by kernel_rfl) (by kernel_rfl)) (by kernel_rfl) (by kernel_rfl) (by kernel_rfl) (door29 os _))
    (by kernel_rfl) (by kernel_rfl) rfl Tryz.underlying4 rfl (fun ds hds => by match ds, hds with | [d0], _ => rfl) ?_
  intro W base args ds p hval hA hsz hL
  rw [Tryz.params6] at hA hval hsz
  obtain ⟨v0, vs0, d0, ds0, p0, q0', hargs0, hds0, hps0, h0, r0⟩ := trodAll_cons hA
  obtain ⟨e1, e2, e3⟩ := trodAll_nil r0
  subst e1 e2 e3
  subst hds0
  obtain rfl : args = #[v0] := by cases args; simp_all
  have hw0 : ∀ n ∈ d0.weights Tryz.prog 29, n ≤ reachBytes := fun n hn => by have := List.all_eq_true.1 hsz _ (DataW.weights_mem_each (j := 0) rfl rfl n hn); simpa using this
  obtain ⟨nf0, nd0, nc0, nk0, nx0, cm0, ks0, bq0, sd0, a0, c0, rfl, hf0, hdd0, hc0, hk0, hcm0, hks0, hs0, hr0, hq0⟩ := op_in (hval 0 29 v0 rfl rfl) h0 hw0
  exact law_ItemsOpens_ok W (lg_of_laid hL) nf0 nd0 nc0 nk0 nx0 cm0 ks0 bq0 sd0 a0 c0 hf0 hdd0 hc0 hk0 hcm0 hks0 hs0 hr0 hq0
theorem ItemsOpens_jA : (Rows.itemsOpensRow.inPlace == Tryz.prog.inPlace 6) = true := by kernel_rfl
theorem ItemsOpens_jB : (Rows.itemsOpensRow.unfollowed == Tryz.prog.unfollowed 6) = true := by kernel_rfl
theorem ItemsOpens_jC : (Rows.itemsOpensRow.recurses == Tryz.prog.recurses 6) = true := by kernel_rfl
theorem ItemsOpens_jD : (Rows.itemsOpensRow.named == Tryz.prog.varsNamed 6) = true := by kernel_rfl
theorem ItemsOpens_jI : (Rows.itemsOpensRow.plainKeys == Tryz.prog.plainKeys) = true := by kernel_rfl
theorem ItemsOpens_goes : false = Rows.itemsOpensRow.goesBy Tryz.prog := by kernel_rfl
theorem ItemsOpens_closed : joinedFacts Tryz.prog 6 Tryz.f6 Rows.itemsOpensSpec Rows.itemsOpensRow = true := by
  unfold joinedFacts
  rw [ItemsOpens_jA, ItemsOpens_jB, ItemsOpens_jC, ItemsOpens_jD, ItemsOpens_jI, jLaid, jMapsR, jHeard]
  kernel_rfl
theorem ItemsOpens_row : Rows.ItemsOpensSaid :=
  OpenClaim.holds_of_wide 6 Tryz.f6 rfl rfl rfl rfl rfl rfl rfl ⟨rfl, rfl, rfl, rfl, rfl⟩ rfl rfl rfl rfl rfl (by kernel_rfl) Tryz.func6 ItemsOpens_closed
    (of_decide_eq_true (by kernel_rfl)) (by unfold Func.isWrapper; first | (rw [if_pos (by decide +kernel)]; kernel_rfl) | (rw [if_neg (by decide +kernel)]; exact ⟨rfl, rfl⟩))
    (fun os started H enc _ => ItemsOpens_lifted os started H enc)
theorem ItemsOpens_holds : Rows.ItemsOpensCardSaid :=
  Claim7.holds_tied_plain_at .later [] [.data, .data, .widerDeep, .sentinel, .widerDeep] true (true, "94e03ded36e05c3f1ce72b1ad2f8c497af097728aac54644fbbe099c18637493") true
    ItemsOpens_row (fun _ h => by cases h) (by kernel_rfl) (fun _ h => by cases h) itemsOpens_row_tie rfl ⟨rfl, rfl⟩ (by kernel_rfl) rfl
    (fun f fn hf hfn => by
      obtain rfl : f = 6 := Option.some.inj ((show Tryz.prog.funcNamed "chartroom/chartroomlaw29.ItemsOpens" = some 6 by kernel_rfl).symm.trans hf) |>.symm
      obtain rfl : fn = Tryz.f6 := (Option.some.inj (Tryz.func6.symm.trans hfn)).symm
      exact ⟨jLooks, fun j t ht => by
        rw [Tryz.params6] at ht
        have hm := Array.mem_of_getElem? ht
        have hall : (#[29].all fun u => !Tryz.prog.wantsStandIn u) = true := by kernel_rfl
        have := Array.all_eq_true_iff_forall_mem.1 hall t hm
        exact (show Tryz.prog.wantsStandIn t = false by simpa using this)⟩)
    ItemsOpens_goes
#print axioms ItemsOpens_holds

end Go.Proofs.YtejdjnkilikehaaGreatDoor

