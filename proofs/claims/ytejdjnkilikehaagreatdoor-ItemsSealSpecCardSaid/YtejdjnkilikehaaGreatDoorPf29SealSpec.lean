/- The statements on items: rows and cards. No condition beyond the rows' own. -/
import Derived.Test.YtejdjnkilikehaaGreatDoorSe6
import Derived.Test.YtejdjnkilikehaaGreatDoorJo29
set_option linter.all false
namespace Go.Proofs.YtejdjnkilikehaaGreatDoor
open Go Eng Itm Go.ChangeShapes Go.WideShapes Go.ChangeAt Go.RowKit

set_option maxRecDepth 100000 in
theorem ItemsSealSpec_lifted (os : Os) (started : os.Started) (H : Type) (enc : TypeId × Value → H) :
    ReturnsInHanded {} Tryz.checked os 3 .any (fun w args => (Rows.itemsSealSpecSpec.pre enc Tryz.prog Tryz.f3 [] false w args ∧ laidMetH Tryz.prog laid29 w) ∧ sizedMet enc Tryz.prog Tryz.f3 (OpenSpec.ofChange Rows.itemsSealSpecSpec) false w args)
      (Rows.itemsSealSpecSpec.post enc Tryz.prog Tryz.f3 false true false false) := by
  refine law_lifted (C := Tryz.checked) (X := fun w _ => laidMetH Tryz.prog laid29 w) (fun _ _ _ hh h => h.of_heap hh) own29 started (by kernel_rfl) Tryz.func3
    (ChangeSpec.witness_shaped (enc := enc) (C := Tryz.checked) (os := os) (X := fun w _ => laidMetH Tryz.prog laid29 w) false (World.doorLaid Tryz.prog 400 os) #[.agg (.int .i64 0 :: (List.replicate 64 (.int .u8 0) ++ (List.replicate 4 (.int .i64 0) ++ (.slice none 0 0 :: List.replicate 32 (.int .u8 0))))).toArray] 8 rfl (World.shaped_of_RefB (by kernel_rfl) (by kernel_rfl)) (by kernel_rfl) (by kernel_rfl) (by kernel_rfl) (door29 os _))
    (by kernel_rfl) (by kernel_rfl) rfl Tryz.underlying4 rfl (fun ds hds => by match ds, hds with | [d0], _ => rfl) ?_
  intro W base args ds p hval hA hsz hL
  rw [Tryz.params3] at hA hval hsz
  obtain ⟨v0, vs0, d0, ds0, p0, q0', hargs0, hds0, hps0, h0, r0⟩ := trodAll_cons hA
  obtain ⟨e1, e2, e3⟩ := trodAll_nil r0
  subst e1 e2 e3
  subst hds0
  obtain rfl : args = #[v0] := by cases args; simp_all
  have hw0 : ∀ n ∈ d0.weights Tryz.prog 29, n ≤ reachBytes := fun n hn => by have := List.all_eq_true.1 hsz _ (DataW.weights_mem_each (j := 0) rfl rfl n hn); simpa using this
  obtain ⟨nf0, nd0, nc0, nk0, nx0, cm0, ks0, bq0, sd0, a0, c0, rfl, hf0, hdd0, hc0, hk0, hcm0, hks0, hs0, hr0, hq0⟩ := op_in (hval 0 29 v0 rfl rfl) h0 hw0
  exact law_ItemsSealSpec_ok W (lg_of_laid hL) nf0 nd0 nc0 nk0 nx0 cm0 ks0 bq0 sd0 a0 c0 hf0 hdd0 hc0 hk0 hcm0 hks0 hs0 hr0 hq0
theorem ItemsSealSpec_jA : (Rows.itemsSealSpecRow.inPlace == Tryz.prog.inPlace 3) = true := by kernel_rfl
theorem ItemsSealSpec_jB : (Rows.itemsSealSpecRow.unfollowed == Tryz.prog.unfollowed 3) = true := by kernel_rfl
theorem ItemsSealSpec_jC : (Rows.itemsSealSpecRow.recurses == Tryz.prog.recurses 3) = true := by kernel_rfl
theorem ItemsSealSpec_jD : (Rows.itemsSealSpecRow.named == Tryz.prog.varsNamed 3) = true := by kernel_rfl
theorem ItemsSealSpec_jI : (Rows.itemsSealSpecRow.plainKeys == Tryz.prog.plainKeys) = true := by kernel_rfl
theorem ItemsSealSpec_goes : false = Rows.itemsSealSpecRow.goesBy Tryz.prog := by kernel_rfl
theorem ItemsSealSpec_closed : joinedFacts Tryz.prog 3 Tryz.f3 Rows.itemsSealSpecSpec Rows.itemsSealSpecRow = true := by
  unfold joinedFacts
  rw [ItemsSealSpec_jA, ItemsSealSpec_jB, ItemsSealSpec_jC, ItemsSealSpec_jD, ItemsSealSpec_jI, jLaid, jMapsR, jHeard]
  kernel_rfl
theorem ItemsSealSpec_row : Rows.ItemsSealSpecSaid :=
  OpenClaim.holds_of_wide 3 Tryz.f3 rfl rfl rfl rfl rfl rfl rfl ⟨rfl, rfl, rfl, rfl, rfl⟩ rfl rfl rfl rfl rfl (by kernel_rfl) Tryz.func3 ItemsSealSpec_closed
    (of_decide_eq_true (by kernel_rfl)) (by unfold Func.isWrapper; first | (rw [if_pos (by decide +kernel)]; kernel_rfl) | (rw [if_neg (by decide +kernel)]; exact ⟨rfl, rfl⟩))
    (fun os started H enc _ => ItemsSealSpec_lifted os started H enc)
theorem ItemsSealSpec_holds : Rows.ItemsSealSpecCardSaid :=
  Claim7.holds_tied_plain_at .later [] [.data, .data, .widerDeep, .sentinel, .widerDeep] true (true, "94e03ded36e05c3f1ce72b1ad2f8c497af097728aac54644fbbe099c18637493") true
    ItemsSealSpec_row (fun _ h => by cases h) (by kernel_rfl) (fun _ h => by cases h) itemsSealSpec_row_tie rfl ⟨rfl, rfl⟩ (by kernel_rfl) rfl
    (fun f fn hf hfn => by
      obtain rfl : f = 3 := Option.some.inj ((show Tryz.prog.funcNamed "chartroom/chartroomlaw29.ItemsSealSpec" = some 3 by kernel_rfl).symm.trans hf) |>.symm
      obtain rfl : fn = Tryz.f3 := (Option.some.inj (Tryz.func3.symm.trans hfn)).symm
      exact ⟨jLooks, fun j t ht => by
        rw [Tryz.params3] at ht
        have hm := Array.mem_of_getElem? ht
        have hall : (#[29].all fun u => !Tryz.prog.wantsStandIn u) = true := by kernel_rfl
        have := Array.all_eq_true_iff_forall_mem.1 hall t hm
        exact (show Tryz.prog.wantsStandIn t = false by simpa using this)⟩)
    ItemsSealSpec_goes
#print axioms ItemsSealSpec_holds

end Go.Proofs.YtejdjnkilikehaaGreatDoor

