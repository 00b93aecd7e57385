/- The statements on items: rows and cards. No condition beyond the rows' own. -/
import Derived.Test.YtejdjnkilikehaaGreatDoorTu5
import Derived.Test.YtejdjnkilikehaaGreatDoorJo29
set_option linter.all false
namespace Go.Proofs.YtejdjnkilikehaaGreatDoor
open Go Eng Itm Go.ChangeShapes Go.WideShapes Go.ChangeAt Go.RowKit

set_option maxRecDepth 100000 in
theorem ItemsTurned_lifted (os : Os) (started : os.Started) (H : Type) (enc : TypeId × Value → H) :
    ReturnsInHanded {} Tryz.checked os 11 .any (fun w args => (Rows.itemsTurnedSpec.pre enc Tryz.prog Tryz.f11 [] false w args ∧ laidMetH Tryz.prog laid29 w) ∧ sizedMet enc Tryz.prog Tryz.f11 (OpenSpec.ofChange Rows.itemsTurnedSpec) false w args)
      (Rows.itemsTurnedSpec.post enc Tryz.prog Tryz.f11 false true false false) := by
  refine law_lifted (C := Tryz.checked) (X := fun w _ => laidMetH Tryz.prog laid29 w) (fun _ _ _ hh h => h.of_heap hh) own29 started (by kernel_rfl) Tryz.func11
    (ChangeSpec.witness_shaped (enc := enc) (C := Tryz.checked) (os := os) (X := fun w _ => laidMetH Tryz.prog laid29 w) false (World.doorLaid Tryz.prog 400 os) #[.agg (.int .i64 0 :: (List.replicate 64 (.int .u8 0) ++ (List.replicate 4 (.int .i64 0) ++ (.slice none 0 0 :: List.replicate 32 (.int .u8 0))))).toArray, .int .i64 0] 8 rfl (World.shaped_of_RefB (by kernel_rfl) (by kernel_rfl)) (by kernel_rfl) (by kernel_rfl) (by kernel_rfl) (door29 os _))
    (by kernel_rfl) (by kernel_rfl) rfl Tryz.underlying4 rfl (fun ds hds => by match ds, hds with | [d0, d1], _ => rfl) ?_
  intro W base args ds p hval hA hsz hL
  rw [Tryz.params11] at hA hval hsz
  obtain ⟨v0, vs0, d0, ds0, p0, q0', hargs0, hds0, hps0, h0, r0⟩ := trodAll_cons hA
  obtain ⟨v1, vs1, d1, ds1, p1, q1', hargs1, hds1, hps1, h1, r1⟩ := trodAll_cons r0
  obtain ⟨e1, e2, e3⟩ := trodAll_nil r1
  subst e1 e2 e3
  subst hargs1 hds1
  subst hds0
  obtain rfl : args = #[v0, v1] := by cases args; simp_all
  have hw0 : ∀ n ∈ d0.weights Tryz.prog 29, n ≤ reachBytes := fun n hn => by have := List.all_eq_true.1 hsz _ (DataW.weights_mem_each (j := 0) rfl rfl n hn); simpa using this
  obtain ⟨nf0, nd0, nc0, nk0, nx0, cm0, ks0, bq0, sd0, a0, c0, rfl, hf0, hdd0, hc0, hk0, hcm0, hks0, hs0, hr0, hq0⟩ := op_in (hval 0 29 v0 rfl rfl) h0 hw0
  obtain ⟨a1, rfl, hb1⟩ := op_int Tryz.underlying3 (hval 1 3 v1 rfl rfl) h1
  exact law_ItemsTurned_ok W (lg_of_laid hL) nf0 nd0 nc0 nk0 nx0 cm0 ks0 bq0 sd0 a0 c0 hf0 hdd0 hc0 hk0 hcm0 hks0 hs0 hr0 hq0 a1
theorem ItemsTurned_jA : (Rows.itemsTurnedRow.inPlace == Tryz.prog.inPlace 11) = true := by kernel_rfl
theorem ItemsTurned_jB : (Rows.itemsTurnedRow.unfollowed == Tryz.prog.unfollowed 11) = true := by kernel_rfl
theorem ItemsTurned_jC : (Rows.itemsTurnedRow.recurses == Tryz.prog.recurses 11) = true := by kernel_rfl
theorem ItemsTurned_jD : (Rows.itemsTurnedRow.named == Tryz.prog.varsNamed 11) = true := by kernel_rfl
theorem ItemsTurned_jI : (Rows.itemsTurnedRow.plainKeys == Tryz.prog.plainKeys) = true := by kernel_rfl
theorem ItemsTurned_goes : false = Rows.itemsTurnedRow.goesBy Tryz.prog := by kernel_rfl
theorem ItemsTurned_closed : joinedFacts Tryz.prog 11 Tryz.f11 Rows.itemsTurnedSpec Rows.itemsTurnedRow = true := by
  unfold joinedFacts
  rw [ItemsTurned_jA, ItemsTurned_jB, ItemsTurned_jC, ItemsTurned_jD, ItemsTurned_jI, jLaid, jMapsR, jHeard]
  kernel_rfl
theorem ItemsTurned_row : Rows.ItemsTurnedSaid :=
  OpenClaim.holds_of_wide 11 Tryz.f11 rfl rfl rfl rfl rfl rfl rfl ⟨rfl, rfl, rfl, rfl, rfl⟩ rfl rfl rfl rfl rfl (by kernel_rfl) Tryz.func11 ItemsTurned_closed
    (of_decide_eq_true (by kernel_rfl)) (by unfold Func.isWrapper; first | (rw [if_pos (by decide +kernel)]; kernel_rfl) | (rw [if_neg (by decide +kernel)]; exact ⟨rfl, rfl⟩))
    (fun os started H enc _ => ItemsTurned_lifted os started H enc)
theorem ItemsTurned_holds : Rows.ItemsTurnedCardSaid :=
  Claim7.holds_tied_plain_at .later [] [.data, .data, .widerDeep, .sentinel, .widerDeep] true (true, "94e03ded36e05c3f1ce72b1ad2f8c497af097728aac54644fbbe099c18637493") true
    ItemsTurned_row (fun _ h => by cases h) (by kernel_rfl) (fun _ h => by cases h) itemsTurned_row_tie rfl ⟨rfl, rfl⟩ (by kernel_rfl) rfl
    (fun f fn hf hfn => by
      obtain rfl : f = 11 := Option.some.inj ((show Tryz.prog.funcNamed "chartroom/chartroomlaw29.ItemsTurned" = some 11 by kernel_rfl).symm.trans hf) |>.symm
      obtain rfl : fn = Tryz.f11 := (Option.some.inj (Tryz.func11.symm.trans hfn)).symm
      exact ⟨jLooks, fun j t ht => by
        rw [Tryz.params11] at ht
        have hm := Array.mem_of_getElem? ht
        have hall : (#[29, 3].all fun u => !Tryz.prog.wantsStandIn u) = true := by kernel_rfl
        have := Array.all_eq_true_iff_forall_mem.1 hall t hm
        exact (show Tryz.prog.wantsStandIn t = false by simpa using this)⟩)
    ItemsTurned_goes
#print axioms ItemsTurned_holds

end Go.Proofs.YtejdjnkilikehaaGreatDoor

