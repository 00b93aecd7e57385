/- The statements on items: rows and cards. No condition beyond the rows' own. -/
import Derived.Test.YtejdjnkilikehaaGreatDoorOs6
import Derived.Test.YtejdjnkilikehaaGreatDoorJo29
set_option linter.all false
namespace Go.Proofs.YtejdjnkilikehaaGreatDoor
open Go Eng Itm Go.ChangeShapes Go.WideShapes Go.ChangeAt Go.RowKit

set_option maxRecDepth 100000 in
theorem ItemsOpenSpec_lifted (os : Os) (started : os.Started) (H : Type) (enc : TypeId × Value → H) :
    ReturnsInHanded {} Tryz.checked os 4 .any (fun w args => (Rows.itemsOpenSpecSpec.pre enc Tryz.prog Tryz.f4 [] false w args ∧ laidMetH Tryz.prog laid29 w) ∧ sizedMet enc Tryz.prog Tryz.f4 (OpenSpec.ofChange Rows.itemsOpenSpecSpec) false w args)
      (Rows.itemsOpenSpecSpec.post enc Tryz.prog Tryz.f4 false true false false) := by
  refine law_lifted (C := Tryz.checked) (X := fun w _ => laidMetH Tryz.prog laid29 w) (fun _ _ _ hh h => h.of_heap hh) own29 started (by kernel_rfl) Tryz.func4
    (ChangeSpec.witness_shaped (enc := enc) (C := Tryz.checked) (os := os) (X := fun w _ => laidMetH Tryz.prog laid29 w) false (World.doorLaid Tryz.prog 400 os) #[.agg (.int .i64 0 :: (List.replicate 32 (.int .u8 0) ++ (List.replicate 6 (.int .i64 0) ++ (List.replicate 32 (.int .u8 0) ++ [.slice none 0 0, .int .i64 0, .int .i64 0])))).toArray, .agg (List.replicate 64 (.int .u8 0)).toArray, .int .i64 0, .agg (.int .i64 0 :: .int .i64 0 :: List.replicate 32 (.int .u8 0)).toArray, .int .i64 0] 8 rfl (World.shaped_of_RefB (by kernel_rfl) (by kernel_rfl)) (by kernel_rfl) (by kernel_rfl) (by kernel_rfl) (door29 os _))
    (by kernel_rfl) (by kernel_rfl) rfl Tryz.underlying4 rfl (fun ds hds => by match ds, hds with | [d0, d1, d2, d3, d4], _ => rfl) ?_
  intro W base args ds p hval hA hsz hL
  rw [Tryz.params4] at hA hval hsz
  obtain ⟨v0, vs0, d0, ds0, p0, q0', hargs0, hds0, hps0, h0, r0⟩ := trodAll_cons hA
  obtain ⟨v1, vs1, d1, ds1, p1, q1', hargs1, hds1, hps1, h1, r1⟩ := trodAll_cons r0
  obtain ⟨v2, vs2, d2, ds2, p2, q2', hargs2, hds2, hps2, h2, r2⟩ := trodAll_cons r1
  obtain ⟨v3, vs3, d3, ds3, p3, q3', hargs3, hds3, hps3, h3, r3⟩ := trodAll_cons r2
  obtain ⟨v4, vs4, d4, ds4, p4, q4', hargs4, hds4, hps4, h4, r4⟩ := trodAll_cons r3
  obtain ⟨e1, e2, e3⟩ := trodAll_nil r4
  subst e1 e2 e3
  subst hargs4 hds4
  subst hargs3 hds3
  subst hargs2 hds2
  subst hargs1 hds1
  subst hds0
  obtain rfl : args = #[v0, v1, v2, v3, v4] := by cases args; simp_all
  have hw0 : ∀ n ∈ d0.weights Tryz.prog 36, n ≤ reachBytes := fun n hn => by have := List.all_eq_true.1 hsz _ (DataW.weights_mem_each (j := 0) rfl rfl n hn); simpa using this
  obtain ⟨i0, a0, c0, rfl, hi0, hr0, hcc0, hm0⟩ := op_item (hval 0 36 v0 rfl rfl) h0 hw0
  obtain ⟨km1, ks1, rfl, hkm1, hks1⟩ := op_ek (hval 1 26 v1 rfl rfl) h1
  obtain ⟨a2, rfl, hb2⟩ := op_int Tryz.underlying3 (hval 2 3 v2 rfl rfl) h2
  obtain ⟨x3, y3, cp3, rfl, hp3, hx3, hy3⟩ := op_cap (hval 3 32 v3 rfl rfl) h3
  obtain ⟨a4, rfl, hb4⟩ := op_int Tryz.underlying3 (hval 4 3 v4 rfl rfl) h4
  exact law_ItemsOpenSpec_ok W (lg_of_laid hL) i0 a0 c0 hi0 hr0 hcc0 km1 ks1 hkm1 hks1 a2 x3 y3 cp3 hp3 a4
theorem ItemsOpenSpec_jA : (Rows.itemsOpenSpecRow.inPlace == Tryz.prog.inPlace 4) = true := by kernel_rfl
theorem ItemsOpenSpec_jB : (Rows.itemsOpenSpecRow.unfollowed == Tryz.prog.unfollowed 4) = true := by kernel_rfl
theorem ItemsOpenSpec_jC : (Rows.itemsOpenSpecRow.recurses == Tryz.prog.recurses 4) = true := by kernel_rfl
theorem ItemsOpenSpec_jD : (Rows.itemsOpenSpecRow.named == Tryz.prog.varsNamed 4) = true := by kernel_rfl
theorem ItemsOpenSpec_jI : (Rows.itemsOpenSpecRow.plainKeys == Tryz.prog.plainKeys) = true := by kernel_rfl
theorem ItemsOpenSpec_goes : false = Rows.itemsOpenSpecRow.goesBy Tryz.prog := by kernel_rfl
theorem ItemsOpenSpec_closed : joinedFacts Tryz.prog 4 Tryz.f4 Rows.itemsOpenSpecSpec Rows.itemsOpenSpecRow = true := by
  unfold joinedFacts
  rw [ItemsOpenSpec_jA, ItemsOpenSpec_jB, ItemsOpenSpec_jC, ItemsOpenSpec_jD, ItemsOpenSpec_jI, jLaid, jMapsR, jHeard]
  kernel_rfl
theorem ItemsOpenSpec_row : Rows.ItemsOpenSpecSaid :=
  OpenClaim.holds_of_wide 4 Tryz.f4 rfl rfl rfl rfl rfl rfl rfl ⟨rfl, rfl, rfl, rfl, rfl⟩ rfl rfl rfl rfl rfl (by kernel_rfl) Tryz.func4 ItemsOpenSpec_closed
    (of_decide_eq_true (by kernel_rfl)) (by unfold Func.isWrapper; first | (rw [if_pos (by decide +kernel)]; kernel_rfl) | (rw [if_neg (by decide +kernel)]; exact ⟨rfl, rfl⟩))
    (fun os started H enc _ => ItemsOpenSpec_lifted os started H enc)
theorem ItemsOpenSpec_holds : Rows.ItemsOpenSpecCardSaid :=
  Claim7.holds_tied_plain_at .later [] [.data, .data, .widerDeep, .sentinel, .widerDeep] true (true, "94e03ded36e05c3f1ce72b1ad2f8c497af097728aac54644fbbe099c18637493") true
    ItemsOpenSpec_row (fun _ h => by cases h) (by kernel_rfl) (fun _ h => by cases h) itemsOpenSpec_row_tie rfl ⟨rfl, rfl⟩ (by kernel_rfl) rfl
    (fun f fn hf hfn => by
      obtain rfl : f = 4 := Option.some.inj ((show Tryz.prog.funcNamed "chartroom/chartroomlaw29.ItemsOpenSpec" = some 4 by kernel_rfl).symm.trans hf) |>.symm
      obtain rfl : fn = Tryz.f4 := (Option.some.inj (Tryz.func4.symm.trans hfn)).symm
      exact ⟨jLooks, fun j t ht => by
        rw [Tryz.params4] at ht
        have hm := Array.mem_of_getElem? ht
        have hall : (#[36, 26, 3, 32, 3].all fun u => !Tryz.prog.wantsStandIn u) = true := by kernel_rfl
        have := Array.all_eq_true_iff_forall_mem.1 hall t hm
        exact (show Tryz.prog.wantsStandIn t = false by simpa using this)⟩)
    ItemsOpenSpec_goes
#print axioms ItemsOpenSpec_holds

end Go.Proofs.YtejdjnkilikehaaGreatDoor

