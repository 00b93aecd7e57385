/- Shares of secrets: the value, in the program. -/
import Derived.Test.YtnmaegbobfngeaaDoorShC
namespace Go.Proofs.YtnmaegbobfngeaaDoor
open Go Eng Gf
set_option maxRecDepth 100000
theorem s_value_ok (w : World) (a : Option Addr) (c : Nat) (l : List (Nat × Nat)) (x : Nat) (hr : Rd w a (shc (sN l))) (hl : l.length ≤ 1000000) (hx : x < 2305843009213688669) (hps : ∀ i, (pl l).getD i 0 < 2305843009213688669) (hys : ∀ i, (l.getD i (0, 0)).2 < 2305843009213688669)
    (hpos : ∀ i, i < (pl l).length → 0 < upQ ((pl l).eraseIdx i) ((pl l).getD i 0)) :
    Pure Tryd.prog 31 [.slice a l.length c, I x] w (I (valQ l x : Nat)) := by
  refine enterM Tryd.func31 Tryd.ntmps31 ?_
  refine c_seq <| c_reg <| s_box rfl fun b2 => s_alloc fun b4 => s_nil <| q_then <| c_seq <| c_seq <| c_reg <| s_y (y_ld (b := b2) (v := .slice a l.length c)) <| s_gives (fun w' hw => by
    have h9 := collect_ok w' a c (sN l) (hr.st hw) (by rw [sN_length]; exact hl)
    rw [sN_length, sN_pl] at h9
    exact h9) (fun y _ => ?_)
  obtain ⟨pa, pc⟩ := y
  refine s_y y_mv <| s_gives (fun w' hw => basis_ok w' pa l.length pc x) (fun y _ => ?_)
  obtain ⟨b11, b12⟩ := y
  refine s_nil <| q_then <| c_block <| ?_
  let M : Nat → Loop → Nat → Nat → SH := fun i rc L Dk => [.blk L (.loop rc), .blk Dk (.deferred (some [])), .blk b12 (.cells #[I x] 3 (0, 0)), .blk b11 (.cells #[.slice pa l.length pc] 49 (0, 0)), .row pa pc 3 1 l.length (is (ni (pl l))), .blk b4 (.cells #[I (accQ l x i : Nat)] 3 (0, 0)), .blk b2 (.cells #[.slice a l.length c] 22 (0, 0))]
  refine c_rangeN (σ := Unit) (fun _ => [.blk b12 (.cells #[I x] 3 (0, 0)), .blk b11 (.cells #[.slice pa l.length pc] 49 (0, 0)), .row pa pc 3 1 l.length (is (ni (pl l))), .blk b4 (.cells #[I (valQ l x : Nat)] 3 (0, 0)), .blk b2 (.cells #[.slice a l.length c] 22 (0, 0))]) (fun _ => True) (fun fn tm Dk L hfr w' hw' => ?_) (fun Dk _ _ => ?_)
  rotate_left
  · refine q_nb <| q_then <| c_seq <| c_reg <| s_y (y_ld (b := b4) (v := I (valQ l x : Nat))) <| s_st (b := b4) (v := I (valQ l x : Nat)) (cs := #[I (valQ l x : Nat)]) (hl := Nat.zero_lt_one) ?_
    refine s_nil <| q_then <| c_ret <| ?_
    exact ret1E Tryd.results31 (.head _) (rv_cf (b := b4) (v := I (valQ l x : Nat))) fun w' hw => ⟨rfl, hw.sub (List.nil_sublist _)⟩
  · have hps0 := (show St w [] w' (M 0 _ L Dk ++ []) by rw [List.append_nil]; exact hw').has
    have hpl := pl_length l
    have hb := basis1_ok w' _ L b11 b12 pa pc (pl l) x (fun i => M i _ L Dk) hps0.1 hps0.2 rfl (fun i => .head _) (fun i => by rw [hpl]; exact .tail _ (.tail _ (.tail _ (.head _)))) (fun i => .tail _ (.tail _ (.head _))) (fun i => rdR (.tail _ (.tail _ (.tail _ (.tail _ (.head _)))))) (by rw [hpl]; exact hl) hx hps hpos (fun i hi w2 h2 => ?_)
    · rw [hpl] at hb
      refine hb.mono fun e' w2 ⟨hv, h2⟩ => ⟨hv, (), trivial, by have h9 := hw'.transL (l2 := []) (by rw [List.append_nil]; exact .refl _) h2; rw [List.append_nil] at h9; exact h9⟩
    · rw [hpl] at hi
      obtain ⟨v, hv⟩ : ∃ v, basQ ((pl l).eraseIdx i) ((pl l).getD i 0) x = v := ⟨_, rfl⟩
      have hvq : v < 2305843009213688669 := by rw [← hv]; exact basQ_lt _ _ _
      have hacc : accQ l x (i + 1) = (accQ l x i + v * (l.getD i (0, 0)).2 % 2305843009213688669) % 2305843009213688669 := by rw [accQ, hv]
      rw [hv]
      have hy := shc_y l i hi
      have hyq := hys i
      obtain ⟨y, hyy⟩ : ∃ y, (l.getD i (0, 0)).2 = y := ⟨_, rfl⟩
      rw [hyy] at hy hyq hacc
      have haq := accQ_lt l x i
      obtain ⟨acc, hac⟩ : ∃ acc, accQ l x i = acc := ⟨_, rfl⟩
      have hf9 := ((hfr []).put 13 (I (i : Int)) rfl).put 14 (I (v : Int)) rfl
      refine round_ok (F1 := [(2, .pointer (some ⟨b2, 0, none⟩)), (4, .pointer (some ⟨b4, 0, none⟩)), (5, I i), (6, I v)]) h2 hf9 (by simp [Act.put]) (by rfl) (.head _) (l1 := M i _ L Dk) ?_ ?_
      · refine c_seq <| c_reg <| s_y y_as <| s_nil <| q_then <| c_reg <| s_y y_as <| s_nil <| q_join ⟨rfl, rfl, rfl, rfl, trivial⟩ (List.Sublist.refl _)
      · refine c_block <| c_seq <| c_reg <| s_y y_mv <| s_y (y_ld (b := b2) (v := .slice a l.length c)) <| s_y y_mv <| s_y (y_ixs (xs := shc (sN l)) (hr := rdOL hw' hr) (hl := by rw [shc_length, sN_length]; omega)) <| s_y y_far <| s_y (y_ldr (i := i * 2 + 1) hy rfl (rdOL hw' hr)) <| s_pure (fun w3 h3 => f_Mul_yes w3 v y hvq hyq) <| s_y y_mv <| s_y y_ext <| s_y y_ext <| s_y y_as <| s_y y_as <| s_nil <| q_then <| ?_
        refine c_reg <| s_y (y_ld (b := b4) (v := I (accQ l x i : Nat))) <| s_y y_mv <| s_pure (fun w3 h3 => f_Add_yes w3 (accQ l x i) (v * y % 2305843009213688669) haq (Nat.mod_lt _ (by decide))) <| s_y y_mv <| s_y y_ext <| s_y y_ext <| ?_
        rw [← hacc]
        refine s_st (b := b4) (v := I (accQ l x (i + 1) : Nat)) (cs := #[I (accQ l x i : Nat)]) (hl := Nat.zero_lt_one) ?_
        exact s_nil <| q_nb <| q_rn (.head _) fun w3 h3 => ⟨(), trivial, rfl, h3⟩
end Go.Proofs.YtnmaegbobfngeaaDoor
