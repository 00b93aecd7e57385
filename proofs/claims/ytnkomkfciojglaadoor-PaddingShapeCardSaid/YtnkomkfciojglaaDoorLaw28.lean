/- The statements on padding, as walks. -/
import Derived.Test.YtnkomkfciojglaaDoorRef28
import Derived.Test.YtnkomkfciojglaaDoorDraw
namespace Go.Proofs.YtnkomkfciojglaaDoor
open Go Eng

theorem sane_core (w : World) (hg : LD w) (want odd long none0 : List UInt8) (hl : want.length = 64) (hwant : [B 0, B 0, B 0, B 1, B 7] ++ repL 59 (Value.cells (.int .u8 0)).toList = bs want)
    (hodd : want.set 63 1 = odd) (hlong : want ++ List.replicate 192 0 = long) (h1 : pad [7] = want) (h1e : padE [7] = 0) (h0 : pad [] = none0) (h0e : padE [] = 0) (hz : none0 = List.replicate 64 0)
    (e1 : unpE odd = 280) (e2 : unpE long = 280) (e3 : unpE [] = 280) (e4 : unpE want = 0) (e5 : unpad want = [7]) :
    Pure Tryd.prog 10 [] w (.bool true) := by
  have hlo : odd.length = want.length := by rw [← hodd]; simp
  have hll : long.length = want.length + 192 := by rw [← hlong, List.length_append, List.length_replicate]
  refine enter Tryd.func10 Tryd.ntmps10 ?_
  refine c_seq <| c_reg <| s_y y_as <| s_nil <| q_then <| c_seq <| c_reg <| s_bslr (cs := bs [7]) fun b28 => s_gives (fun w' hw => padding_Pad_ok w' _ 1 [7] (hg.st hw) (Res.rd (hw.own _ (.head _)).1) (by decide)) fun x1 _ => s_y y_mv <| s_y y_ext <| s_y y_ext <| ?_
  rw [h1, h1e]
  refine s_y y_as <| s_y y_as <| s_nil <| q_then <| c_seq <| c_reg <| s_bslr (cs := [B 0, B 0, B 0, B 1, B 7]) fun b32 => s_apz (m := 59) fun a33 c33 h33 => ?_
  rw [hwant, show 5 + 59 = want.length from hl.symm]
  refine s_y y_as <| s_nil <| q_then <| c_seq <| c_reg <| s_gives (fun w' hw => padding_Pad_ok w' none 0 [] (hg.st hw) (Rd.nil _ _) (by decide)) fun x4 _ => s_y y_mv <| s_y y_ext <| s_y y_ext <| ?_
  rw [h0, h0e]
  refine s_y y_as <| s_y y_as <| s_nil <| q_then <| c_seq <| c_reg <| s_bsl0 fun b38 => s_y y_mv <| s_app (m := want.length) (srcB (q := want) (rdR (.tail _ (.tail _ (.head _)))) rfl) (h1 := fun v hv => bs_one hv) fun a40 c40 h40 => s_y y_as <| s_nil <| q_then <| c_seq <| ?_
  rw [List.nil_append, Nat.zero_add]
  refine c_reg <| s_y y_mv <| s_y (y_ixs1 (xs := bs want) (hr := rdR (.head _)) (hl := Nat.le_of_eq (by rw [bs_length]))) <| s_str (hi := by rw [bs_length, hl]; decide) ?_
  rw [show (bs want).set (63 : Int).toNat (Value.int .u8 1) = bs odd by rw [← hodd]; simp [bs, List.map_set]; rfl]
  rw [← hlo]
  refine s_nil <| q_then <| c_seq <| c_reg <| s_y y_mv <| s_pure (fun w' hw => padding_Unpad_ok w' a40 c40 odd (hg.st hw) (Res.rd (hw.own _ (.head _)).1) (by omega) (by have := (hw.own _ (.head _)).1.2.1; exact this)) <| s_y y_mv <| s_y y_ext <| s_y y_ext <| ?_
  rw [e1]
  rw [hlo]
  refine s_y y_as <| s_y y_as <| s_nil <| q_then <| c_seq <| c_reg <| s_bsl0 fun b49 => s_y y_mv <| s_app (m := want.length) (srcB (q := want) (rdR (.tail _ (.tail _ (.tail _ (.head _))))) rfl) (h1 := fun v hv => bs_one hv) fun a51 c51 h51 => ?_
  rw [List.nil_append, Nat.zero_add]
  refine s_apz (m := 192) fun a52 c52 h52 => ?_
  rw [show bs want ++ repL 192 (Value.cells (.int .u8 0)).toList = bs long by rw [← hlong, bs_append, ← repL_bs]; rfl, ← hll]
  refine s_pure (fun w' hw => padding_Unpad_ok w' a52 c52 long (hg.st hw) (Res.rd (hw.own _ (.head _)).1) (by omega) (by have := (hw.own _ (.head _)).1.2.1; exact this)) <| s_y y_mv <| s_y y_ext <| s_y y_ext <| ?_
  rw [e2]
  refine s_y y_as <| s_y y_as <| s_nil <| q_then <| c_seq <| c_reg <| s_pure (fun w' hw => padding_Unpad_ok w' none 0 [] (hg.st hw) (Rd.nil _ _) (by decide) (by decide)) <| s_y y_mv <| s_y y_ext <| s_y y_ext <| ?_
  rw [e3]
  refine s_y y_as <| s_y y_as <| s_nil <| q_then <| c_seq <| c_reg <| s_y y_mv <| s_pure (fun w' hw => padding_Unpad_ok w' a33 c33 want (hg.st hw) (Res.rd (hw.own _ (.tail _ (.tail _ (.tail _ (.head _))))).1) (by omega) (by have := (hw.own _ (.tail _ (.tail _ (.tail _ (.head _))))).1.2.1; exact this)) <| s_y y_mv <| s_y y_ext <| s_y y_ext <| ?_
  rw [e4, e5]
  refine s_y y_as <| s_y y_as <| s_nil <| q_then <| c_seq <| c_seq <| c_reg <| s_y y_blda <| s_y y_blda <| s_y y_blda <| s_y y_blda <| s_y y_blda <| s_y y_blda <| s_bslr (cs := is [0, 0, 60, 0, 61, 1, 252, 1, 253, 2, 65532, 5]) fun b71 => s_y y_len <| s_y y_mv <| s_nil <| q_then <| c_block <| ?_
  refine c_loop (fun k : Nat => [(1, .slice x1.1 want.length x1.2), (2, I 0), (3, .slice a33 want.length c33), (4, .slice x4.1 none0.length x4.2), (5, I 0), (8, I 280), (10, I 280), (12, I 280), (13, .slice (unpA want a33) 1 1), (14, I 0), (71, .slice (some ⟨b71, 0, none⟩) 6 6), (72, I 6), (73, I k)]) (fun _ => [.row (some ⟨b71, 0, none⟩) 6 36 2 6 (is [0, 0, 60, 0, 61, 1, 252, 1, 253, 2, 65532, 5]), .row x4.1 x4.2 5 1 none0.length (bs none0), .row a33 c33 5 1 want.length (bs want), .row x1.1 x1.2 5 1 want.length (bs want)]) (fun k => k ≤ 6) (fun k => 6 - k) 0 (by omega) ⟨rfl, rfl, rfl, rfl, rfl, rfl, rfl, rfl, rfl, rfl, rfl, rfl, rfl, trivial⟩ (.cons_cons _ (.cons _ (.cons _ (.cons_cons _ (.cons_cons _ (.cons_cons _ (List.nil_sublist _))))))) ?_
  intro k hk
  refine c_seq <| c_reg <| s_y y_lss <| s_nil <| q_then <| c_seq <| c_ifd (fun h74 => ?_) (fun h74 => ?_)
  · obtain ⟨n, c, hc, he, hn1, hn2⟩ : ∃ n c : Int, clV n = c ∧ clE n = 0 ∧ (is [0, 0, 60, 0, 61, 1, 252, 1, 253, 2, 65532, 5])[k * 2]? = some (I n) ∧ (is [0, 0, 60, 0, 61, 1, 252, 1, 253, 2, 65532, 5])[k * 2 + 1]? = some (I c) := by
      have h7 : k = 0 ∨ k = 1 ∨ k = 2 ∨ k = 3 ∨ k = 4 ∨ k = 5 := by omega
      rcases h7 with rfl | rfl | rfl | rfl | rfl | rfl
      · exact ⟨0, 0, rfl, rfl, rfl, rfl⟩
      · exact ⟨60, 0, rfl, rfl, rfl, rfl⟩
      · exact ⟨61, 1, rfl, rfl, rfl, rfl⟩
      · exact ⟨252, 1, rfl, rfl, rfl, rfl⟩
      · exact ⟨253, 2, rfl, rfl, rfl, rfl⟩
      · exact ⟨65532, 5, rfl, rfl, rfl, rfl⟩
    have hcell : ∀ (j : Nat) (v : Value), [I n, I c][j]? = some v → (is [0, 0, 60, 0, 61, 1, 252, 1, 253, 2, 65532, 5])[(k : Int).toNat * 2 + j]? = some v := by
      intro j v hv
      match j, hv with
      | 0, hv => exact hn1.trans hv
      | 1, hv => exact hn2.trans hv
    refine c_skip <| q_then <| c_seq <| c_block <| c_seq <| c_reg <| s_y (y_ixs (xs := is [0, 0, 60, 0, 61, 1, 252, 1, 253, 2, 65532, 5]) (hr := rdR (.head _)) (hl := by decide)) <| s_y (y_ldra (cs := [I n, I c]) (rdR (.head _)) rfl hcell) <| s_alloc fun b16 => s_sta (vs := #[I n, I c]) (h1 := by intro u hu; simp at hu; rcases hu with rfl | rfl <;> rfl) ?_
    refine s_nil <| q_then <| c_seq <| c_reg <| s_y y_ixa1 <| s_y y_ld <| s_pure (fun w' hw => padding_Class_ok w' n (hg.st hw)) <| s_y y_mv <| s_y y_ext <| s_y y_ext <| s_y y_as <| s_y y_as <| s_nil <| q_then <| c_seq <| c_reg <| s_y y_mv <| s_y y_ixa1 <| s_y y_ld <| s_nf y_neq hc <| s_y y_mv <| s_y y_mv <| s_nf y_neq he <| s_y y_pk <| s_nil <| q_then <| c_f <| c_skip <| q_nb <| q_then <| c_reg <| s_y y_add <| s_y y_mv <| s_nil <| q_round (k + 1) (by omega) (by omega) ⟨rfl, rfl, rfl, rfl, rfl, rfl, rfl, rfl, rfl, rfl, rfl, rfl, rfl, trivial⟩ (List.sublist_cons_self _ _)
  · refine c_exit <| q_ex <| q_ex <| q_exb <| q_then <| c_seq <| c_reg <| s_pure (fun w' hw => padding_Class_ok w' 65533 (hg.st hw)) <| s_y y_mv <| s_y y_ext <| s_y y_ext <| s_y y_as <| s_y y_as <| s_nil <| q_then <| c_seq <| c_reg <| s_pure (fun w' hw => padding_Class_ok w' (-1) (hg.st hw)) <| s_y y_mv <| s_y y_ext <| s_y y_ext <| s_y y_as <| s_y y_as <| s_nil <| q_then <| c_seq <| c_reg <| s_pure (fun w' hw => padding_Length_ok w' 6 (hg.st hw)) <| s_y y_mv <| s_y y_ext <| s_y y_ext <| s_y y_as <| s_y y_as <| s_nil <| q_then <| c_seq <| c_reg <| s_pure (fun w' hw => padding_Length_ok w' (-1) (hg.st hw)) <| s_y y_mv <| s_y y_ext <| s_y y_ext <| s_y y_as <| s_y y_as <| s_nil <| q_then <| c_seq <| c_seq <| c_reg <| s_y y_mv <| s_nf y_neq rfl <| s_y y_mv <| s_y y_mv <| s_nf y_neq rfl <| s_y y_pk <| s_y y_mv <| s_y y_mv <| s_nf y_neq rfl <| s_y y_pk <| s_y y_mv <| s_y y_mv <| s_nf y_neq rfl <| s_y y_pk <| s_y y_mv <| s_y y_mv <| s_nf y_neq rfl <| s_y y_pk <| s_y y_mv <| s_y y_mv <| s_nf y_neq rfl <| s_y y_pk <| s_y y_mv <| s_y y_mv <| s_nf y_neq rfl <| s_y y_pk <| s_y y_mv <| s_y y_mv <| s_nf y_neq rfl <| s_y y_pk <| s_y y_mv <| s_y y_mv <| s_nf y_neq rfl <| s_y y_pk <| s_y y_mv <| s_y y_mv <| s_nf y_neq rfl <| s_y y_pk <| s_nil <| q_then <| c_f <| c_skip <| q_then <| c_seq <| ?_
    have hu7 : ∀ {l : SH}, Res.row a33 c33 5 1 want.length (bs want) ∈ l → RdS w [] l (unpA want a33) (bs [7]) := fun h w' hw => by rw [← e5]; exact unpad_rd (rdR h w' hw)
    refine c_regA <| r_y 0 rfl y_mv <| r_y 1 rfl (y_b2s (q := want)) <| r_y 2 rfl y_mv <| r_y 3 rfl (y_b2s (q := want)) <| r_yt 4 rfl y_eqls rfl <| r_y 5 rfl y_mv <| r_y 6 rfl y_mv <| r_y 7 rfl (y_b2s (q := none0)) <| r_w 8 rfl <| s_mkb fun b154 => ?_
    refine r_kl <| r_y 9 rfl (y_b2s (q := List.replicate 64 0) (hr := rd_blkB)) <| r_yt 10 rfl y_eqls (by rw [hz]) <| r_y 11 rfl y_pk <| r_y 12 rfl y_mv <| r_y 13 rfl y_mv <| r_y 14 rfl (y_b2s (q := [7]) (hr := hu7 (.tail _ (.tail _ (.tail _ (.head _)))))) <| r_yt 15 rfl y_eqls rfl <| r_y 16 rfl y_pk <| r_y 17 rfl y_as <| r_end <| q_then <| c_ret <| ?_
    exact ret1 Tryd.results10 rv_t fun w' hw => ⟨rfl, hw.sub (List.nil_sublist _)⟩

set_option maxRecDepth 8000 in
theorem sane_ok (w : World) (hg : LD w) : Pure Tryd.prog 10 [] w (.bool true) :=
  sane_core w hg (pad [7]) ((pad [7]).set 63 1) (pad [7] ++ List.replicate 192 0) (pad []) (by decide) (by rfl) rfl rfl rfl rfl rfl rfl (by decide) (by decide) (by decide) (by decide)
    (by rw [unpE, (unpOK_pad (q := [7]) (by decide)).1]; rfl) (unpOK_pad (q := [7]) (by decide)).2.2

theorem PaddingSpec_ok (w : World) (n size : Int) (hg : LD w) (hn : n ≤ 9223372036854775807) : Pure Tryd.prog 3 [I n, I size] w (.bool true) := by
  refine enter Tryd.func3 Tryd.ntmps3 ?_
  refine c_seq <| c_reg <| s_y y_as <| s_nil <| q_then <| c_seq <| c_seq <| c_reg <| s_pure (fun w' hw => sane_ok w' (hg.st hw)) <| s_y y_not <| s_nil <| q_then <| c_f <| c_skip <| q_then <| c_seq <| c_reg <| s_y y_mv <| s_pure (fun w' hw => padding_Class_ok w' n (hg.st hw)) <| s_y y_mv <| s_y y_ext <| s_y y_ext <| s_y y_as <| s_y y_as <| s_nil <| q_then <| c_seq <| c_reg <| s_y y_mv <| s_pure (fun w' hw => ref28_Class_ok w' n hn) <| s_y y_mv <| s_y y_ext <| s_y y_ext <| s_y y_as <| s_y y_as <| s_nil <| q_then <| c_seq <| c_reg <| s_y y_mv <| s_pure (fun w' hw => padding_Length_ok w' size (hg.st hw)) <| s_y y_mv <| s_y y_ext <| s_y y_ext <| s_y y_as <| s_y y_as <| s_nil <| q_then <| c_seq <| c_reg <| s_y y_mv <| s_pure (fun w' hw => ref28_Length_ok w' size) <| s_y y_mv <| s_y y_ext <| s_y y_ext <| s_y y_as <| s_y y_as <| s_nil <| q_then <| c_seq <| c_reg <| s_y y_mv <| s_y y_mv <| s_kt y_eql rfl <| s_y y_mv <| s_y y_mv <| s_y y_mv <| s_kt y_eql rfl <| s_y y_pk <| s_y y_mv <| s_y y_mv <| s_y y_mv <| s_kt y_eql rfl <| s_y y_pk <| s_y y_mv <| s_y y_mv <| s_y y_mv <| s_kt y_eql rfl <| s_y y_pk <| s_y y_as <| s_nil <| q_then <| c_ret <| ?_
  exact ret1 Tryd.results3 rv_t fun w' hw => ⟨rfl, hw⟩
end Go.Proofs.YtnkomkfciojglaaDoor
