/- The laws on derive: keys and mixing. -/
import Derived.Test.YtjfiggbgpplopaaDoorLawB07
namespace Go.Proofs.YtjfiggbgpplopaaDoor
open Go Eng Sha Cod

theorem law_KeysSpec_ok (w : World) (sa : Option Addr) (sc : Nat) (s k1 k2 t : List UInt8) (an : Option Addr) (cn : Nat) (ns : List Int) (hg : LS w) (hs : Rd w sa (bs s)) (h1 : k1.length = 32) (h2 : k2.length = 32) (hn : Rd w an (is ns)) (hns : ∀ n ∈ ns, R64 n) :
    Pure Tryd.prog 6 [.slice sa s.length sc, .agg (bs k1).toArray, .agg (bs k2).toArray, .string (sb t), .slice an ns.length cn] w (.bool true) := by
  refine enter Tryd.func6 Tryd.ntmps6 ?_
  refine c_seq <| c_reg <| s_box rfl fun b6 => s_box rfl fun b7 => s_y y_as <| s_nil <| q_then <| c_seq <| c_seq <| c_reg <| s_pure (fun w' hw => sane_ok w' (hg.st hw)) <| s_y (v := .bool false) (y_not (b := true)) <| s_nil <| q_then <| c_f <| c_skip <| q_then <| c_seq <| c_seq <| c_reg <| s_y y_mv <| s_y y_len <| s_ifd (y_gtr (p := s.length) (q := 500)) (fun h15 => ?_) (fun h15 => ?_)
  · refine s_y y_mv <| s_no <| s_no <| s_no <| s_y y_pk <| s_y y_mv <| s_no <| s_no <| s_no <| s_y y_pk <| s_nil <| q_then <| c_t <| c_seq <| c_reg <| s_y y_as <| s_nil <| q_then <| c_ret <| q_ret <| ?_
    exact ret1 Tryd.results6 rv_t fun w' hw => ⟨rfl, hw.sub (List.nil_sublist _)⟩
  refine s_y y_mv <| s_y y_mv <| s_y y_lens <| ?_
  rw [sb_size]
  refine s_ifd (y_gtr (p := t.length) (q := 500)) (fun h19 => ?_) (fun h19 => ?_)
  · refine s_y y_pk <| s_y y_mv <| s_no <| s_no <| s_no <| s_y y_pk <| s_nil <| q_then <| c_t <| c_seq <| c_reg <| s_y y_as <| s_nil <| q_then <| c_ret <| q_ret <| ?_
    exact ret1 Tryd.results6 rv_t fun w' hw => ⟨rfl, hw.sub (List.nil_sublist _)⟩
  refine s_y y_pk <| s_y y_mv <| s_y y_mv <| s_y y_len <| s_y (y_gtr (p := ns.length) (q := 40)) <| s_y (y_pk (v := .bool (decide ((40 : Int) < (ns.length : Int))))) <| s_nil <| q_then <| c_ifd (fun h25 => ?_) (fun h25 => ?_)
  · refine c_seq <| c_reg <| s_y y_as <| s_nil <| q_then <| c_ret <| q_ret <| ?_
    exact ret1 Tryd.results6 rv_t fun w' hw => ⟨rfl, hw.sub (List.nil_sublist _)⟩
  have ht : t.length ≤ 1000000 := by omega
  have hnl : ns.length ≤ 1000000 := by omega
  have hsl : s.length ≤ 140737488354000 := by omega
  refine c_skip <| q_then <| c_seq <| c_regd <| d_y y_mv <| d_pure (fun w' hw => derive_First_ok w' sa sc s (hg.st hw) (hs.st hw) (by omega)) <| d_y y_mv <| d_pure (fun w' hw => ref07_First_ok w' sa sc s (hs.st hw) hsl) <| d_kt (y_eqla (p := tagged seedS s) (q := tagged seedS s) (tagged_length _ _) (tagged_length _ _) hgk) (by trivial) <| d_y y_mv <| d_y (y_lda (b := b6) (cs := (bs k1).toArray) (hl := hz32 h1)) <| d_y y_mv <| d_y y_mv <| d_pure (fun w' hw => derive_Expand_ok w' k1 t an cn ns (hg.st hw) h1 (hn.st hw) hns ht hnl) <| d_y (y_lda (b := b6) (cs := (bs k1).toArray) (hl := hz32 h1)) <| d_y y_mv <| d_y y_mv <| d_pure (fun w' hw => ref07_Expand_ok w' k1 t an cn ns h1 (hn.st hw) hns ht hnl) <| d_kt (y_eqla (p := expand k1 t ns) (q := expand k1 t ns) (expand_length _ _ _) (expand_length _ _ _) hgk) (by trivial) <| d_y y_pk <| d_y y_mv <| d_y y_mv <| d_y (y_lda (b := b6) (cs := (bs k1).toArray) (hl := hz32 h1)) <| d_y (y_lda (b := b7) (cs := (bs k2).toArray) (hl := hz32 h2)) <| d_pure (fun w' hw => derive_Mix_ok w' t k1 k2 (hg.st hw) h1 h2 ht) <| d_y y_mv <| d_y (y_lda (b := b6) (cs := (bs k1).toArray) (hl := hz32 h1)) <| d_y (y_lda (b := b7) (cs := (bs k2).toArray) (hl := hz32 h2)) <| d_pure (fun w' hw => ref07_Mix_ok w' t k1 k2 h1 h2 ht) <| d_kt (y_eqla (p := mix t k1 k2) (q := mix t k1 k2) (tagged_length _ _) (tagged_length _ _) hgk) (by trivial) <| d_y y_pk <| d_y y_as <| d_nil <| q_then <| c_ret <| ?_
  exact ret1 Tryd.results6 rv_t fun w' hw => ⟨rfl, hw.sub (List.nil_sublist _)⟩

theorem law_Mixed_ok (w : World) (t a b : List UInt8) (hg : LS w) (ha : a.length = 32) (hb : b.length = 32) : Pure Tryd.prog 7 [.string (sb t), .agg (bs a).toArray, .agg (bs b).toArray] w (.bool true) := by
  have hs32 : (bs (Sha.sum t)).toArray.size = 32 := by simp [bs_length, sum_length]
  have hsl := sum_length t
  refine enter Tryd.func7 Tryd.ntmps7 ?_
  refine c_seq <| c_reg <| s_box rfl fun b4 => s_box rfl fun b5 => s_y y_as <| s_nil <| q_then <| c_seq <| c_seq <| c_reg <| s_pure (fun w' hw => sane_ok w' (hg.st hw)) <| s_y (v := .bool false) (y_not (b := true)) <| s_nil <| q_then <| c_f <| c_skip <| q_then <| c_seq <| c_seq <| c_reg <| s_y y_mv <| s_y y_lens <| ?_
  rw [sb_size]
  refine s_y (y_gtr (p := t.length) (q := 500)) <| s_nil <| q_then <| c_ifd (fun h13 => ?_) (fun h13 => ?_)
  · refine c_seq <| c_reg <| s_y y_as <| s_nil <| q_then <| c_ret <| q_ret <| ?_
    exact ret1 Tryd.results7 rv_t fun w' hw => ⟨rfl, hw.sub (List.nil_sublist _)⟩
  have ht : t.length ≤ 1000000 := by omega
  refine c_skip <| q_then <| c_seq <| c_reg <| s_y y_mv <| s_s2b (q := t) fun b15 cap cs fz hcs hcap => s_pure (fun w' hw => digest_Sum_ok w' (some ⟨b15, 0, none⟩) cap t (hg.st hw) (rdB (.head _) (fun i v hv => by rw [Nat.zero_add]; exact hcs i v hv) w' hw) hcap (by omega)) <| s_alloc fun b7 => s_sta (b := b7) (vs := (bs (Sha.sum t)).toArray) (cs := zk) (h1 := hone32 _) (hl := by rw [hs32]; rfl) (hs1 := hs32) ?_
  refine s_nil <| q_then <| c_seq <| c_regL [.blk b7 (.cells (bs (Sha.sum t)).toArray 38 (0, 0)), .blk b5 (.cells (bs b).toArray 23 (0, 0)), .blk b4 (.cells (bs a).toArray 23 (0, 0))] <| r_y 1 rfl y_sla <| r_y 3 rfl y_sla <| r_y 5 rfl y_sla <| r_W 0 rfl <| s_bsl0 fun b17 => r_K <| r_W 2 rfl <| s_app (m := 32) (srcB (q := Sha.sum t) (rd_blkB (b := b7) (e := 38)) hsl) (h1 := fun v hv => bs_one hv) (hm := .head _) (hrep := fun _ _ => .head _) fun a19 c19 h19 => ?_
  rw [List.nil_append]
  refine r_K <| r_W 4 rfl <| s_app (m := 32) (srcB (q := a) (rd_blkB (b := b4) (e := 23)) ha) (h1 := fun v hv => bs_one hv) (hm := .head _) (hrep := fun _ _ => .head _) fun a21 c21 h21 => ?_
  rw [← bs_append]
  refine r_K <| r_W 6 rfl <| s_app (m := 32) (srcB (q := b) (rd_blkB (b := b5) (e := 23)) hb) (h1 := fun v hv => bs_one hv) (hm := .head _) (hrep := fun _ _ => .head _) fun a23 c23 h23 => ?_
  rw [← bs_append, show 0 + 32 + 32 + 32 = (Sha.sum t ++ a ++ b).length by rw [List.length_append, List.length_append]; omega]
  refine r_K <| r_y 7 rfl y_as <| r_E <| q_then <| ?_
  have hm : mix t a b = tagged mixS (Sha.sum t ++ a ++ b) := rfl
  refine c_seq <| c_regd <| d_y y_mv <| d_y (y_lda (b := b4) (cs := (bs a).toArray) (hl := hz32 ha)) <| d_y (y_lda (b := b5) (cs := (bs b).toArray) (hl := hz32 hb)) <| d_pure (fun w' hw => derive_Mix_ok w' t a b (hg.st hw) ha hb ht) <| d_y y_mv <| d_pure (fun w' hw => digest_Tagged_ok w' mixS a23 c23 (Sha.sum t ++ a ++ b) (hg.st hw) (by decide) (rdR (.head _) w' hw) (by rw [List.length_append, List.length_append]; omega)) <| d_kt (y_eqla (p := mix t a b) (q := tagged mixS (Sha.sum t ++ a ++ b)) (tagged_length _ _) (tagged_length _ _) hgk) hm <| d_y y_mv <| d_y (y_lda (b := b4) (cs := (bs a).toArray) (hl := hz32 ha)) <| d_y (y_lda (b := b5) (cs := (bs b).toArray) (hl := hz32 hb)) <| ?_
  by_cases hab : a = b
  · subst hab
    refine d_nf (y_neqa (p := a) (q := a) ha ha hgk) (by trivial) <| d_y y_mv <| d_y y_mv <| d_y (y_lda (b := b4) (cs := (bs a).toArray) (hl := hz32 ha)) <| d_y (y_lda (b := b5) (cs := (bs a).toArray) (hl := hz32 ha)) <| d_pure (fun w' hw => derive_Mix_ok w' t a a (hg.st hw) ha ha ht) <| d_y y_mv <| d_y (y_lda (b := b5) (cs := (bs a).toArray) (hl := hz32 ha)) <| d_y (y_lda (b := b4) (cs := (bs a).toArray) (hl := hz32 ha)) <| d_pure (fun w' hw => derive_Mix_ok w' t a a (hg.st hw) ha ha ht) <| d_kt (y_eqla (p := mix t a a) (q := mix t a a) (tagged_length _ _) (tagged_length _ _) hgk) (by trivial) <| d_y y_pk <| d_y y_pk <| d_y y_as <| d_nil <| q_then <| c_ret <| ?_
    exact ret1 Tryd.results7 rv_t fun w' hw => ⟨rfl, hw.sub (List.nil_sublist _)⟩
  · refine d_nt (y_neqa (p := a) (q := b) ha hb hgk) hab <| d_y y_mv <| d_no <| d_no <| d_no <| d_no <| d_no <| d_no <| d_no <| d_no <| d_no <| d_y y_pk <| d_y y_pk <| d_y y_as <| d_nil <| q_then <| c_ret <| ?_
    exact ret1 Tryd.results7 rv_t fun w' hw => ⟨rfl, hw.sub (List.nil_sublist _)⟩
end Go.Proofs.YtjfiggbgpplopaaDoor
