/- The package schedule and its reference: keys for purposes. -/
import Derived.Test.YtmpjmjllfldjdaaDoorKeys
namespace Go.Proofs.YtmpjmjllfldjdaaDoor
open Go Eng Sha Cod

/-- the names of the purposes -/
def labs : List (List UInt8) := [lbInit, lbCommit, lbChild]
def LS2 (w : World) : Prop := LS w ∧ Rd w (some ⟨0, 0, none⟩) (labs.map fun t => .string (sb t))
theorem LS2.st {W w : World} {l : SH} (h : LS2 W) (hs : St W [] w l) : LS2 w := ⟨h.1.st hs, h.2.st hs⟩
theorem purpose_of_ok (w : World) (n : Nat) (t k : List UInt8) (hg : LS2 w) (hk : k.length = 32) (hn : n < 3) (ht : labs[n]? = some t) (htl : t.length ≤ 1000000) : Pure Tryd.prog 42 [I n, .agg (bs k).toArray] w (.agg (bs (expand k t [])).toArray) := by
  have hs33 : (bs (expand k t [])).toArray.size = 32 := by simp [bs_length, expand_length]
  refine enter Tryd.func42 Tryd.ntmps42 ?_
  refine c_seq <| c_reg <| s_box rfl fun b3 => s_alloc fun b4 => s_nil <| q_then <| c_seq <| c_regL [.blk b3 (.cells (bs k).toArray 23 (0, 0))] <| r_y 0 rfl (y_lda (b := b3) (cs := (bs k).toArray) (hl := hz32 hk)) <| r_y 1 rfl y_mv <| r_y 2 rfl (y_ixar1 (a := some ⟨0, 0, none⟩) (j := 0) (i := n)) <| ?_
  rw [Nat.zero_add, Int.toNat_natCast]
  refine r_y 3 rfl (y_ldr (a := some ⟨0, 0, none⟩) (i := n) (xs := labs.map fun t => .string (sb t)) (v := .string (sb t)) (by rw [List.getElem?_map, ht]; rfl) (hr := rdW0 hg.2)) <| r_W 4 rfl <| s_pure (fun w' hw => derive_Expand_ok w' k t none 0 [] (hg.1.st hw) hk (Rd.nil _ _) (by simp) htl (by simp)) <| r_K <| r_W 5 rfl <| s_sta (vs := (bs (expand k t [])).toArray) (cs := (List.replicate 32 (.int .u8 0)).toArray) (h1 := fun v hv => bs_one (by simpa using hv)) (hl := by rw [hs33]; rfl) (hs1 := hs33) ?_
  refine r_K <| r_E <| q_then <| c_ret <| ?_
  exact ret1 Tryd.results42 (rv_ca (hl := hs33)) fun w' hw => ⟨rfl, hw.sub (List.nil_sublist _)⟩
theorem sch_Init_ok (w : World) (k : List UInt8) (hg : LS2 w) (hk : k.length = 32) : Pure Tryd.prog 20 [.agg (bs k).toArray] w (.agg (bs (expand k lbInit [])).toArray) := by
  refine enter Tryd.func20 Tryd.ntmps20 ?_
  refine c_seq <| c_reg <| s_box rfl fun b1 => s_alloc fun b2 => s_nil <| q_then <| c_seq <| c_reg <| s_y (y_lda (b := b1) (cs := (bs k).toArray) (hl := (hz32 hk))) <| s_pure (fun w' hw => purpose_of_ok w' 0 lbInit k (hg.st hw) hk (by decide) rfl (by decide)) <| s_sta (b := b2) (vs := (bs (expand k lbInit [])).toArray) (cs := (List.replicate 32 (B 0)).toArray) (h1 := fun v hv => bs_one (by simpa using hv)) (hl := by rw [(hz32 (expand_length _ _ _))]; rfl) (hs1 := (hz32 (expand_length _ _ _))) ?_
  refine s_nil <| q_then <| c_ret <| ?_
  exact ret1 Tryd.results20 (rv_ca (hl := (hz32 (expand_length _ _ _)))) fun w' hw => ⟨rfl, hw.sub (List.nil_sublist _)⟩

theorem sch_Child_ok (w : World) (k : List UInt8) (hg : LS2 w) (hk : k.length = 32) : Pure Tryd.prog 27 [.agg (bs k).toArray] w (.agg (bs (expand k lbChild [])).toArray) := by
  refine enter Tryd.func27 Tryd.ntmps27 ?_
  refine c_seq <| c_reg <| s_box rfl fun b1 => s_alloc fun b2 => s_nil <| q_then <| c_seq <| c_reg <| s_y (y_lda (b := b1) (cs := (bs k).toArray) (hl := (hz32 hk))) <| s_pure (fun w' hw => purpose_of_ok w' 2 lbChild k (hg.st hw) hk (by decide) rfl (by decide)) <| s_sta (b := b2) (vs := (bs (expand k lbChild [])).toArray) (cs := (List.replicate 32 (B 0)).toArray) (h1 := fun v hv => bs_one (by simpa using hv)) (hl := by rw [(hz32 (expand_length _ _ _))]; rfl) (hs1 := (hz32 (expand_length _ _ _))) ?_
  refine s_nil <| q_then <| c_ret <| ?_
  exact ret1 Tryd.results27 (rv_ca (hl := (hz32 (expand_length _ _ _)))) fun w' hw => ⟨rfl, hw.sub (List.nil_sublist _)⟩

theorem ref22_Init_ok (w : World) (k : List UInt8) (hk : k.length = 32) : Pure Tryd.prog 21 [.agg (bs k).toArray] w (.agg (bs (expand k lbInit [])).toArray) := by
  refine enter Tryd.func21 Tryd.ntmps21 ?_
  refine c_seq <| c_reg <| s_box rfl fun b1 => s_alloc fun b2 => s_nil <| q_then <| c_seq <| c_reg <| s_y (y_lda (b := b1) (cs := (bs k).toArray) (hl := (hz32 hk))) <| s_pure (fun w' hw => ref07_Expand_ok w' k lbInit none 0 [] hk (Rd.nil _ _) (by simp) (by decide) (by simp)) <| s_sta (b := b2) (vs := (bs (expand k lbInit [])).toArray) (cs := (List.replicate 32 (B 0)).toArray) (h1 := fun v hv => bs_one (by simpa using hv)) (hl := by rw [(hz32 (expand_length _ _ _))]; rfl) (hs1 := (hz32 (expand_length _ _ _))) ?_
  refine s_nil <| q_then <| c_ret <| ?_
  exact ret1 Tryd.results21 (rv_ca (hl := (hz32 (expand_length _ _ _)))) fun w' hw => ⟨rfl, hw.sub (List.nil_sublist _)⟩

theorem ref22_Child_ok (w : World) (k : List UInt8) (hk : k.length = 32) : Pure Tryd.prog 28 [.agg (bs k).toArray] w (.agg (bs (expand k lbChild [])).toArray) := by
  refine enter Tryd.func28 Tryd.ntmps28 ?_
  refine c_seq <| c_reg <| s_box rfl fun b1 => s_alloc fun b2 => s_nil <| q_then <| c_seq <| c_reg <| s_y (y_lda (b := b1) (cs := (bs k).toArray) (hl := (hz32 hk))) <| s_pure (fun w' hw => ref07_Expand_ok w' k lbChild none 0 [] hk (Rd.nil _ _) (by simp) (by decide) (by simp)) <| s_sta (b := b2) (vs := (bs (expand k lbChild [])).toArray) (cs := (List.replicate 32 (B 0)).toArray) (h1 := fun v hv => bs_one (by simpa using hv)) (hl := by rw [(hz32 (expand_length _ _ _))]; rfl) (hs1 := (hz32 (expand_length _ _ _))) ?_
  refine s_nil <| q_then <| c_ret <| ?_
  exact ret1 Tryd.results28 (rv_ca (hl := (hz32 (expand_length _ _ _)))) fun w' hw => ⟨rfl, hw.sub (List.nil_sublist _)⟩

theorem sch_Private_ok (w : World) (k : List UInt8) (hg : LS2 w) (hk : k.length = 32) : Pure Tryd.prog 15 [.agg (bs k).toArray] w (I (dscal k lbNode)) := by
  refine enter Tryd.func15 Tryd.ntmps15 ?_
  refine c_seq <| c_reg <| s_box rfl fun b1 => s_y y_as <| s_nil <| q_then <| c_seq <| c_reg <| s_y (y_lda (b := b1) (cs := (bs k).toArray) (hl := (hz32 hk))) <| s_pure (fun w' hw => derive_Scalar_ok w' k lbNode (hg.1.st hw) hk (by decide)) <| s_y y_as <| s_nil <| q_then <| c_ret <| ?_
  exact ret1 Tryd.results15 rv_t fun w' hw => ⟨rfl, hw.sub (List.nil_sublist _)⟩

theorem sch_Link_ok (w : World) (k : List UInt8) (hg : LS2 w) (hk : k.length = 32) : Pure Tryd.prog 25 [.agg (bs k).toArray] w (I (dscal k lbLink)) := by
  refine enter Tryd.func25 Tryd.ntmps25 ?_
  refine c_seq <| c_reg <| s_box rfl fun b1 => s_y y_as <| s_nil <| q_then <| c_seq <| c_reg <| s_y (y_lda (b := b1) (cs := (bs k).toArray) (hl := (hz32 hk))) <| s_pure (fun w' hw => derive_Scalar_ok w' k lbLink (hg.1.st hw) hk (by decide)) <| s_y y_as <| s_nil <| q_then <| c_ret <| ?_
  exact ret1 Tryd.results25 rv_t fun w' hw => ⟨rfl, hw.sub (List.nil_sublist _)⟩

theorem ref22_Private_ok (w : World) (k : List UInt8) (hk : k.length = 32) : Pure Tryd.prog 16 [.agg (bs k).toArray] w (I (dscal k lbNode)) := by
  refine enter Tryd.func16 Tryd.ntmps16 ?_
  refine c_seq <| c_reg <| s_box rfl fun b1 => s_y y_as <| s_nil <| q_then <| c_seq <| c_reg <| s_y (y_lda (b := b1) (cs := (bs k).toArray) (hl := (hz32 hk))) <| s_pure (fun w' hw => ref07_Scalar_ok w' k lbNode hk (by decide)) <| s_y y_as <| s_nil <| q_then <| c_ret <| ?_
  exact ret1 Tryd.results16 rv_t fun w' hw => ⟨rfl, hw.sub (List.nil_sublist _)⟩

theorem ref22_Link_ok (w : World) (k : List UInt8) (hk : k.length = 32) : Pure Tryd.prog 26 [.agg (bs k).toArray] w (I (dscal k lbLink)) := by
  refine enter Tryd.func26 Tryd.ntmps26 ?_
  refine c_seq <| c_reg <| s_box rfl fun b1 => s_y y_as <| s_nil <| q_then <| c_seq <| c_reg <| s_y (y_lda (b := b1) (cs := (bs k).toArray) (hl := (hz32 hk))) <| s_pure (fun w' hw => ref07_Scalar_ok w' k lbLink hk (by decide)) <| s_y y_as <| s_nil <| q_then <| c_ret <| ?_
  exact ret1 Tryd.results26 rv_t fun w' hw => ⟨rfl, hw.sub (List.nil_sublist _)⟩

theorem sch_Epoch_ok (w : World) (a b : List UInt8) (hg : LS2 w) (ha : a.length = 32) (hb : b.length = 32) : Pure Tryd.prog 18 [.agg (bs a).toArray, .agg (bs b).toArray] w (.agg (bs (mix lbEpoch a (expand b lbCommit []))).toArray) := by
  refine enter Tryd.func18 Tryd.ntmps18 ?_
  refine c_seq <| c_reg <| s_box rfl fun b2 => s_box rfl fun b3 => s_alloc fun b4 => s_nil <| q_then <| c_seq <| c_regL [.blk b3 (.cells (bs b).toArray 23 (0, 0)), .blk b2 (.cells (bs a).toArray 23 (0, 0))] <| r_y 0 rfl (y_lda (b := b2) (cs := (bs a).toArray) (hl := (hz32 ha))) <| r_y 1 rfl (y_lda (b := b3) (cs := (bs b).toArray) (hl := (hz32 hb))) <| r_W 2 rfl <| s_pure (fun w' hw => purpose_of_ok w' 1 lbCommit b (hg.st hw) hb (by decide) rfl (by decide)) <| r_K <| r_W 3 rfl <| s_pure (fun w' hw => derive_Mix_ok w' lbEpoch a (expand b lbCommit []) (hg.1.st hw) ha (expand_length _ _ _) (by decide)) <| r_K <| r_W 4 rfl <| s_sta (b := b4) (vs := (bs (mix lbEpoch a (expand b lbCommit []))).toArray) (cs := (List.replicate 32 (B 0)).toArray) (h1 := fun v hv => bs_one (by simpa using hv)) (hl := by rw [(hz32 (mix_length _ _ _))]; rfl) (hs1 := (hz32 (mix_length _ _ _))) ?_
  refine r_K <| r_E <| q_then <| c_ret <| ?_
  exact ret1 Tryd.results18 (rv_ca (hl := (hz32 (mix_length _ _ _)))) fun w' hw => ⟨rfl, hw.sub (List.nil_sublist _)⟩

theorem ref22_Epoch_ok (w : World) (a b : List UInt8) (ha : a.length = 32) (hb : b.length = 32) : Pure Tryd.prog 19 [.agg (bs a).toArray, .agg (bs b).toArray] w (.agg (bs (mix lbEpoch a (expand b lbCommit []))).toArray) := by
  refine enter Tryd.func19 Tryd.ntmps19 ?_
  refine c_seq <| c_reg <| s_box rfl fun b2 => s_box rfl fun b3 => s_alloc fun b4 => s_nil <| q_then <| c_seq <| c_regL [.blk b3 (.cells (bs b).toArray 23 (0, 0)), .blk b2 (.cells (bs a).toArray 23 (0, 0))] <| r_y 0 rfl (y_lda (b := b2) (cs := (bs a).toArray) (hl := (hz32 ha))) <| r_y 1 rfl (y_lda (b := b3) (cs := (bs b).toArray) (hl := (hz32 hb))) <| r_W 2 rfl <| s_pure (fun w' hw => ref07_Expand_ok w' b lbCommit none 0 [] hb (Rd.nil _ _) (by simp) (by decide) (by simp)) <| r_K <| r_W 3 rfl <| s_pure (fun w' hw => ref07_Mix_ok w' lbEpoch a (expand b lbCommit []) ha (expand_length _ _ _) (by decide)) <| r_K <| r_W 4 rfl <| s_sta (b := b4) (vs := (bs (mix lbEpoch a (expand b lbCommit []))).toArray) (cs := (List.replicate 32 (B 0)).toArray) (h1 := fun v hv => bs_one (by simpa using hv)) (hl := by rw [(hz32 (mix_length _ _ _))]; rfl) (hs1 := (hz32 (mix_length _ _ _))) ?_
  refine r_K <| r_E <| q_then <| c_ret <| ?_
  exact ret1 Tryd.results19 (rv_ca (hl := (hz32 (mix_length _ _ _)))) fun w' hw => ⟨rfl, hw.sub (List.nil_sublist _)⟩

theorem sch_Content_ok (w : World) (k : List UInt8) (m n : Int) (hg : LS2 w) (hk : k.length = 32) (hm : R64 m) (hn : R64 n) : Pure Tryd.prog 23 [.agg (bs k).toArray, I m, I n] w (.agg (bs (expand k lbItem [m, n])).toArray) := by
  refine enter Tryd.func23 Tryd.ntmps23 ?_
  refine c_seq <| c_reg <| s_box rfl fun b3 => s_alloc fun b6 => s_nil <| q_then <| c_seq <| c_reg <| s_y (y_lda (b := b3) (cs := (bs k).toArray) (hl := (hz32 hk))) <| s_y y_mv <| s_y y_mv <| s_bslr (cs := is [m, n]) fun b10 => s_pure (fun w' hw => derive_Expand_ok w' k lbItem (some ⟨b10, 0, none⟩) 2 [m, n] (hg.1.st hw) hk (rdR (xs := is [m, n]) (.head _) w' hw) (by simp; exact ⟨hm, hn⟩) (by decide) (by simp)) <| s_sta (b := b6) (vs := (bs (expand k lbItem [m, n])).toArray) (cs := (List.replicate 32 (B 0)).toArray) (h1 := fun v hv => bs_one (by simpa using hv)) (hl := by rw [(hz32 (expand_length _ _ _))]; rfl) (hs1 := (hz32 (expand_length _ _ _))) ?_
  refine s_nil <| q_then <| c_ret <| ?_
  exact ret1 Tryd.results23 (rv_ca (hl := (hz32 (expand_length _ _ _)))) fun w' hw => ⟨rfl, hw.sub (List.nil_sublist _)⟩

theorem ref22_Content_ok (w : World) (k : List UInt8) (m n : Int) (hk : k.length = 32) (hm : R64 m) (hn : R64 n) : Pure Tryd.prog 24 [.agg (bs k).toArray, I m, I n] w (.agg (bs (expand k lbItem [m, n])).toArray) := by
  refine enter Tryd.func24 Tryd.ntmps24 ?_
  refine c_seq <| c_reg <| s_box rfl fun b3 => s_alloc fun b6 => s_nil <| q_then <| c_seq <| c_reg <| s_y (y_lda (b := b3) (cs := (bs k).toArray) (hl := (hz32 hk))) <| s_y y_mv <| s_y y_mv <| s_bslr (cs := is [m, n]) fun b10 => s_pure (fun w' hw => ref07_Expand_ok w' k lbItem (some ⟨b10, 0, none⟩) 2 [m, n] hk (rdR (xs := is [m, n]) (.head _) w' hw) (by simp; exact ⟨hm, hn⟩) (by decide) (by simp)) <| s_sta (b := b6) (vs := (bs (expand k lbItem [m, n])).toArray) (cs := (List.replicate 32 (B 0)).toArray) (h1 := fun v hv => bs_one (by simpa using hv)) (hl := by rw [(hz32 (expand_length _ _ _))]; rfl) (hs1 := (hz32 (expand_length _ _ _))) ?_
  refine s_nil <| q_then <| c_ret <| ?_
  exact ret1 Tryd.results24 (rv_ca (hl := (hz32 (expand_length _ _ _)))) fun w' hw => ⟨rfl, hw.sub (List.nil_sublist _)⟩

theorem sch_Confirm_ok (w : World) (k q : List UInt8) (hg : LS2 w) (hk : k.length = 32) (hq : q.length = 32) : Pure Tryd.prog 29 [.agg (bs k).toArray, .agg (bs q).toArray] w (.agg (bs (tagged lbConfirm (k ++ q))).toArray) := by
  refine enter Tryd.func29 Tryd.ntmps29 ?_
  refine c_seq <| c_reg <| s_box rfl fun b2 => s_box rfl fun b3 => s_alloc fun b4 => s_nil <| q_then <| c_seq <| c_regL [.blk b3 (.cells (bs q).toArray 41 (0, 0)), .blk b2 (.cells (bs k).toArray 23 (0, 0))] <| r_y 0 rfl y_sla <| r_y 1 rfl y_sla <| r_W 2 rfl <| s_bslr (cs := [.slice (some ⟨b2, 0, none⟩) 32 32, .slice (some ⟨b3, 0, none⟩) 32 32]) fun b7 => r_K <| r_W 3 rfl <| s_gives (fun w' hw => slices_Concat_ok w' (some ⟨b7, 0, none⟩) 2 [.slice (some ⟨b2, 0, none⟩) 32 32, .slice (some ⟨b3, 0, none⟩) 32 32] [k, q] (rdR (.head _) w' hw) (by have h9 := (SlL.cons (c := 32) (rd_blkB (e := 23) (.tail _ (.tail _ (.tail _ (.head _)))) w' hw) (SlL.cons (c := 32) (rd_blkB (e := 41) (.tail _ (.tail _ (.head _))) w' hw) (SlL.nil w'))); simp only [hk, hq] at h9; exact h9) (by simp only [List.flatten_cons, List.flatten_nil, List.length_append, List.length_nil]; omega) (show 2 < 1000000000 by decide)) fun x8 _ => ?_
  rw [show [k, q].flatten = k ++ q by simp]
  refine r_K <| r_W 4 rfl <| s_pure (fun w' hw => digest_Tagged_ok w' lbConfirm x8.1 x8.2 (k ++ q) (hg.1.st hw) (by decide) (rdR (.head _) w' hw) (by simp only [List.length_append]; omega)) <| r_K <| r_W 5 rfl <| s_sta (b := b4) (vs := (bs (tagged lbConfirm (k ++ q))).toArray) (cs := (List.replicate 32 (B 0)).toArray) (h1 := fun v hv => bs_one (by simpa using hv)) (hl := by rw [(hz32 (tagged_length _ _))]; rfl) (hs1 := (hz32 (tagged_length _ _))) ?_
  refine r_K <| r_E <| q_then <| c_ret <| ?_
  exact ret1 Tryd.results29 (rv_ca (hl := (hz32 (tagged_length _ _)))) fun w' hw => ⟨rfl, hw.sub (List.nil_sublist _)⟩

theorem ref22_Confirm_ok (w : World) (k q : List UInt8) (hk : k.length = 32) (hq : q.length = 32) : Pure Tryd.prog 30 [.agg (bs k).toArray, .agg (bs q).toArray] w (.agg (bs (tagged lbConfirm (k ++ q))).toArray) := by
  refine enter Tryd.func30 Tryd.ntmps30 ?_
  refine c_seq <| c_reg <| s_box rfl fun b2 => s_box rfl fun b3 => s_alloc fun b4 => s_nil <| q_then <| c_seq <| c_regL [.blk b3 (.cells (bs q).toArray 41 (0, 0)), .blk b2 (.cells (bs k).toArray 23 (0, 0))] <| r_y 1 rfl y_sla <| r_y 3 rfl y_sla <| r_W 0 rfl <| s_bsl0 fun b5 => r_K <| r_W 2 rfl <| s_app (m := 32) (srcB (q := k) (rd_blkB (e := 23) (.tail _ (.tail _ (.tail _ (.head _))))) hk) (h1 := fun v hv => bs_one hv) (hm := .head _) (hrep := fun _ _ => .head _) fun a7 c7 h7 => ?_
  rw [List.nil_append]
  rw [show 0 + 32 = k.length by first | omega | (simp only [List.length_append]; omega)]
  refine r_K <| r_W 4 rfl <| s_app (m := 32) (srcB (q := q) (rd_blkB (e := 41) (.tail _ (.tail _ (.head _)))) hq) (h1 := fun v hv => bs_one hv) (hm := .head _) (hrep := fun _ _ => .head _) fun a9 c9 h9 => ?_
  rw [← bs_append]
  rw [show k.length + 32 = (k ++ q).length by first | omega | (simp only [List.length_append]; omega)]
  refine r_K <| r_W 5 rfl <| s_pure (fun w' hw => ref02_Tagged_ok w' lbConfirm a9 c9 (k ++ q) (by decide) (rdR (.head _) w' hw) (by simp only [List.length_append]; omega)) <| r_K <| r_W 6 rfl <| s_sta (b := b4) (vs := (bs (tagged lbConfirm (k ++ q))).toArray) (cs := (List.replicate 32 (B 0)).toArray) (h1 := fun v hv => bs_one (by simpa using hv)) (hl := by rw [(hz32 (tagged_length _ _))]; rfl) (hs1 := (hz32 (tagged_length _ _))) ?_
  refine r_K <| r_E <| q_then <| c_ret <| ?_
  exact ret1 Tryd.results30 (rv_ca (hl := (hz32 (tagged_length _ _)))) fun w' hw => ⟨rfl, hw.sub (List.nil_sublist _)⟩
end Go.Proofs.YtmpjmjllfldjdaaDoor
