/- The cipher: bytes sealed and opened, in both programs. -/
import Derived.Test.YtchpcabehchfjaaDoorChaE
namespace Cha
open Go Eng Sha
/-- is a tag right? -/
def opOk (k n h c : List UInt8) : Bool := decide (16 ≤ c.length) && (decide (c.length ≤ 65552) && decide (c.drop (c.length - 16) = tg k n h (c.take (c.length - 16))))
def opB (k n h c : List UInt8) : List UInt8 := if opOk k n h c = true then strm k n (c.take (c.length - 16)) else []
def opE (k n h c : List UInt8) : Int := if opOk k n h c = true then 0 else 60
theorem sealB_open {k n h b : List UInt8} (hb : b.length ≤ 65536) : opOk k n h (sealB k n h b) = true ∧ opB k n h (sealB k n h b) = b := by
  have hl := sealB_length k n h b
  have ht : (sealB k n h b).take ((sealB k n h b).length - 16) = strm k n b := by
    rw [hl, Nat.add_sub_cancel]; unfold sealB; exact List.take_left' (strm_length _ _ _)
  have hd : (sealB k n h b).drop ((sealB k n h b).length - 16) = tg k n h (strm k n b) := by
    rw [hl, Nat.add_sub_cancel]; unfold sealB; exact List.drop_left' (strm_length _ _ _)
  have h1 : opOk k n h (sealB k n h b) = true := by
    unfold opOk
    rw [ht, hd, hl, decide_eq_true (by omega), decide_eq_true (by omega), decide_eq_true rfl]; rfl
  refine ⟨h1, ?_⟩
  unfold opB
  rw [if_pos h1, ht, strm_strm]
end Cha
namespace Go.Proofs.YtchpcabehchfjaaDoor
open Go Eng Sha Cha
set_option maxRecDepth 100000
theorem Equal_ok (w : World) (a a' : Option Addr) (m m' c c' : Nat) (p q : List UInt8) (hp : p.length = m) (hq : q.length = m') (hr : Rd w a (bs p)) (hr' : Rd w a' (bs q)) :
    Pure Tryd.prog 46 [.slice a m c, .slice a' m' c'] w (.bool (decide (p = q))) := by
  refine enter Tryd.func46 Tryd.ntmps46 ?_
  refine c_seq <| c_reg <| s_y y_as <| s_nil <| q_then <| c_seq <| c_reg <| s_y y_mv <| s_y (y_b2s (q := p) (hr := rdW0 hr) (hm := hp)) <| s_y y_mv <| s_y (y_b2s (q := q) (hr := rdW0 hr') (hm := hq)) <| s_y (y_eqls (a := sb p) (b := sb q)) <| s_y y_as <| s_nil <| q_then <| c_ret <| ?_
  exact ret1 Tryd.results46 rv_t fun w' hw => ⟨by rw [show decide (sb p = sb q) = decide (p = q) from decide_eq_decide.2 sb_inj], hw⟩
section
variable (w : World) (ha ca : Option Addr) (hc cc : Nat) (k n h c : List UInt8) (hk : k.length = 32) (hn : n.length = 12) (hrh : Rd w ha (bs h)) (hlh : h.length ≤ 100000)
include hk hn
theorem c_Seal_big (m : Nat) (hm : 65536 < m) : Pure Tryd.prog 20 [.agg (bs k).toArray, .agg (bs n).toArray, .slice ha h.length hc, .slice ca m cc] w (.tuple #[.slice none 0 0, I 60]) := by
  refine enter Tryd.func20 Tryd.ntmps20 ?_
  refine c_seq <| c_reg <| s_box rfl fun b4 => s_box rfl fun b5 => s_y y_as <| s_y y_as <| s_nil <| q_then <| c_seq <| c_reg <| s_y (y_lda (b := b4) (cs := (bs k).toArray) (hl := hzn hk)) <| s_y (y_lda (b := b5) (cs := (bs n).toArray) (hl := hzn hn)) <| s_y y_mv <| s_pure (fun w' hw => c_Stream_big w' ca m cc k n hm) <| s_y y_mv <| s_y y_ext <| s_y y_ext <| s_y y_as <| s_y y_as <| s_nil <| q_then <| c_seq <| c_seq <| c_reg <| s_y y_mv <| s_nt (y_neq (p := 60) (q := 0)) (by decide) <| s_nil <| q_then <| c_t <| c_seq <| c_reg <| s_y y_mv <| s_y y_as <| s_y y_as <| s_nil <| q_then <| c_ret <| q_ret <| ?_
  exact ret2 Tryd.results20 rv_t rv_t fun w' hw => ⟨rfl, hw.sub (List.nil_sublist _)⟩
include hrh hlh
theorem c_Seal_ok (hg : LC w) (hrc : Rd w ca (bs c)) (hlc : c.length ≤ 65536) :
    Gives Tryd.prog 20 [.agg (bs k).toArray, .agg (bs n).toArray, .slice ha h.length hc, .slice ca c.length cc] w [] (fun y : Option Addr × Nat => .tuple #[.slice y.1 (c.length + 16) y.2, I 0]) (fun y => [.row y.1 y.2 5 1 (c.length + 16) (bs (sealB k n h c))]) (fun _ => True) := by
  have hsl := strm_length k n c
  refine enter Tryd.func20 Tryd.ntmps20 ?_
  refine c_seq <| c_reg <| s_box rfl fun b4 => s_box rfl fun b5 => s_y y_as <| s_y y_as <| s_nil <| q_then <| c_seq <| c_reg <| s_y (y_lda (b := b4) (cs := (bs k).toArray) (hl := hzn hk)) <| s_y (y_lda (b := b5) (cs := (bs n).toArray) (hl := hzn hn)) <| s_y y_mv <| s_gives (fun w' hw => c_Stream_ok w' ca cc k n c (hg.st hw) hk hn (hrc.st hw) hlc) (fun y _ => ?_)
  obtain ⟨xa, xc⟩ := y
  refine s_y y_mv <| s_y y_ext <| s_y y_ext <| s_y y_as <| s_y y_as <| s_nil <| q_then <| c_seq <| c_seq <| c_reg <| s_y y_mv <| s_nf (y_neq (p := 0) (q := 0)) rfl <| s_nil <| q_then <| c_f <| c_skip <| q_then <| c_seq <| c_reg <| s_y y_mv <| s_y (y_lda (b := b4) (cs := (bs k).toArray) (hl := hzn hk)) <| s_y (y_lda (b := b5) (cs := (bs n).toArray) (hl := hzn hn)) <| s_y y_mv <| s_y y_mv <| s_gives (fun w' hw => by
    have h9 := c_tag_ok w' ha xa hc xc k n h (strm k n c) (hg.st hw).1 hk hn (hrh.st hw) (rdR (.head _) w' hw) hlh (by omega)
    rw [hsl] at h9
    exact h9) (fun b25 _ => ?_)
  refine s_app (m := 16) (srcB (q := tg k n h (strm k n c)) (fun w' hw => (by
    have h9 := ((rd_blkB (e := 47) (.head _) : RdS w [] _ (some ⟨b25, 0, none⟩) (bs (tagged lbTag (k ++ n ++ be h.length 8 ++ h ++ strm k n c)))) w' hw).take 16
    rw [← bs_take] at h9
    exact h9)) (tg_length _ _ _ _)) (h1 := fun v hv => bs_one hv) (hm := .tail _ (.head _)) (hrep := fun _ _ => .tail _ (.head _)) fun a26 c26 h26 => ?_
  rw [← bs_append]
  refine s_y y_as <| s_y y_as <| s_nil <| q_then <| c_ret <| ?_
  exact ret2 Tryd.results20 rv_t rv_t fun w' hw => ⟨(a26, c26), trivial, rfl, hw.sub (.cons _ (.cons_cons _ (List.nil_sublist _)))⟩
theorem c_Open_no (hg : LC w) (hrc : Rd w ca (bs c)) (hlc : c.length ≤ 100000) (hcc : c.length ≤ cc) (hno : opOk k n h c = false) :
    Pure Tryd.prog 26 [.agg (bs k).toArray, .agg (bs n).toArray, .slice ha h.length hc, .slice ca c.length cc] w (.tuple #[.slice none 0 0, I 60]) := by
  refine enter Tryd.func26 Tryd.ntmps26 ?_
  refine c_seq <| c_reg <| s_box rfl fun b4 => s_box rfl fun b5 => s_y y_as <| s_y y_as <| s_nil <| q_then <| c_seq <| c_reg <| s_y y_mv <| s_y y_len <| s_y (y_sub (p := ((c.length : Nat) : Int)) (q := 16)) <| s_y y_as <| s_nil <| q_then <| ?_
  by_cases h1 : c.length < 16
  · refine c_seq <| c_seq <| c_regL [] <| r_y 0 rfl y_mv <| r_kt 1 rfl (y_lss (p := ((c.length : Nat) : Int) - 16) (q := 0)) (by omega) <| r_y 2 rfl y_mv <| r_no 3 rfl <| r_no 4 rfl <| r_y 5 rfl y_pk <| r_y 6 rfl y_mv <| r_no 7 rfl <| r_no 8 rfl <| r_no 9 rfl <| r_no 10 rfl <| r_no 11 rfl <| r_no 12 rfl <| r_no 13 rfl <| r_no 14 rfl <| r_no 15 rfl <| r_no 16 rfl <| r_no 17 rfl <| r_no 18 rfl <| r_y 19 rfl y_pk <| r_E <| q_then <| c_t <| c_seq <| c_reg <| s_y y_as <| s_y y_as <| s_nil <| q_then <| c_ret <| q_ret <| ?_
    exact ret2 Tryd.results26 rv_t rv_t fun w' hw => ⟨rfl, hw.sub (List.nil_sublist _)⟩
  obtain ⟨M, hM⟩ : ∃ M, c.length - 16 = M := ⟨_, rfl⟩
  rw [show ((c.length : Nat) : Int) - 16 = ((M : Nat) : Int) by omega]
  by_cases h2 : 65536 < M
  · refine c_seq <| c_seq <| c_regL [] <| r_y 0 rfl y_mv <| r_kf 1 rfl (y_lss (p := ((M : Nat) : Int)) (q := 0)) (by omega) <| r_y 2 rfl y_mv <| r_y 3 rfl y_mv <| r_kt 4 rfl (y_gtr (p := ((M : Nat) : Int)) (q := 65536)) (by omega) <| r_y 5 rfl y_pk <| r_y 6 rfl y_mv <| r_no 7 rfl <| r_no 8 rfl <| r_no 9 rfl <| r_no 10 rfl <| r_no 11 rfl <| r_no 12 rfl <| r_no 13 rfl <| r_no 14 rfl <| r_no 15 rfl <| r_no 16 rfl <| r_no 17 rfl <| r_no 18 rfl <| r_y 19 rfl y_pk <| r_E <| q_then <| c_t <| c_seq <| c_reg <| s_y y_as <| s_y y_as <| s_nil <| q_then <| c_ret <| q_ret <| ?_
    exact ret2 Tryd.results26 rv_t rv_t fun w' hw => ⟨rfl, hw.sub (List.nil_sublist _)⟩
  have hne : decide (c.drop M = tg k n h (c.take M)) = false := by
    unfold opOk at hno
    rw [decide_eq_true (show 16 ≤ c.length by omega), decide_eq_true (show c.length ≤ 65552 by omega), hM] at hno
    exact hno
  have htl : (c.take M).length = M := by rw [List.length_take]; omega
  refine c_seq <| c_seq <| c_regL [.blk b5 (.cells (bs n).toArray 45 (0, 0)), .blk b4 (.cells (bs k).toArray 32 (0, 0))] <| r_y 0 rfl y_mv <| r_kf 1 rfl (y_lss (p := ((M : Nat) : Int)) (q := 0)) (by omega) <| r_y 2 rfl y_mv <| r_y 3 rfl y_mv <| r_kf 4 rfl (y_gtr (p := ((M : Nat) : Int)) (q := 65536)) (by omega) <| r_y 5 rfl y_pk <| r_y 6 rfl y_mv <| r_y 7 rfl y_mv <| r_y 8 rfl y_mv <| r_y 9 rfl (y_sll (i := ((M : Nat) : Int))) <| r_y 10 rfl (y_lda (b := b4) (cs := (bs k).toArray) (hl := hzn hk)) <| r_y 11 rfl (y_lda (b := b5) (cs := (bs n).toArray) (hl := hzn hn)) <| r_y 12 rfl y_mv <| r_y 13 rfl y_mv <| r_y 14 rfl y_mv <| r_y 15 rfl (y_slh (j := ((M : Nat) : Int))) <| ?_
  rw [Int.toNat_natCast]
  refine r_W 16 rfl <| s_gives (fun w' hw => by
    have h9 := c_tag_ok w' ha ca hc cc k n h (c.take M) (hg.st hw).1 hk hn (hrh.st hw) (by have := (hrc.st hw).take M; rwa [← bs_take] at this) hlh (by omega)
    rw [htl] at h9
    exact h9) (fun b30 _ => ?_)
  refine r_K <| r_W 17 rfl <| s_pure (fun w' hw => (by
    have h9 := Equal_ok w' (sa ca M cc 1) (some ⟨b30, 0, none⟩) (c.length - M) 16 (cc - M) 32 (c.drop M) (tg k n h (c.take M)) (by rw [List.length_drop]) (tg_length _ _ _ _) (by have := (rdW0 (hrc.st hw)).sa (i := M) (c := cc) (s := 1) (by rw [bs_length]; omega) w' (St.refl w'); rwa [Nat.mul_one, ← bs_drop] at this) (by
      have h9 := ((rd_blkB (e := 47) (.head _) : RdS w [] _ (some ⟨b30, 0, none⟩) (bs (tagged lbTag (k ++ n ++ be h.length 8 ++ h ++ c.take M)))) w' hw).take 16
      rw [← bs_take] at h9
      exact h9)
    rw [hne] at h9
    exact h9)) <| r_K <| r_y 18 rfl (y_not (b := false)) <| r_y 19 rfl y_pk <| r_E <| q_then <| c_t <| c_seq <| c_reg <| s_y y_as <| s_y y_as <| s_nil <| q_then <| c_ret <| q_ret <| ?_
  exact ret2 Tryd.results26 rv_t rv_t fun w' hw => ⟨rfl, hw.sub (List.nil_sublist _)⟩
theorem c_Open_yes (hg : LC w) (hrc : Rd w ca (bs c)) (hcc : c.length ≤ cc) (hyes : opOk k n h c = true) :
    Gives Tryd.prog 26 [.agg (bs k).toArray, .agg (bs n).toArray, .slice ha h.length hc, .slice ca c.length cc] w [] (fun y : Option Addr × Nat => .tuple #[.slice y.1 (opB k n h c).length y.2, I 0]) (fun y => [.row y.1 y.2 5 1 (opB k n h c).length (bs (opB k n h c))]) (fun _ => True) := by
  have hob : opB k n h c = strm k n (c.take (c.length - 16)) := by unfold opB; rw [if_pos hyes]
  obtain ⟨M, hM⟩ : ∃ M, c.length - 16 = M := ⟨_, rfl⟩
  unfold opOk at hyes
  simp only [Bool.and_eq_true, decide_eq_true_eq] at hyes
  obtain ⟨h1, h2, h3⟩ := hyes
  rw [hM] at h3 hob
  have htl : (c.take M).length = M := by rw [List.length_take]; omega
  rw [hob, strm_length, htl]
  refine enter Tryd.func26 Tryd.ntmps26 ?_
  refine c_seq <| c_reg <| s_box rfl fun b4 => s_box rfl fun b5 => s_y y_as <| s_y y_as <| s_nil <| q_then <| c_seq <| c_reg <| s_y y_mv <| s_y y_len <| s_y (y_sub (p := ((c.length : Nat) : Int)) (q := 16)) <| ?_
  rw [show ((c.length : Nat) : Int) - 16 = ((M : Nat) : Int) by omega]
  refine s_y y_as <| s_nil <| q_then <| ?_
  refine c_seq <| c_seq <| c_regL [.blk b5 (.cells (bs n).toArray 45 (0, 0)), .blk b4 (.cells (bs k).toArray 32 (0, 0))] <| r_y 0 rfl y_mv <| r_kf 1 rfl (y_lss (p := ((M : Nat) : Int)) (q := 0)) (by omega) <| r_y 2 rfl y_mv <| r_y 3 rfl y_mv <| r_kf 4 rfl (y_gtr (p := ((M : Nat) : Int)) (q := 65536)) (by omega) <| r_y 5 rfl y_pk <| r_y 6 rfl y_mv <| r_y 7 rfl y_mv <| r_y 8 rfl y_mv <| r_y 9 rfl (y_sll (i := ((M : Nat) : Int))) <| r_y 10 rfl (y_lda (b := b4) (cs := (bs k).toArray) (hl := hzn hk)) <| r_y 11 rfl (y_lda (b := b5) (cs := (bs n).toArray) (hl := hzn hn)) <| r_y 12 rfl y_mv <| r_y 13 rfl y_mv <| r_y 14 rfl y_mv <| r_y 15 rfl (y_slh (j := ((M : Nat) : Int))) <| ?_
  rw [Int.toNat_natCast]
  refine r_W 16 rfl <| s_gives (fun w' hw => by
    have h9 := c_tag_ok w' ha ca hc cc k n h (c.take M) (hg.st hw).1 hk hn (hrh.st hw) (by have := (hrc.st hw).take M; rwa [← bs_take] at this) hlh (by omega)
    rw [htl] at h9
    exact h9) (fun b30 _ => ?_)
  refine r_K <| r_W 17 rfl <| s_pure (fun w' hw => (by
    have h9 := Equal_ok w' (sa ca M cc 1) (some ⟨b30, 0, none⟩) (c.length - M) 16 (cc - M) 32 (c.drop M) (tg k n h (c.take M)) (by rw [List.length_drop]) (tg_length _ _ _ _) (by have := (rdW0 (hrc.st hw)).sa (i := M) (c := cc) (s := 1) (by rw [bs_length]; omega) w' (St.refl w'); rwa [Nat.mul_one, ← bs_drop] at this) (by
      have h9 := ((rd_blkB (e := 47) (.head _) : RdS w [] _ (some ⟨b30, 0, none⟩) (bs (tagged lbTag (k ++ n ++ be h.length 8 ++ h ++ c.take M)))) w' hw).take 16
      rw [← bs_take] at h9
      exact h9)
    rw [decide_eq_true h3] at h9
    exact h9)) <| r_K <| r_y 18 rfl (y_not (b := true)) <| r_y 19 rfl y_pk <| r_E <| q_then <| c_f <| c_skip <| q_then <| ?_
  refine c_seq <| c_regL [.blk b5 (.cells (bs n).toArray 45 (0, 0)), .blk b4 (.cells (bs k).toArray 32 (0, 0))] <| r_y 0 rfl (y_lda (b := b4) (cs := (bs k).toArray) (hl := hzn hk)) <| r_y 1 rfl (y_lda (b := b5) (cs := (bs n).toArray) (hl := hzn hn)) <| r_y 2 rfl y_mv <| r_y 3 rfl y_mv <| r_y 4 rfl (y_slh (j := ((M : Nat) : Int))) <| ?_
  rw [Int.toNat_natCast]
  refine r_W 5 rfl <| s_gives (fun w' hw => by
    have h9 := c_Stream_ok w' ca cc k n (c.take M) (hg.st hw) hk hn (by have := (hrc.st hw).take M; rwa [← bs_take] at this) (by omega)
    rw [htl] at h9
    exact h9) (fun y _ => ?_)
  obtain ⟨ya, yc⟩ := y
  refine r_K <| r_y 6 rfl y_ext <| r_y 7 rfl y_ext <| r_y 8 rfl y_as <| r_y 9 rfl y_as <| r_E <| q_then <| c_ret <| ?_
  exact ret2 Tryd.results26 rv_t rv_t fun w' hw => ⟨(ya, yc), trivial, rfl, hw.sub (.cons_cons _ (List.nil_sublist _))⟩
theorem r6_Open_no (hrc : Rd w ca (bs c)) (hlc : c.length ≤ 100000) (hcc : c.length ≤ cc) (hno : opOk k n h c = false) :
    Pure Tryd.prog 31 [.agg (bs k).toArray, .agg (bs n).toArray, .slice ha h.length hc, .slice ca c.length cc] w (.tuple #[.slice none 0 0, I 60]) := by
  refine enter Tryd.func31 Tryd.ntmps31 ?_
  refine c_seq <| c_reg <| s_box rfl fun b4 => s_box rfl fun b5 => s_y y_as <| s_y y_as <| s_nil <| q_then <| c_seq <| c_seq <| c_reg <| s_y y_mv <| s_y y_len <| ?_
  by_cases h1 : c.length < 16
  · refine s_kt (y_lss (p := ((c.length : Nat) : Int)) (q := 16)) (by omega) <| s_y y_mv <| s_no <| s_no <| s_no <| s_y y_pk <| s_nil <| q_then <| c_t <| c_seq <| c_reg <| s_y y_as <| s_y y_as <| s_nil <| q_then <| c_ret <| q_ret <| ?_
    exact ret2 Tryd.results31 rv_t rv_t fun w' hw => ⟨rfl, hw.sub (List.nil_sublist _)⟩
  by_cases h2 : 65552 < c.length
  · refine s_kf (y_lss (p := ((c.length : Nat) : Int)) (q := 16)) (by omega) <| s_y y_mv <| s_y y_mv <| s_y y_len <| s_kt (y_gtr (p := ((c.length : Nat) : Int)) (q := 65552)) (by omega) <| s_y y_pk <| s_nil <| q_then <| c_t <| c_seq <| c_reg <| s_y y_as <| s_y y_as <| s_nil <| q_then <| c_ret <| q_ret <| ?_
    exact ret2 Tryd.results31 rv_t rv_t fun w' hw => ⟨rfl, hw.sub (List.nil_sublist _)⟩
  obtain ⟨M, hM⟩ : ∃ M, c.length - 16 = M := ⟨_, rfl⟩
  have hne : ¬ c.drop M = tg k n h (c.take M) := by
    unfold opOk at hno
    rw [decide_eq_true (show 16 ≤ c.length by omega), decide_eq_true (show c.length ≤ 65552 by omega), hM] at hno
    exact of_decide_eq_false hno
  have htl : (c.take M).length = M := by rw [List.length_take]; omega
  refine s_kf (y_lss (p := ((c.length : Nat) : Int)) (q := 16)) (by omega) <| s_y y_mv <| s_y y_mv <| s_y y_len <| s_kf (y_gtr (p := ((c.length : Nat) : Int)) (q := 65552)) (by omega) <| s_y y_pk <| s_nil <| q_then <| c_f <| c_skip <| q_then <| c_seq <| c_reg <| s_y y_mv <| s_y y_mv <| s_y y_len <| s_y (y_sub (p := ((c.length : Nat) : Int)) (q := 16)) <| ?_
  rw [show ((c.length : Nat) : Int) - 16 = ((M : Nat) : Int) by omega]
  refine s_y (y_slh (j := ((M : Nat) : Int))) <| s_y y_as <| s_nil <| q_then <| c_seq <| c_seq <| c_regL [.blk b5 (.cells (bs n).toArray 45 (0, 0)), .blk b4 (.cells (bs k).toArray 32 (0, 0))] <| r_y 0 rfl y_mv <| r_y 1 rfl y_mv <| r_y 2 rfl y_len <| r_y 3 rfl (y_sub (p := ((c.length : Nat) : Int)) (q := 16)) <| ?_
  rw [show ((c.length : Nat) : Int) - 16 = ((M : Nat) : Int) by omega]
  refine r_y 4 rfl (y_sll (i := ((M : Nat) : Int))) <| r_y 5 rfl (y_b2s (q := c.drop M) (hr := fun w' hw => (by have := (rdW0 hrc).sa (i := M) (c := cc) (s := 1) (by rw [bs_length]; omega) w' (hw.sub (List.nil_sublist _)); rwa [Nat.mul_one, ← bs_drop] at this)) (hm := by rw [List.length_drop, Int.toNat_natCast])) <| r_y 6 rfl (y_lda (b := b4) (cs := (bs k).toArray) (hl := hzn hk)) <| r_y 7 rfl (y_lda (b := b5) (cs := (bs n).toArray) (hl := hzn hn)) <| r_y 8 rfl y_mv <| r_y 9 rfl y_mv <| ?_
  rw [Int.toNat_natCast]
  refine r_W 10 rfl <| s_gives (fun w' hw => by
    have h9 := r6_Tag_ok w' ha ca hc cc k n h (c.take M) hk hn (hrh.st hw) (by have := (hrc.st hw).take M; rwa [← bs_take] at this) hlh (by omega)
    rw [htl] at h9
    exact h9) (fun y _ => ?_)
  obtain ⟨ta, tc⟩ := y
  refine r_kl <| r_y 11 rfl (y_b2s (q := tg k n h (c.take M)) (hr := rdR (.head _)) (hm := tg_length _ _ _ _)) <| r_y 12 rfl (y_neqs (a := sb (c.drop M)) (b := sb (tg k n h (c.take M)))) <| ?_
  rw [decide_eq_false (show ¬ sb (c.drop M) = sb (tg k n h (c.take M)) from fun h => hne (sb_inj.1 h))]
  refine r_E <| q_then <| c_t <| c_seq <| c_reg <| s_y y_as <| s_y y_as <| s_nil <| q_then <| c_ret <| q_ret <| ?_
  exact ret2 Tryd.results31 rv_t rv_t fun w' hw => ⟨rfl, hw.sub (List.nil_sublist _)⟩
theorem r6_Open_yes (hrc : Rd w ca (bs c)) (hcc : c.length ≤ cc) (hyes : opOk k n h c = true) :
    Gives Tryd.prog 31 [.agg (bs k).toArray, .agg (bs n).toArray, .slice ha h.length hc, .slice ca c.length cc] w [] (fun y : Option Addr × Nat => .tuple #[.slice y.1 (opB k n h c).length y.2, I 0]) (fun y => [.row y.1 y.2 5 1 (opB k n h c).length (bs (opB k n h c))]) (fun _ => True) := by
  have hob : opB k n h c = strm k n (c.take (c.length - 16)) := by unfold opB; rw [if_pos hyes]
  obtain ⟨M, hM⟩ : ∃ M, c.length - 16 = M := ⟨_, rfl⟩
  unfold opOk at hyes
  simp only [Bool.and_eq_true, decide_eq_true_eq] at hyes
  obtain ⟨h1, h2, h3⟩ := hyes
  rw [hM] at h3 hob
  have htl : (c.take M).length = M := by rw [List.length_take]; omega
  rw [hob, strm_length, htl]
  refine enter Tryd.func31 Tryd.ntmps31 ?_
  refine c_seq <| c_reg <| s_box rfl fun b4 => s_box rfl fun b5 => s_y y_as <| s_y y_as <| s_nil <| q_then <| c_seq <| c_seq <| c_reg <| s_y y_mv <| s_y y_len <| s_kf (y_lss (p := ((c.length : Nat) : Int)) (q := 16)) (by omega) <| s_y y_mv <| s_y y_mv <| s_y y_len <| s_kf (y_gtr (p := ((c.length : Nat) : Int)) (q := 65552)) (by omega) <| s_y y_pk <| s_nil <| q_then <| c_f <| c_skip <| q_then <| c_seq <| c_reg <| s_y y_mv <| s_y y_mv <| s_y y_len <| s_y (y_sub (p := ((c.length : Nat) : Int)) (q := 16)) <| ?_
  rw [show ((c.length : Nat) : Int) - 16 = ((M : Nat) : Int) by omega]
  refine s_y (y_slh (j := ((M : Nat) : Int))) <| s_y y_as <| s_nil <| q_then <| c_seq <| c_seq <| c_regL [.blk b5 (.cells (bs n).toArray 45 (0, 0)), .blk b4 (.cells (bs k).toArray 32 (0, 0))] <| r_y 0 rfl y_mv <| r_y 1 rfl y_mv <| r_y 2 rfl y_len <| r_y 3 rfl (y_sub (p := ((c.length : Nat) : Int)) (q := 16)) <| ?_
  rw [show ((c.length : Nat) : Int) - 16 = ((M : Nat) : Int) by omega]
  refine r_y 4 rfl (y_sll (i := ((M : Nat) : Int))) <| r_y 5 rfl (y_b2s (q := c.drop M) (hr := fun w' hw => (by have := (rdW0 hrc).sa (i := M) (c := cc) (s := 1) (by rw [bs_length]; omega) w' (hw.sub (List.nil_sublist _)); rwa [Nat.mul_one, ← bs_drop] at this)) (hm := by rw [List.length_drop, Int.toNat_natCast])) <| r_y 6 rfl (y_lda (b := b4) (cs := (bs k).toArray) (hl := hzn hk)) <| r_y 7 rfl (y_lda (b := b5) (cs := (bs n).toArray) (hl := hzn hn)) <| r_y 8 rfl y_mv <| r_y 9 rfl y_mv <| ?_
  rw [Int.toNat_natCast]
  refine r_W 10 rfl <| s_gives (fun w' hw => by
    have h9 := r6_Tag_ok w' ha ca hc cc k n h (c.take M) hk hn (hrh.st hw) (by have := (hrc.st hw).take M; rwa [← bs_take] at this) hlh (by omega)
    rw [htl] at h9
    exact h9) (fun y _ => ?_)
  obtain ⟨ta, tc⟩ := y
  refine r_kl <| r_y 11 rfl (y_b2s (q := tg k n h (c.take M)) (hr := rdR (.head _)) (hm := tg_length _ _ _ _)) <| r_y 12 rfl (y_neqs (a := sb (c.drop M)) (b := sb (tg k n h (c.take M)))) <| ?_
  rw [decide_eq_true (show sb (c.drop M) = sb (tg k n h (c.take M)) by rw [h3])]
  refine r_E <| q_then <| c_f <| c_skip <| q_then <| c_seq <| c_reg <| s_y (y_lda (b := b4) (cs := (bs k).toArray) (hl := hzn hk)) <| s_y (y_lda (b := b5) (cs := (bs n).toArray) (hl := hzn hn)) <| s_y y_mv <| s_gives (fun w' hw => by
    have h9 := r6_Stream_ok w' ca cc k n (c.take M) hk hn (by have := (hrc.st hw).take M; rwa [← bs_take] at this) (by omega)
    rw [htl] at h9
    exact h9) (fun y _ => ?_)
  obtain ⟨ya, yc⟩ := y
  refine s_y y_ext <| s_y y_ext <| s_y y_as <| s_y y_as <| s_nil <| q_then <| c_ret <| ?_
  exact ret2 Tryd.results31 rv_t rv_t fun w' hw => ⟨(ya, yc), trivial, rfl, hw.sub (.cons_cons _ (List.nil_sublist _))⟩
end
end Go.Proofs.YtchpcabehchfjaaDoor
