/- The other statements on padding, as walks. -/
import Derived.Test.YtnkomkfciojglaaDoorLaw28
import Derived.Test.YtnkomkfciojglaaDoorRule
namespace Go.Proofs.YtnkomkfciojglaaDoor
open Go Eng

theorem zrow (q : List UInt8) (m : Nat) : bs q ++ repL m (Value.cells (.int .u8 0)).toList = bs (q ++ List.replicate m 0) := by
  rw [bs_append, ← repL_bs]; rfl
theorem zlen (q : List UInt8) (m : Nat) : q.length + m = (q ++ List.replicate m (0 : UInt8)).length := by simp

theorem plen_pred (n : Int) (h : ¬ pcl n = 0) : plen (pcl n - 1) < n + 4 := by
  have hb := pcl_bd n
  have h1 : pcl n = 1 ∨ pcl n = 2 ∨ pcl n = 3 ∨ pcl n = 4 ∨ pcl n = 5 := by omega
  have h2 : ∀ k : Int, pcl n = k → (k = 1 → 64 < n + 4) ∧ (k = 2 → 256 < n + 4) ∧ (k = 3 → 1024 < n + 4) ∧ (k = 4 → 4096 < n + 4) ∧ (k = 5 → 16384 < n + 4) := by
    intro k hk
    unfold pcl at hk
    repeat' split at hk
    all_goals omega
  have h3 := h2 _ rfl
  rcases h1 with h1 | h1 | h1 | h1 | h1 <;> rw [h1] at h3 ⊢ <;> simp [plen] at h3 ⊢ <;> omega

theorem PaddingBytesSpec_ok (w : World) (hg : LD w) (a : Option Addr) (c : Nat) (q : List UInt8) (z : Nat) (hr : Rd w a (bs q)) (hz : z < 65536) :
    Pure Tryd.prog 4 [.slice a q.length c, .int .u16 z] w (.bool true) := by
  refine enter Tryd.func4 Tryd.ntmps4 ?_
  refine c_seq <| c_reg <| s_y y_as <| s_nil <| q_then <| c_seq <| c_seq <| c_reg <| s_pure (fun w' hw => sane_ok w' (hg.st hw)) <| s_y y_not <| s_nil <| q_then <| c_f <| c_skip <| q_then <| c_seq <| c_seq <| c_reg <| s_y y_mv <| s_y y_len <| s_y y_gtr <| s_nil <| q_then <| c_ifd (fun h18 => ?_) (fun h18 => ?_)
  · refine c_seq <| c_reg <| s_y y_as <| s_nil <| q_then <| c_ret <| q_ret <| ?_
    exact ret1 Tryd.results4 rv_t fun w' hw => ⟨rfl, hw⟩
  · refine c_skip <| q_then <| c_seq <| c_reg <| s_bsl0 fun b19 => s_y y_mv <| s_app (m := q.length) (srcB (q := q) (rdW0 hr) rfl) (h1 := fun v hv => bs_one hv) fun a21 c21 h21 => s_y y_mv <| s_y y_cvn <| s_y y_rem <| ?_
    rw [List.nil_append, Nat.zero_add]
    refine s_apz (m := z % 3000) fun a25 c25 h25 => ?_
    rw [zrow, zlen]
    generalize hl : q ++ List.replicate (z % 3000) 0 = l
    have hll : l.length < 10000 := by rw [← hl, ← zlen]; omega
    refine s_y y_as <| s_nil <| q_then <| c_seq <| c_reg <| s_y y_mv <| s_gives (fun w' hw => padding_Pad_ok w' a25 c25 l (hg.st hw) (Res.rd (hw.own _ (.head _)).1) (by omega)) fun x1 _ => s_y y_mv <| s_y y_ext <| s_y y_ext <| s_y y_as <| s_y y_as <| s_nil <| q_then <| c_seq <| c_reg <| s_y y_mv <| s_gives (fun w' hw => ref28_Pad_ok w' a25 c25 l (Res.rd (hw.own _ (.tail _ (.head _))).1) (by omega)) fun x2 _ => s_y y_mv <| s_y y_ext <| s_y y_ext <| s_y y_as <| s_y y_as <| s_nil <| q_then <| c_seq <| c_reg <| s_y y_mv <| s_pure (fun w' hw => padding_Unpad_ok w' a25 c25 l (hg.st hw) (Res.rd (hw.own _ (.tail _ (.tail _ (.head _)))).1) (by omega) (by have := (hw.own _ (.tail _ (.tail _ (.head _)))).1.2.1; exact this)) <| s_y y_mv <| s_y y_ext <| s_y y_ext <| s_y y_as <| s_y y_as <| s_nil <| q_then <| c_seq <| c_reg <| s_y y_mv <| s_gives (fun w' hw => ref28_Unpad_ok w' a25 c25 l (Res.rd (hw.own _ (.tail _ (.tail _ (.head _)))).1) (by omega) (by have := (hw.own _ (.tail _ (.tail _ (.head _)))).1.2.1; exact this)) fun x4 _ => s_y y_mv <| s_y y_ext <| s_y y_ext <| s_y y_as <| s_y y_as <| s_nil <| q_then <| ?_
    refine c_seq <| c_reg <| s_y y_mv <| s_y (y_b2s (q := pad l)) <| s_y y_mv <| s_y (y_b2s (q := pad l)) <| s_kt y_eqls rfl <| s_y y_mv <| s_y y_mv <| s_y y_mv <| s_kt y_eql rfl <| s_y y_pk <| s_y y_mv <| s_y y_mv <| s_y (y_b2s (q := unpad l) (hr := fun w' hw => unpad_rd (Res.rd (hw.own _ (.tail _ (.tail _ (.tail _ (.head _))))).1))) <| s_y y_mv <| s_y (y_b2s (q := unpad l)) <| s_kt y_eqls rfl <| s_y y_pk <| s_y y_mv <| s_y y_mv <| s_y y_mv <| s_kt y_eql rfl <| s_y y_pk <| s_y y_as <| s_nil <| q_then <| c_ret <| ?_
    exact ret1 Tryd.results4 rv_t fun w' hw => ⟨rfl, hw.sub (List.nil_sublist _)⟩

theorem PaddingLeast_ok (w : World) (hg : LD w) (n m : Int) :
    Pure Tryd.prog 6 [I n, I m] w (.bool true) := by
  refine enter Tryd.func6 Tryd.ntmps6 ?_
  refine c_seq <| c_reg <| s_y y_as <| s_nil <| q_then <| c_seq <| c_seq <| c_reg <| s_pure (fun w' hw => sane_ok w' (hg.st hw)) <| s_y y_not <| s_nil <| q_then <| c_f <| c_skip <| q_then <| c_seq <| c_reg <| s_y y_mv <| s_pure (fun w' hw => padding_Class_ok w' n (hg.st hw)) <| s_y y_mv <| s_y y_ext <| s_y y_ext <| s_y y_as <| s_y y_as <| s_nil <| q_then <| c_seq <| c_reg <| s_y y_mv <| s_pure (fun w' hw => padding_Class_ok w' m (hg.st hw)) <| s_y y_mv <| s_y y_ext <| s_y y_ext <| s_y y_as <| s_y y_as <| s_nil <| q_then <| c_seq <| c_seq <| c_reg <| s_y y_mv <| s_y y_neq <| s_nil <| q_then <| c_ifn (fun h26 => ?_) (fun h26 => ?_)
  · have hbad : n < 0 ∨ 65532 < n := by
      by_cases h : n < 0 ∨ 65532 < n
      · exact h
      · exact absurd (by rw [clE, if_neg h]) h26
    refine c_seq <| c_reg <| s_y y_mv <| s_kt y_eql (by rw [clE, if_pos hbad]) <| s_y y_mv <| s_y y_mv <| s_ifd y_lss (fun h30 => s_y y_mv <| s_no <| s_no <| s_y y_pk <| ?_) (fun h30 => s_y y_mv <| s_y y_mv <| s_kt y_gtr (by omega) <| s_y y_pk <| ?_)
    all_goals
      refine s_y y_pk <| s_y y_as <| s_nil <| q_then <| c_ret <| q_ret <| ?_
      exact ret1 Tryd.results6 rv_t fun w' hw => ⟨rfl, hw⟩
  · have hok : ¬ (n < 0 ∨ 65532 < n) := by
      intro h
      rw [clE, if_pos h] at h26
      exact absurd h26 (by decide)
    have hv : clV n = pcl n := by rw [clV, if_neg hok]
    have hb := pcl_bd n
    have hpp := plen_pcl (n := n) (by omega) (by omega)
    rw [hv]
    have hl : lnV (pcl n) = plen (pcl n) := by rw [lnV, if_neg (by omega)]
    have hle : lnE (pcl n) = 0 := by rw [lnE, if_neg (by omega)]
    refine c_skip <| q_then <| c_seq <| c_reg <| s_y y_mv <| s_pure (fun w' hw => padding_Length_ok w' (pcl n) (hg.st hw)) <| ?_
    rw [hl, hle]
    have hmono : ∀ b : Bool, (b = decide (clE m = 0)) → b = true → n ≤ m → pcl n ≤ clV m := by
      intro b hb1 hb2 hnm
      rw [hb2] at hb1
      have h3 := of_decide_eq_true hb1.symm
      have hok2 : ¬ (m < 0 ∨ 65532 < m) := by
        intro h
        rw [clE, if_pos h] at h3
        exact absurd h3 (by decide)
      rw [clV, if_neg hok2]
      unfold pcl
      repeat' split
      all_goals omega
    refine s_y y_mv <| s_y y_ext <| s_y y_ext <| s_y y_as <| s_y y_as <| s_nil <| q_then <| c_seq <| c_seq <| c_reg <| s_y y_mv <| s_nf y_neq rfl <| s_y y_mv <| s_y y_mv <| s_kf y_lss (by omega) <| s_y y_pk <| s_y y_mv <| s_y y_mv <| s_kf y_gtr (by omega) <| s_y y_pk <| s_y y_mv <| s_y y_mv <| s_y y_mv <| s_y y_add <| s_kf y_lss (by omega) <| s_y y_pk <| s_y y_mv <| s_y y_mv <| ?_
    refine s_ifd y_eql (fun h60 => s_y y_mv <| s_y y_mv <| s_y y_mv <| s_ifd y_leq (fun h64 => s_y y_pk <| s_y y_mv <| s_y y_mv <| s_y y_mv <| s_kf y_gtr (by have := hmono _ rfl (decide_eq_true h60) h64; omega) <| s_y y_pk <| s_y y_pk <| ?_) (fun h64 => s_y y_pk <| s_y y_mv <| s_no <| s_no <| s_no <| s_y y_pk <| s_y y_pk <| ?_)) (fun h60 => s_y y_mv <| s_no <| s_no <| s_no <| s_y y_pk <| s_y y_mv <| s_no <| s_no <| s_no <| s_y y_pk <| s_y y_pk <| ?_)
    all_goals
      refine s_nil <| q_then <| c_f <| c_skip <| q_then <| c_seq <| c_seq <| c_reg <| s_y y_mv <| s_y y_eql <| s_nil <| q_then <| c_ifd (fun h73 => ?_) (fun h73 => ?_)
      · refine c_seq <| c_reg <| s_y y_as <| s_nil <| q_then <| c_ret <| q_ret <| ?_
        exact ret1 Tryd.results6 rv_t fun w' hw => ⟨rfl, hw⟩
      · have hlt := plen_pred n h73
        have hl1 : lnV (pcl n - 1) = plen (pcl n - 1) := by rw [lnV, if_neg (by omega)]
        have hle1 : lnE (pcl n - 1) = 0 := by rw [lnE, if_neg (by omega)]
        refine c_skip <| q_then <| c_seq <| c_reg <| s_y y_mv <| s_y y_sub <| s_pure (fun w' hw => padding_Length_ok w' (pcl n - 1) (hg.st hw)) <| ?_
        rw [hl1, hle1]
        refine s_y y_mv <| s_y y_ext <| s_y y_ext <| s_y y_as <| s_y y_as <| s_nil <| q_then <| c_seq <| c_reg <| s_y y_mv <| s_kt y_eql rfl <| s_y y_mv <| s_y y_mv <| s_y y_mv <| s_y y_add <| s_kt y_lss hlt <| s_y y_pk <| s_y y_as <| s_nil <| q_then <| c_ret <| ?_
        exact ret1 Tryd.results6 rv_t fun w' hw => ⟨rfl, hw⟩

theorem padE_zero {q : List UInt8} : padE q = 0 ↔ q.length ≤ 65532 := by
  unfold padE; split
  · exact ⟨fun h => absurd h (by decide), fun h => by omega⟩
  · exact ⟨fun _ => by omega, fun _ => rfl⟩
theorem unpE_zero {p : List UInt8} : unpE p = 0 ↔ unpOK p = true := by
  unfold unpE
  cases unpOK p <;> simp
theorem unp_bad {p : List UInt8} (h : ¬ unpE p = 0) : unpE p = 280 ∧ unpad p = [] := by
  rw [unpE_zero] at h
  simp [unpE, unpad, h]

theorem PaddingBack_ok (w : World) (hg : LD w) (a : Option Addr) (c : Nat) (q : List UInt8) (z : Nat) (hr : Rd w a (bs q)) (hz : z < 65536) :
    Pure Tryd.prog 5 [.slice a q.length c, .int .u16 z] w (.bool true) := by
  refine enter Tryd.func5 Tryd.ntmps5 ?_
  refine c_seq <| c_reg <| s_y y_as <| s_nil <| q_then <| c_seq <| c_seq <| c_reg <| s_pure (fun w' hw => sane_ok w' (hg.st hw)) <| s_y y_not <| s_nil <| q_then <| c_f <| c_skip <| q_then <| c_seq <| c_seq <| c_reg <| s_y y_mv <| s_y y_len <| s_y y_gtr <| s_nil <| q_then <| c_ifd (fun h18 => ?_) (fun h18 => ?_)
  · refine c_seq <| c_reg <| s_y y_as <| s_nil <| q_then <| c_ret <| q_ret <| ?_
    exact ret1 Tryd.results5 rv_t fun w' hw => ⟨rfl, hw⟩
  · refine c_skip <| q_then <| c_seq <| c_reg <| s_y y_mv <| s_gives (fun w' hw => padding_Pad_ok w' a c q (hg.st hw) (hr.st hw) (by omega)) fun x1 _ => s_y y_mv <| s_y y_ext <| s_y y_ext <| s_y y_as <| s_y y_as <| s_nil <| q_then <| c_join [(0, .slice a q.length c), (1, .int .u16 z)] [] ?_ ?_
    · refine c_seq <| c_reg <| s_y y_mv <| s_y y_eql <| s_nil <| q_then <| c_ifd (fun h25 => ?_) (fun h25 => ?_)
      · have hq := padE_zero.1 h25
        obtain ⟨u1, u2, u3⟩ := unpOK_pad hq
        have hpl := pad_length hq
        have hpb := plen_le (pcl q.length)
        refine c_seq <| c_reg <| s_y y_mv <| s_pure (fun w' hw => padding_Unpad_ok w' x1.1 x1.2 (pad q) (hg.st hw) (Res.rd (hw.own _ (.head _)).1) (by omega) (by have := (hw.own _ (.head _)).1.2.1; exact this)) <| s_y y_mv <| s_y y_ext <| s_y y_ext <| s_y y_as <| s_y y_as <| s_nil <| q_then <| c_seq <| c_reg <| s_y y_mv <| s_nf y_neq (unpE_zero.2 u1) <| s_y y_mv <| s_y y_mv <| s_y (y_b2s (q := unpad (pad q)) (hr := fun w' hw => unpad_rd (Res.rd (hw.own _ (.head _)).1))) <| s_y y_mv <| s_y (y_b2s (q := q)) <| s_nf y_neqs (by rw [u3]) <| s_y y_pk <| s_nil <| q_then <| c_f <| c_skip <| q_join ⟨rfl, rfl, trivial⟩ (List.nil_sublist _)
      · exact c_skip <| q_join ⟨rfl, rfl, trivial⟩ (List.nil_sublist _)
    · refine c_seq <| c_reg <| s_bsl0 fun b19 => s_y y_mv <| s_app (m := q.length) (srcB (q := q) (rdW0 hr) rfl) (h1 := fun v hv => bs_one hv) fun a21 c21 h21 => s_y y_mv <| s_y y_cvn <| s_y y_rem <| ?_
      rw [List.nil_append, Nat.zero_add]
      refine s_apz (m := z % 3000) fun a25 c25 h25 => ?_
      rw [zrow, zlen]
      generalize hl : q ++ List.replicate (z % 3000) 0 = l
      have hll : l.length < 100000 := by rw [← hl, ← zlen]; omega
      refine s_y y_as <| s_nil <| q_then <| c_seq <| c_reg <| s_y y_mv <| s_pure (fun w' hw => padding_Unpad_ok w' a25 c25 l (hg.st hw) (Res.rd (hw.own _ (.head _)).1) (by omega) (by have := (hw.own _ (.head _)).1.2.1; exact this)) <| s_y y_mv <| s_y y_ext <| s_y y_ext <| s_y y_as <| s_y y_as <| s_nil <| q_then <| c_seq <| c_seq <| c_reg <| s_y y_mv <| s_y y_neq <| s_nil <| q_then <| c_ifn (fun h53 => ?_) (fun h53 => ?_)
      · obtain ⟨e1, e2⟩ := unp_bad h53
        refine c_seq <| c_reg <| s_y y_mv <| s_kt y_eql e1 <| s_y y_mv <| s_y y_mv <| s_y y_len <| s_kt y_eql (by rw [e2]; rfl) <| s_y y_pk <| s_y y_as <| s_nil <| q_then <| c_ret <| q_ret <| ?_
        exact ret1 Tryd.results5 rv_t fun w' hw => ⟨rfl, hw.sub (List.nil_sublist _)⟩
      · have hok := unpE_zero.1 h53
        obtain ⟨u1, u2⟩ := pad_unpad hok
        have u3 := (unpOK_bd hok).1
        refine c_skip <| q_then <| c_seq <| c_reg <| s_y y_mv <| s_gives (fun w' hw => padding_Pad_ok w' (unpA l a25) (unpad l).length (unpad l) (hg.st hw) (unpad_rd (Res.rd (hw.own _ (.head _)).1)) (by omega)) fun x5 _ => s_y y_mv <| s_y y_ext <| s_y y_ext <| s_y y_as <| s_y y_as <| s_nil <| q_then <| c_seq <| c_reg <| s_y y_mv <| s_kt y_eql (padE_zero.2 (by omega)) <| s_y y_mv <| s_y y_mv <| s_y (y_b2s (q := pad (unpad l))) <| s_y y_mv <| s_y (y_b2s (q := l)) <| s_kt y_eqls (by rw [u2]) <| s_y y_pk <| s_y y_as <| s_nil <| q_then <| c_ret <| ?_
        exact ret1 Tryd.results5 rv_t fun w' hw => ⟨rfl, hw.sub (List.nil_sublist _)⟩

theorem plen_inj {i j : Int} (hi : 0 ≤ i ∧ i < 6) (hj : 0 ≤ j ∧ j < 6) : decide (plen i = plen j) = decide (i = j) := by
  have h1 : i = 0 ∨ i = 1 ∨ i = 2 ∨ i = 3 ∨ i = 4 ∨ i = 5 := by omega
  have h2 : j = 0 ∨ j = 1 ∨ j = 2 ∨ j = 3 ∨ j = 4 ∨ j = 5 := by omega
  rcases h1 with rfl | rfl | rfl | rfl | rfl | rfl <;> rcases h2 with rfl | rfl | rfl | rfl | rfl | rfl <;> decide

theorem clE_pad (q : List UInt8) : clE q.length = padE q := by
  unfold clE padE
  by_cases h : 65532 < q.length
  · rw [if_pos (.inr (by omega)), if_pos h]
  · rw [if_neg (by omega), if_neg h]

theorem PaddingLengths_ok (w : World) (hg : LD w) (a : Option Addr) (c : Nat) (q : List UInt8) (hr : Rd w a (bs q)) (hq1 : q.length < 9223372036854775807) (a' : Option Addr) (c' : Nat) (q' : List UInt8) (hr' : Rd w a' (bs q')) (hq2 : q'.length < 9223372036854775807) :
    Pure Tryd.prog 7 [.slice a q.length c, .slice a' q'.length c'] w (.bool true) := by
  refine enter Tryd.func7 Tryd.ntmps7 ?_
  refine c_seq <| c_reg <| s_y y_as <| s_nil <| q_then <| c_seq <| c_seq <| c_reg <| s_pure (fun w' hw => sane_ok w' (hg.st hw)) <| s_y y_not <| s_nil <| q_then <| c_f <| c_skip <| q_then <| c_seq <| c_seq <| c_reg <| s_y y_mv <| s_y y_len <| s_ifd y_gtr (fun h19 => ?_) (fun h19 => ?_)
  · refine s_y y_mv <| s_no <| s_no <| s_no <| s_y y_pk <| s_nil <| q_then <| c_t <| c_seq <| c_reg <| s_y y_as <| s_nil <| q_then <| c_ret <| q_ret <| ?_
    exact ret1 Tryd.results7 rv_t fun w' hw => ⟨rfl, hw⟩
  · refine s_y y_mv <| s_y y_mv <| s_y y_len <| s_y y_gtr <| s_y y_pk <| s_nil <| q_then <| c_ifd (fun h24 => ?_) (fun h24 => ?_)
    · refine c_seq <| c_reg <| s_y y_as <| s_nil <| q_then <| c_ret <| q_ret <| ?_
      exact ret1 Tryd.results7 rv_t fun w' hw => ⟨rfl, hw⟩
    · refine c_skip <| q_then <| c_seq <| c_reg <| s_y y_mv <| s_gives (fun w' hw => padding_Pad_ok w' a c q (hg.st hw) (hr.st hw) (by omega)) fun x1 _ => s_y y_mv <| s_y y_ext <| s_y y_ext <| s_y y_as <| s_y y_as <| s_nil <| q_then <| c_seq <| c_reg <| s_y y_mv <| s_gives (fun w' hw => padding_Pad_ok w' a' c' q' (hg.st hw) (Rd.st hr' (hw.sub (List.nil_sublist _))) (by omega)) fun x2 _ => s_y y_mv <| s_y y_ext <| s_y y_ext <| s_y y_as <| s_y y_as <| s_nil <| q_then <| c_seq <| c_reg <| s_y y_mv <| s_y y_len <| s_pure (fun w' hw => padding_Class_ok w' q.length (hg.st hw)) <| s_y y_mv <| s_y y_ext <| s_y y_ext <| s_y y_as <| s_y y_as <| s_nil <| q_then <| c_seq <| c_reg <| s_y y_mv <| s_y y_len <| s_pure (fun w' hw => padding_Class_ok w' q'.length (hg.st hw)) <| s_y y_mv <| s_y y_ext <| s_y y_ext <| s_y y_as <| s_y y_as <| s_nil <| q_then <| c_seq <| c_seq <| c_reg <| s_y y_mv <| s_y y_mv <| s_nf y_neq (clE_pad q).symm <| s_y y_mv <| s_y y_mv <| s_y y_mv <| s_nf y_neq (clE_pad q').symm <| s_y y_pk <| s_nil <| q_then <| c_f <| c_skip <| q_then <| c_seq <| c_seq <| c_reg <| s_y y_mv <| s_ifn y_neq (fun h56 => ?_) (fun h56 => ?_)
      · have h1 : 65532 < q.length := by rw [padE_zero] at h56; omega
        refine s_y y_mv <| s_no <| s_no <| s_y y_pk <| s_nil <| q_then <| c_t <| c_seq <| c_reg <| s_y y_mv <| s_y y_len <| s_kt y_gtr (by omega) <| s_y y_mv <| s_no <| s_no <| s_no <| s_y y_pk <| s_y y_as <| s_nil <| q_then <| c_ret <| q_ret <| ?_
        exact ret1 Tryd.results7 rv_t fun w' hw => ⟨rfl, hw.sub (List.nil_sublist _)⟩
      · have h1 := padE_zero.1 h56
        refine s_y y_mv <| s_y y_mv <| s_y y_neq <| s_y y_pk <| s_nil <| q_then <| c_ifn (fun h60 => ?_) (fun h60 => ?_)
        · have h2 : 65532 < q'.length := by rw [padE_zero] at h60; omega
          refine c_seq <| c_reg <| s_y y_mv <| s_y y_len <| s_kf y_gtr (by omega) <| s_y y_mv <| s_y y_mv <| s_y y_len <| s_kt y_gtr (by omega) <| s_y y_pk <| s_y y_as <| s_nil <| q_then <| c_ret <| q_ret <| ?_
          exact ret1 Tryd.results7 rv_t fun w' hw => ⟨rfl, hw.sub (List.nil_sublist _)⟩
        · have h2 := padE_zero.1 h60
          have p1 := pad_length h1
          have p2 := pad_length h2
          have b1 := pcl_bd q.length
          have b2 := pcl_bd q'.length
          have v1 : clV q.length = pcl q.length := by rw [clV, if_neg (by omega)]
          have v2 : clV q'.length = pcl q'.length := by rw [clV, if_neg (by omega)]
          have l1 : lnV (pcl q.length) = plen (pcl q.length) := by rw [lnV, if_neg (by omega)]
          have l2 : lnE (pcl q.length) = 0 := by rw [lnE, if_neg (by omega)]
          rw [v1, v2]
          refine c_skip <| q_then <| c_seq <| c_reg <| s_y y_mv <| s_pure (fun w' hw => padding_Length_ok w' (pcl q.length) (hg.st hw)) <| ?_
          rw [l1, l2]
          refine s_y y_mv <| s_y y_ext <| s_y y_ext <| s_y y_as <| s_y y_as <| s_nil <| q_then <| c_seq <| c_reg <| s_y y_mv <| s_kt y_eql rfl <| s_y y_mv <| s_y y_mv <| s_y y_len <| s_y y_mv <| s_kt y_eql p1 <| s_y y_pk <| s_y y_mv <| s_y y_mv <| s_y y_len <| s_y y_mv <| s_y y_len <| s_y y_eql <| s_y y_mv <| s_y y_mv <| s_y y_eql <| s_y y_eqlb <| s_y y_pk <| s_y y_as <| s_nil <| q_then <| c_ret <| ?_
          exact ret1 Tryd.results7 rv_t fun w' hw => ⟨by rw [p1, p2, plen_inj b1 b2]; simp, hw.sub (List.nil_sublist _)⟩

theorem pad_get {q : List UInt8} (h : q.length ≤ 65532) (i : Nat) : (pad q).getD i 0 = if i < 4 then (be4 q.length).getD i 0 else (q.getD (i - 4) 0) := by
  have hl : (be4 q.length).length = 4 := rfl
  rw [pad_app h, List.append_assoc]
  simp only [List.getD_eq_getElem?_getD]
  split
  · rename_i hi
    rw [List.getElem?_append_left (by omega)]
  · rename_i hi
    rw [List.getElem?_append_right (by omega), hl]
    rcases Nat.lt_or_ge (i - 4) q.length with h9 | h9
    · rw [List.getElem?_append_left h9]
    · rw [List.getElem?_append_right h9, List.getElem?_eq_none h9, List.getElem?_replicate]
      split <;> rfl
theorem pad_num {q : List UInt8} (h : q.length ≤ 65532) : (((((pad q).getD 0 0).toNat * 2 ^ 24 ||| ((pad q).getD 1 0).toNat * 2 ^ 16) ||| ((pad q).getD 2 0).toNat * 2 ^ 8) ||| ((pad q).getD 3 0).toNat) = q.length := by
  rw [pad_get h, pad_get h, pad_get h, pad_get h]
  have e0 : ((be4 q.length).getD 0 0).toNat = 0 := by show (UInt8.ofNat (q.length / 2 ^ 24)).toNat = 0; rw [UInt8.toNat_ofNat']; omega
  have e1 : ((be4 q.length).getD 1 0).toNat = 0 := by show (UInt8.ofNat (q.length / 2 ^ 16)).toNat = 0; rw [UInt8.toNat_ofNat']; omega
  have e2 : ((be4 q.length).getD 2 0).toNat = q.length / 256 := by show (UInt8.ofNat (q.length / 2 ^ 8)).toNat = _; rw [UInt8.toNat_ofNat']; omega
  have e3 : ((be4 q.length).getD 3 0).toNat = q.length % 256 := by show (UInt8.ofNat q.length).toNat = _; rw [UInt8.toNat_ofNat']
  rw [if_pos (by omega), if_pos (by omega), if_pos (by omega), if_pos (by omega), e0, e1, e2]
  rw [show (0 ||| 0 ||| q.length / 256 * 2 ^ 8) = q.length / 256 * 2 ^ 8 by simp]
  have := or_byte (q.length / 256) ((be4 q.length).getD 3 0)
  rw [this, e3]
  omega

theorem PaddingShape_ok (w : World) (hg : LD w) (a : Option Addr) (c : Nat) (q : List UInt8) (hr : Rd w a (bs q)) (hq1 : q.length < 9223372036854775807) :
    Pure Tryd.prog 8 [.slice a q.length c] w (.bool true) := by
  refine enter Tryd.func8 Tryd.ntmps8 ?_
  refine c_seq <| c_reg <| s_y y_as <| s_nil <| q_then <| c_seq <| c_seq <| c_reg <| s_pure (fun w' hw => sane_ok w' (hg.st hw)) <| s_y y_not <| s_nil <| q_then <| c_f <| c_skip <| q_then <| c_seq <| c_seq <| c_reg <| s_y y_mv <| s_y y_len <| s_y y_gtr <| s_nil <| q_then <| c_ifd (fun h11 => ?_) (fun h11 => ?_)
  · refine c_seq <| c_reg <| s_y y_as <| s_nil <| q_then <| c_ret <| q_ret <| ?_
    exact ret1 Tryd.results8 rv_t fun w' hw => ⟨rfl, hw⟩
  · have hq : q.length ≤ 65532 := by omega
    have hpl := pad_length hq
    have hpp := plen_pcl (n := q.length) (by omega) (by omega)
    have hnum := pad_num hq
    refine c_skip <| q_then <| c_seq <| c_reg <| s_y y_mv <| s_gives (fun w' hw => padding_Pad_ok w' a c q (hg.st hw) (hr.st hw) (by omega)) fun x1 _ => ?_
    rw [padE_zero.2 hq]
    refine s_y y_mv <| s_y y_ext <| s_y y_ext <| s_y y_as <| s_y y_as <| s_nil <| q_then <| c_seq <| c_reg <| s_y y_mv <| s_y y_len <| s_y y_as <| s_nil <| q_then <| c_row fun hx2 _ => ?_
    have hpb := plen_le (pcl q.length)
    have e4 : (4 : Int).toNat = 4 := rfl
    have e5 : (4 + (q.length : Int)).toNat = 4 + q.length := by omega
    have hmid : ((pad q).drop 4).take q.length = q := by rw [pad_app hq, List.append_assoc, List.drop_left' (show (be4 q.length).length = 4 from rfl)]; exact List.take_left' rfl
    have hz : ∀ i, 4 + q.length ≤ i → (pad q).getD i 0 = 0 := by
      intro i hi
      rw [pad_get hq, if_neg (by omega), List.getD_eq_getElem?_getD, List.getElem?_eq_none (by omega)]; rfl
    generalize hp : pad q = p at *
    have b0 := (p.getD 0 0).toNat_lt
    have b1 := (p.getD 1 0).toNat_lt
    have b2 := (p.getD 2 0).toNat_lt
    have b3 := (p.getD 3 0).toNat_lt
    refine c_seq <| c_seq <| c_regd <| d_y y_mv <| d_nf y_neq rfl <| d_y y_mv <| d_y y_mv <| d_y y_len <| d_y y_mv <| d_y y_add <| d_kf y_lss (by omega) <| d_y y_pk <| d_y y_mv <| d_y y_mv <| d_y y_mv <| d_y y_add <| d_y y_sllh <| d_y (y_b2s (q := (p.drop 4).take q.length) (hr := ?hr) (hm := ?hm)) <| d_y y_mv <| d_y (y_b2s (q := q)) <| d_nf y_neqs (by rw [hmid]) <| d_y y_pk <| d_y y_mv <| d_y y_mv <| d_y (y_ixs1 (xs := bs p)) <| d_y (y_ldb (q := p) (i := 0)) <| d_y y_cvb <| d_y (y_shln 24) <| d_y y_mv <| d_y (y_ixs1 (xs := bs p)) <| d_y (y_ldb (q := p) (i := 1)) <| d_y y_cvb <| d_y (y_shln 16) <| d_y y_ori <| d_y y_mv <| d_y (y_ixs1 (xs := bs p)) <| d_y (y_ldb (q := p) (i := 2)) <| d_y y_cvb <| d_y (y_shln 8) <| d_y (y_ori (hp := ?g1)) <| d_y y_mv <| d_y (y_ixs1 (xs := bs p)) <| d_y (y_ldb (q := p) (i := 3)) <| d_y y_cvb <| d_y (y_ori (hp := ?g2)) <| d_y y_mv <| d_nf y_neq (by rw [hnum]) <| d_y y_pk <| d_nil <| q_then <| c_f <| c_skip <| q_then <| c_seq <| c_seq <| c_reg <| s_y y_mv <| s_y y_add <| s_y y_as <| s_nil <| q_then <| c_block <| ?_
    case hm => rw [hmid, e5, e4]; omega
    case hr =>
      rw [bs_take, bs_drop, e4]
      exact (RdS.sa (i := 4) (c := x1.2) (s := 1) (xs := bs p) (rdR (by repeat (first | exact .head _ | apply List.Mem.tail))) (by rw [bs_length]; omega)).take _
    case g1 =>
      exact Nat.or_lt_two_pow (n := 62) (by omega) (by omega)
    case g2 =>
      exact Nat.or_lt_two_pow (n := 62) (Nat.or_lt_two_pow (n := 62) (by omega) (by omega)) (by omega)
    refine c_loop (fun k : Nat => [(3, .slice x1.1 p.length x1.2), (6, I k)]) (fun _ => [.row x1.1 x1.2 5 1 p.length (bs p)]) (fun k => 4 + q.length ≤ k ∧ k ≤ p.length) (fun k => p.length - k) (4 + q.length) (by omega) ⟨rfl, rfl, trivial⟩ (List.Sublist.refl _) ?_
    rintro k ⟨hk, hk2⟩
    refine c_seq <| c_seq <| c_reg <| s_y y_mv <| s_y y_mv <| s_y y_len <| s_y y_lss <| s_nil <| q_then <| c_ifd (fun h69 => ?_) (fun h69 => ?_)
    · have hzk := hz k hk
      refine c_skip <| q_then <| c_seq <| c_block <| c_seq <| c_reg <| s_y y_mv <| s_y y_mv <| s_y (y_ixs1 (xs := bs p)) <| s_y (y_ldb (q := p) (i := k)) <| s_nf y_neq (by rw [hzk]; rfl) <| s_nil <| q_then <| c_f <| c_skip <| q_nb <| q_then <| c_reg <| s_y y_mv <| s_y y_add <| s_y y_as <| s_nil <| q_round (k + 1) (by omega) (by omega) ⟨rfl, rfl, trivial⟩ (List.Sublist.refl _)
    · refine c_exit <| q_ex <| q_ex <| q_exb <| q_then <| c_seq <| c_reg <| s_y y_as <| s_nil <| q_then <| c_ret <| ?_
      exact ret1 Tryd.results8 rv_t fun w' hw => ⟨rfl, hw.sub (List.nil_sublist _)⟩

theorem xor_ne (x y : UInt8) (hy : y ≠ 0) : x ^^^ y ≠ x := by
  intro h
  apply hy
  have h2 : x ^^^ (x ^^^ y) = x ^^^ x := by rw [h]
  simpa [← UInt8.xor_assoc] using h2

/-- one byte of padded bytes changed -/
theorem padding_changed (q : List UInt8) (hq : q.length ≤ 65532) (i : Nat) (y : UInt8) (hy : y ≠ 0) (hi : i < (pad q).length) :
    (¬ unpE ((pad q).set i ((pad q).getD i 0 ^^^ y)) = 0 → i < 4 ∨ 4 + q.length ≤ i) ∧
    (unpE ((pad q).set i ((pad q).getD i 0 ^^^ y)) = 0 → i < 4 + q.length ∧ unpad ((pad q).set i ((pad q).getD i 0 ^^^ y)) ≠ q) := by
  have hne : (pad q).set i ((pad q).getD i 0 ^^^ y) ≠ pad q := by
    intro h
    have h2 : ((pad q).set i ((pad q).getD i 0 ^^^ y)).getD i 0 = (pad q).getD i 0 := by rw [h]
    rw [List.getD_eq_getElem?_getD, List.getElem?_set_self hi] at h2
    exact xor_ne _ _ hy h2
  constructor
  · intro h
    rcases Nat.lt_or_ge i 4 with h4 | h4
    · exact .inl h4
    rcases Nat.lt_or_ge i (4 + q.length) with h5 | h5
    · exfalso
      apply h
      rw [unpE_zero]
      have hl : (be4 q.length).length = 4 := rfl
      have e : (pad q).set i ((pad q).getD i 0 ^^^ y) = pad (q.set (i - 4) ((pad q).getD i 0 ^^^ y)) := by
        rw [pad_app hq, pad_app (by simpa using hq), List.length_set, List.append_assoc, List.append_assoc, List.set_append_right _ _ (by omega)]
        rw [hl, List.set_append_left _ _ (by omega)]
      rw [e]
      exact (unpOK_pad (by simpa using hq)).1
    · exact .inr h5
  · intro h
    have hok := unpE_zero.1 h
    obtain ⟨u1, u2⟩ := pad_unpad hok
    have hno : unpad ((pad q).set i ((pad q).getD i 0 ^^^ y)) ≠ q := by
      intro e
      rw [e] at u2
      exact hne u2.symm
    refine ⟨?_, hno⟩
    rcases Nat.lt_or_ge i (4 + q.length) with h5 | h5
    · exact h5
    · exfalso
      apply hno
      have hb : bek ((pad q).set i ((pad q).getD i 0 ^^^ y)) 4 = q.length := by
        have : bek ((pad q).set i ((pad q).getD i 0 ^^^ y)) 4 = bek (pad q) 4 := by
          unfold bek
          rw [List.take_set_of_le (by omega)]
        rw [this]; exact (unpOK_pad hq).2.1
      rw [unpad, hok, hb]
      simp only [cond_true]
      rw [List.drop_set, if_neg (by omega), List.take_set_of_le (by omega)]
      have := (unpOK_pad hq).2.2
      rw [unpad, (unpOK_pad hq).1, (unpOK_pad hq).2.1] at this
      exact this

theorem PaddingChanged_ok (w : World) (hg : LD w) (a : Option Addr) (c : Nat) (q : List UInt8) (hr : Rd w a (bs q)) (hq1 : q.length < 9223372036854775807) (z : Nat) (hz : z < 18446744073709551616) (y : UInt8) :
    Pure Tryd.prog 9 [.slice a q.length c, U z, B y] w (.bool true) := by
  refine enter Tryd.func9 Tryd.ntmps9 ?_
  refine c_seq <| c_reg <| s_y y_as <| s_nil <| q_then <| c_seq <| c_seq <| c_reg <| s_pure (fun w' hw => sane_ok w' (hg.st hw)) <| s_y y_not <| s_nil <| q_then <| c_f <| c_skip <| q_then <| c_seq <| c_seq <| c_reg <| s_y y_mv <| s_y y_len <| s_ifd y_gtr (fun h17 => ?_) (fun h17 => ?_)
  · refine s_y y_mv <| s_no <| s_no <| s_y y_pk <| s_nil <| q_then <| c_t <| c_seq <| c_reg <| s_y y_as <| s_nil <| q_then <| c_ret <| q_ret <| ?_
    exact ret1 Tryd.results9 rv_t fun w' hw => ⟨rfl, hw⟩
  · refine s_y y_mv <| s_y y_mv <| s_y y_eql <| s_y y_pk <| s_nil <| q_then <| c_ifd (fun h21 => ?_) (fun h21 => ?_)
    · refine c_seq <| c_reg <| s_y y_as <| s_nil <| q_then <| c_ret <| q_ret <| ?_
      exact ret1 Tryd.results9 rv_t fun w' hw => ⟨rfl, hw⟩
    · have hq : q.length ≤ 65532 := by omega
      have hpl := pad_length hq
      have hpp := plen_pcl (n := q.length) (by omega) (by omega)
      have hpb := plen_le (pcl q.length)
      refine c_skip <| q_then <| c_seq <| c_reg <| s_y y_mv <| s_gives (fun w' hw => padding_Pad_ok w' a c q (hg.st hw) (hr.st hw) (by omega)) fun x1 _ => ?_
      rw [padE_zero.2 hq]
      have hy0 : y ≠ 0 := by intro h; rw [h] at h21; exact h21 rfl
      have hcore := fun i hi => padding_changed q hq i y hy0 hi
      generalize hp : pad q = p at *
      refine s_y y_mv <| s_y y_ext <| s_y y_ext <| s_y y_as <| s_y y_as <| s_nil <| q_then <| c_seq <| c_seq <| c_reg <| s_y y_mv <| s_nf y_neq rfl <| s_y y_mv <| s_y y_mv <| s_y y_len <| s_y y_mv <| s_y y_len <| s_y y_add <| s_kf y_lss (by omega) <| s_y y_pk <| s_nil <| q_then <| c_f <| c_skip <| q_then <| c_seq <| c_reg <| s_y y_mv <| s_y y_mv <| s_y y_len <| s_y y_cvn <| s_y (y_rem64 (p := z) (q := p.length)) <| s_y (y_cvn (p := (z % p.length : Nat)) (hw := by have := Nat.mod_lt z (show p.length > 0 by omega); exact wrap_i64 (by unfold R64; omega))) <| s_y y_as <| s_nil <| q_then <| c_seq <| ?_
      have hi := Nat.mod_lt z (show p.length > 0 by omega)
      generalize z % p.length = i at *
      have hcore := hcore i hi
      refine c_reg <| s_bsl0 fun b43 => s_y y_mv <| s_app (m := p.length) (srcB (q := p) (rdR (.tail _ (.head _))) rfl) (h1 := fun v hv => bs_one hv) fun a45 c45 h45 => ?_
      rw [List.nil_append, Nat.zero_add]
      refine s_y y_as <| s_nil <| q_then <| c_seq <| c_reg <| s_y y_mv <| s_y y_mv <| s_y (y_ixs1 (xs := bs p)) <| s_y (y_ldb (q := p) (i := i) (hr := rdR (.head _))) <| s_y y_mv <| s_y y_xor8 <| s_y (y_ixs1 (xs := bs p) (hr := rdR (.head _))) <| s_str (hi := by rw [bs_length, Int.toNat_natCast]; exact hi) ?_
      rw [show (bs p).set (i : Int).toNat (B (p.getD i 0 ^^^ y)) = bs (p.set i (p.getD i 0 ^^^ y)) by simp [bs, List.map_set]]
      rw [show p.length = (p.set i (p.getD i 0 ^^^ y)).length by simp] 
      generalize hp2 : p.set i (p.getD i 0 ^^^ y) = p2 at *
      have hp2l : p2.length = p.length := by rw [← hp2]; simp
      refine s_nil <| q_then <| c_seq <| c_reg <| s_y y_mv <| s_pure (fun w' hw => padding_Unpad_ok w' a45 c45 p2 (hg.st hw) (Res.rd (hw.own _ (.head _)).1) (by omega) (by have := (hw.own _ (.head _)).1.2.1; exact this)) <| s_y y_mv <| s_y y_ext <| s_y y_ext <| s_y y_as <| s_y y_as <| s_nil <| q_then <| c_seq <| c_seq <| c_reg <| s_y y_mv <| s_y y_neq <| s_nil <| q_then <| c_ifn (fun h59 => ?_) (fun h59 => ?_)
      · have e1 := (unp_bad h59).1
        have e2 := hcore.1 h59
        refine c_seq <| c_reg <| s_y y_mv <| s_kt y_eql e1 <| s_y y_mv <| s_y y_mv <| s_ifd y_lss (fun h63 => s_y y_mv <| s_no <| s_no <| s_no <| s_no <| s_no <| s_y y_pk <| ?_) (fun h63 => s_y y_mv <| s_y y_mv <| s_y y_mv <| s_y y_len <| s_y y_add <| s_kt y_geq (by omega) <| s_y y_pk <| ?_)
        all_goals
          refine s_y y_pk <| s_y y_as <| s_nil <| q_then <| c_ret <| q_ret <| ?_
          exact ret1 Tryd.results9 rv_t fun w' hw => ⟨rfl, hw.sub (List.nil_sublist _)⟩
      · have e2 := hcore.2 h59
        refine c_skip <| q_then <| c_seq <| c_reg <| s_y y_mv <| s_y y_mv <| s_y y_len <| s_y y_add <| s_kt y_lss (by omega) <| s_y y_mv <| s_y y_mv <| s_y (y_b2s (q := unpad p2) (hr := fun w' hw => unpad_rd (Res.rd (hw.own _ (.head _)).1))) <| s_y y_mv <| s_y (y_b2s (q := q)) <| s_nt y_neqs (fun h => e2.2 (sb_inj.1 h)) <| s_y y_pk <| s_y y_as <| s_nil <| q_then <| c_ret <| ?_
        exact ret1 Tryd.results9 rv_t fun w' hw => ⟨rfl, hw.sub (List.nil_sublist _)⟩
end Go.Proofs.YtnkomkfciojglaaDoor
