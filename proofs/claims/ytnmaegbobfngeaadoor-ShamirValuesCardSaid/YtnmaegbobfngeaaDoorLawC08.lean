/- The laws on shares: what is split. -/
import Derived.Test.YtnmaegbobfngeaaDoorLawB08
namespace Go.Proofs.YtnmaegbobfngeaaDoor
open Go Eng Gf Cod Sha
set_option maxRecDepth 100000
theorem hz32 {k : List UInt8} (h : k.length = 32) : (bs k).toArray.size = 32 := by simp [bs_length, h]
theorem splJoin (k : List UInt8) {x : Nat} (hx : x < 2305843009213688669) (n : Nat) {m : Nat} (h1 : n + 1 ≤ m) (h2 : m ≤ 64) : valQ (spl (cof k x n) m) 0 = x := by
  rw [valQ_hor (spl_vld (cof k x n) (by omega) h2) (cof k x n) (by rw [cof_length, spl_length]; exact h1) (spl_hor _ _) 0]
  exact hor_zero x _ hx
theorem splFits (k : List UInt8) (x n : Nat) {m : Nat} (h1 : 1 ≤ m) (h2 : m ≤ 64) : ftV (spl (cof k x n) m) (n + 1) = true :=
  ftV_hor (spl_vld _ h1 h2) (by omega) (cof k x n) (by rw [cof_length]; exact Nat.le_refl _) (spl_hor _ _)
theorem subJoin (k : List UInt8) {x : Nat} (hx : x < 2305843009213688669) (n : Nat) {m : Nat} {Z : List (Nat × Nat)} (hv : Vld Z) (hz : Z.Sublist (spl (cof k x n) m)) (h : n + 1 ≤ Z.length) : valQ Z 0 = x := by
  rw [valQ_hor hv (cof k x n) (by rw [cof_length]; exact h) (fun s hs => spl_hor _ _ s (hz.subset hs)) 0]
  exact hor_zero x _ hx
theorem subFits (k : List UInt8) (x n : Nat) {m : Nat} {Z : List (Nat × Nat)} (hv : Vld Z) (hz : Z.Sublist (spl (cof k x n) m)) : ftV Z (n + 1) = true :=
  ftV_hor hv (by omega) (cof k x n) (by rw [cof_length]; exact Nat.le_refl _) (fun s hs => spl_hor _ _ s (hz.subset hs))
theorem law_Restores_skip (w : World) (a n m : Int) (k : List UInt8) (ta : Option Addr) (tc : Nat) (t : List Bool) (hg : LS w) (hk : k.length = 32) (h1 : 12 < m) (h2 : m ≤ 64) : Pure Tryd.prog 4 [I a, I n, I m, .agg (bs k).toArray, .slice ta t.length tc] w (.bool true) := by
  refine enter Tryd.func4 Tryd.ntmps4 ?_
  refine c_seq <| c_reg <| s_box rfl fun b8 => s_y y_as <| s_nil <| q_then <| c_seq <| c_seq <| c_reg <| s_pure (fun w' hw => sane08_ok w' (hg.st hw)) <| s_y (v := .bool false) (y_not (b := true)) <| s_nil <| q_then <| c_f <| c_skip <| q_then <| c_seq <| c_seq <| c_reg <| s_y y_mv <| s_kt (y_gtr (p := m) (q := 12)) (by omega) <| s_y y_mv <| s_y y_mv <| s_kt (y_leq (p := m) (q := 64)) (by omega) <| s_y y_pk <| s_nil <| q_then <| c_t <| c_seq <| c_reg <| s_y y_as <| s_nil <| q_then <| c_ret <| q_ret <| ?_
  exact ret1 Tryd.results4 rv_t fun w' hw => ⟨rfl, hw.sub (List.nil_sublist _)⟩

theorem law_Restores_no (w : World) (a n m : Int) (k : List UInt8) (ta : Option Addr) (tc : Nat) (t : List Bool) (hg : LS w) (hk : k.length = 32) (h0 : ¬ (12 < m ∧ m ≤ 64)) (hno : sc a = false ∨ n < 1 ∨ m < n ∨ 64 < m) : Pure Tryd.prog 4 [I a, I n, I m, .agg (bs k).toArray, .slice ta t.length tc] w (.bool true) := by
  refine enter Tryd.func4 Tryd.ntmps4 ?_
  refine c_seq <| c_reg <| s_box rfl fun b8 => s_y y_as <| s_nil <| q_then <| c_seq <| c_seq <| c_reg <| s_pure (fun w' hw => sane08_ok w' (hg.st hw)) <| s_y (v := .bool false) (y_not (b := true)) <| s_nil <| q_then <| c_f <| c_skip <| q_then <| c_seq <| c_seq <| c_reg <| s_y y_mv <| s_ifd (y_gtr (p := m) (q := 12)) (fun h25 => ?_) (fun h25 => ?_)
  · refine s_y y_mv <| s_y y_mv <| s_kf (y_leq (p := m) (q := 64)) (by omega) <| s_y y_pk <| s_nil <| q_then <| c_f <| c_skip <| q_then <| c_seq <| c_reg <| s_y y_mv <| s_y y_mv <| s_y y_mv <| s_y (y_lda (b := b8) (cs := (bs k).toArray) (hl := (hz32 hk))) <| s_pure (fun w' hw => s_Split_no w' a n m k hno) <| s_y y_mv <| s_y y_ext <| s_y y_ext <| s_y y_as <| s_y y_as <| s_nil <| q_then <| c_seq <| c_seq <| c_reg <| s_y y_mv <| s_nt (y_neq (p := splE a) (q := 0)) (splE_ne a) <| s_nil <| q_then <| c_t <| c_seq <| c_reg <| s_y y_mv <| s_y y_len <| s_kt (y_eql (p := 0) (q := 0)) (by omega) <| s_y y_as <| s_nil <| q_then <| c_ret <| q_ret <| ?_
    exact ret1 Tryd.results4 rv_t fun w' hw => ⟨rfl, hw.sub (List.nil_sublist _)⟩
  · refine s_y y_mv <| s_no <| s_no <| s_y y_pk <| s_nil <| q_then <| c_f <| c_skip <| q_then <| c_seq <| c_reg <| s_y y_mv <| s_y y_mv <| s_y y_mv <| s_y (y_lda (b := b8) (cs := (bs k).toArray) (hl := (hz32 hk))) <| s_pure (fun w' hw => s_Split_no w' a n m k hno) <| s_y y_mv <| s_y y_ext <| s_y y_ext <| s_y y_as <| s_y y_as <| s_nil <| q_then <| c_seq <| c_seq <| c_reg <| s_y y_mv <| s_nt (y_neq (p := splE a) (q := 0)) (splE_ne a) <| s_nil <| q_then <| c_t <| c_seq <| c_reg <| s_y y_mv <| s_y y_len <| s_kt (y_eql (p := 0) (q := 0)) (by omega) <| s_y y_as <| s_nil <| q_then <| c_ret <| q_ret <| ?_
    exact ret1 Tryd.results4 rv_t fun w' hw => ⟨rfl, hw.sub (List.nil_sublist _)⟩

theorem law_Notices_skip (w : World) (a n m : Int) (k : List UInt8) (at' : Nat) (y : Int) (hg : LS w) (hk : k.length = 32) (h1 : 12 < m) (h2 : m ≤ 64) : Pure Tryd.prog 6 [I a, I n, I m, .agg (bs k).toArray, U at', I y] w (.bool true) := by
  refine enter Tryd.func6 Tryd.ntmps6 ?_
  refine c_seq <| c_reg <| s_box rfl fun b9 => s_y y_as <| s_nil <| q_then <| c_seq <| c_seq <| c_reg <| s_pure (fun w' hw => sane08_ok w' (hg.st hw)) <| s_y (v := .bool false) (y_not (b := true)) <| s_nil <| q_then <| c_f <| c_skip <| q_then <| c_seq <| c_seq <| c_reg <| s_y y_mv <| s_kt (y_gtr (p := m) (q := 12)) (by omega) <| s_y y_mv <| s_y y_mv <| s_kt (y_leq (p := m) (q := 64)) (by omega) <| s_y y_pk <| s_nil <| q_then <| c_t <| c_seq <| c_reg <| s_y y_as <| s_nil <| q_then <| c_ret <| q_ret <| ?_
  exact ret1 Tryd.results6 rv_t fun w' hw => ⟨rfl, hw.sub (List.nil_sublist _)⟩

theorem law_Notices_no (w : World) (a n m : Int) (k : List UInt8) (at' : Nat) (y : Int) (hg : LS w) (hk : k.length = 32) (h0 : ¬ (12 < m ∧ m ≤ 64)) (hno : sc a = false ∨ n < 1 ∨ m < n ∨ 64 < m) : Pure Tryd.prog 6 [I a, I n, I m, .agg (bs k).toArray, U at', I y] w (.bool true) := by
  refine enter Tryd.func6 Tryd.ntmps6 ?_
  refine c_seq <| c_reg <| s_box rfl fun b9 => s_y y_as <| s_nil <| q_then <| c_seq <| c_seq <| c_reg <| s_pure (fun w' hw => sane08_ok w' (hg.st hw)) <| s_y (v := .bool false) (y_not (b := true)) <| s_nil <| q_then <| c_f <| c_skip <| q_then <| c_seq <| c_seq <| c_reg <| s_y y_mv <| s_ifd (y_gtr (p := m) (q := 12)) (fun h22 => ?_) (fun h22 => ?_)
  · refine s_y y_mv <| s_y y_mv <| s_kf (y_leq (p := m) (q := 64)) (by omega) <| s_y y_pk <| s_nil <| q_then <| c_f <| c_skip <| q_then <| c_seq <| c_reg <| s_y y_mv <| s_y y_mv <| s_y y_mv <| s_y (y_lda (b := b9) (cs := (bs k).toArray) (hl := (hz32 hk))) <| s_pure (fun w' hw => s_Split_no w' a n m k hno) <| s_y y_mv <| s_y y_ext <| s_y y_ext <| s_y y_as <| s_y y_as <| s_nil <| q_then <| c_seq <| c_seq <| c_reg <| s_y y_mv <| s_nt (y_neq (p := splE a) (q := 0)) (splE_ne a) <| s_y y_mv <| s_no <| s_no <| s_no <| s_y y_pk <| s_y y_mv <| s_no <| s_no <| s_y y_pk <| s_y y_mv <| s_no <| s_no <| s_y y_pk <| s_nil <| q_then <| c_t <| c_seq <| c_reg <| s_y y_mv <| s_kf (y_eql (p := splE a) (q := 0)) (splE_ne a) <| s_y y_mv <| s_y y_mv <| s_y y_len <| s_kt (y_eql (p := 0) (q := 0)) (by omega) <| s_y y_pk <| s_y y_as <| s_nil <| q_then <| c_ret <| q_ret <| ?_
    exact ret1 Tryd.results6 rv_t fun w' hw => ⟨rfl, hw.sub (List.nil_sublist _)⟩
  · refine s_y y_mv <| s_no <| s_no <| s_y y_pk <| s_nil <| q_then <| c_f <| c_skip <| q_then <| c_seq <| c_reg <| s_y y_mv <| s_y y_mv <| s_y y_mv <| s_y (y_lda (b := b9) (cs := (bs k).toArray) (hl := (hz32 hk))) <| s_pure (fun w' hw => s_Split_no w' a n m k hno) <| s_y y_mv <| s_y y_ext <| s_y y_ext <| s_y y_as <| s_y y_as <| s_nil <| q_then <| c_seq <| c_seq <| c_reg <| s_y y_mv <| s_nt (y_neq (p := splE a) (q := 0)) (splE_ne a) <| s_y y_mv <| s_no <| s_no <| s_no <| s_y y_pk <| s_y y_mv <| s_no <| s_no <| s_y y_pk <| s_y y_mv <| s_no <| s_no <| s_y y_pk <| s_nil <| q_then <| c_t <| c_seq <| c_reg <| s_y y_mv <| s_kf (y_eql (p := splE a) (q := 0)) (splE_ne a) <| s_y y_mv <| s_y y_mv <| s_y y_len <| s_kt (y_eql (p := 0) (q := 0)) (by omega) <| s_y y_pk <| s_y y_as <| s_nil <| q_then <| c_ret <| q_ret <| ?_
    exact ret1 Tryd.results6 rv_t fun w' hw => ⟨rfl, hw.sub (List.nil_sublist _)⟩

theorem law_Values_skip (w : World) (a n m : Int) (k : List UInt8) (hg : LS w) (hk : k.length = 32) (h1 : 12 < m) (h2 : m ≤ 64) : Pure Tryd.prog 8 [I a, I n, I m, .agg (bs k).toArray] w (.bool true) := by
  refine enter Tryd.func8 Tryd.ntmps8 ?_
  refine c_seq <| c_reg <| s_box rfl fun b7 => s_y y_as <| s_nil <| q_then <| c_seq <| c_seq <| c_reg <| s_pure (fun w' hw => sane08_ok w' (hg.st hw)) <| s_y (v := .bool false) (y_not (b := true)) <| s_nil <| q_then <| c_f <| c_skip <| q_then <| c_seq <| c_seq <| c_reg <| s_y y_mv <| s_kt (y_gtr (p := m) (q := 12)) (by omega) <| s_y y_mv <| s_y y_mv <| s_kt (y_leq (p := m) (q := 64)) (by omega) <| s_y y_pk <| s_nil <| q_then <| c_t <| c_seq <| c_reg <| s_y y_as <| s_nil <| q_then <| c_ret <| q_ret <| ?_
  exact ret1 Tryd.results8 rv_t fun w' hw => ⟨rfl, hw.sub (List.nil_sublist _)⟩

theorem law_Values_no (w : World) (a n m : Int) (k : List UInt8) (hg : LS w) (hk : k.length = 32) (h0 : ¬ (12 < m ∧ m ≤ 64)) (hno : sc a = false ∨ n < 1 ∨ m < n ∨ 64 < m) : Pure Tryd.prog 8 [I a, I n, I m, .agg (bs k).toArray] w (.bool true) := by
  refine enter Tryd.func8 Tryd.ntmps8 ?_
  refine c_seq <| c_reg <| s_box rfl fun b7 => s_y y_as <| s_nil <| q_then <| c_seq <| c_seq <| c_reg <| s_pure (fun w' hw => sane08_ok w' (hg.st hw)) <| s_y (v := .bool false) (y_not (b := true)) <| s_nil <| q_then <| c_f <| c_skip <| q_then <| c_seq <| c_seq <| c_reg <| s_y y_mv <| s_ifd (y_gtr (p := m) (q := 12)) (fun h19 => ?_) (fun h19 => ?_)
  · refine s_y y_mv <| s_y y_mv <| s_kf (y_leq (p := m) (q := 64)) (by omega) <| s_y y_pk <| s_nil <| q_then <| c_f <| c_skip <| q_then <| c_seq <| c_reg <| s_y y_mv <| s_y y_mv <| s_y y_mv <| s_y (y_lda (b := b7) (cs := (bs k).toArray) (hl := (hz32 hk))) <| s_pure (fun w' hw => s_Split_no w' a n m k hno) <| s_y y_mv <| s_y y_ext <| s_y y_ext <| s_y y_as <| s_y y_as <| s_nil <| q_then <| c_seq <| c_seq <| c_reg <| s_y y_mv <| s_nt (y_neq (p := splE a) (q := 0)) (splE_ne a) <| s_nil <| q_then <| c_t <| c_seq <| c_reg <| s_y y_mv <| s_y y_len <| s_kt (y_eql (p := 0) (q := 0)) (by omega) <| s_y y_as <| s_nil <| q_then <| c_ret <| q_ret <| ?_
    exact ret1 Tryd.results8 rv_t fun w' hw => ⟨rfl, hw.sub (List.nil_sublist _)⟩
  · refine s_y y_mv <| s_no <| s_no <| s_y y_pk <| s_nil <| q_then <| c_f <| c_skip <| q_then <| c_seq <| c_reg <| s_y y_mv <| s_y y_mv <| s_y y_mv <| s_y (y_lda (b := b7) (cs := (bs k).toArray) (hl := (hz32 hk))) <| s_pure (fun w' hw => s_Split_no w' a n m k hno) <| s_y y_mv <| s_y y_ext <| s_y y_ext <| s_y y_as <| s_y y_as <| s_nil <| q_then <| c_seq <| c_seq <| c_reg <| s_y y_mv <| s_nt (y_neq (p := splE a) (q := 0)) (splE_ne a) <| s_nil <| q_then <| c_t <| c_seq <| c_reg <| s_y y_mv <| s_y y_len <| s_kt (y_eql (p := 0) (q := 0)) (by omega) <| s_y y_as <| s_nil <| q_then <| c_ret <| q_ret <| ?_
    exact ret1 Tryd.results8 rv_t fun w' hw => ⟨rfl, hw.sub (List.nil_sublist _)⟩

theorem law_Restores_few (w : World) (x n m : Nat) (k : List UInt8) (L : List (Nat × Nat)) (ta : Option Addr) (tc : Nat) (t : List Bool) (Z : List (Nat × Nat)) (hg : LS w) (hk : k.length = 32) (hx : x < 2305843009213688669) (hn : n + 1 ≤ m) (hm : m ≤ 12) (hL : spl (cof k x n) m = L) (hrt : Rd w ta (t.map Value.bool)) (hZ : chN L t = Z) (hlt : Z.length < n + 1) : Pure Tryd.prog 4 [I x, I (n + 1 : Nat), I m, .agg (bs k).toArray, .slice ta t.length tc] w (.bool true) := by
  have hlen : L.length = m := by rw [← hL]; exact spl_length _ _
  have hv : Vld L := by rw [← hL]; exact spl_vld _ (by omega) (by omega)
  have hj : valQ L 0 = x := by rw [← hL]; exact splJoin k hx n (by omega) (by omega)
  have hfl : ftV L (n + 1) = true := by rw [← hL]; exact splFits k x n (by omega) (by omega)
  refine enter Tryd.func4 Tryd.ntmps4 ?_
  refine c_seq <| c_reg <| s_box rfl fun b8 => s_y y_as <| s_nil <| q_then <| c_seq <| c_seq <| c_reg <| s_pure (fun w' hw => sane08_ok w' (hg.st hw)) <| s_y (v := .bool false) (y_not (b := true)) <| s_nil <| q_then <| c_f <| c_skip <| q_then <| c_seq <| c_seq <| c_reg <| s_y y_mv <| s_kf (y_gtr (p := m) (q := 12)) (by omega) <| s_y y_mv <| s_no <| s_no <| s_y y_pk <| s_nil <| q_then <| c_f <| c_skip <| q_then <| c_seq <| c_reg <| s_y y_mv <| s_y y_mv <| s_y y_mv <| s_y (y_lda (b := b8) (cs := (bs k).toArray) (hl := (hz32 hk))) <| s_gives (fun w' hw => s_Split_yes w' x n m k hk (hg.st hw) hx hn (by omega)) fun x35 _ => ?_
  rw [hL]
  refine s_row (fun hk35 _ => ?_) (hm := .head _)
  refine s_y y_mv <| s_y y_ext <| s_y y_ext <| s_y y_as <| s_y y_as <| s_nil <| q_then <| c_seq <| c_seq <| c_reg <| s_y y_mv <| s_nf (y_neq (p := 0) (q := 0)) (by omega) <| s_nil <| q_then <| c_f <| c_skip <| q_then <| c_seq <| c_reg <| s_y y_mv <| s_y y_mv <| s_gives (fun w' hw => chosen_ok w' x35.1 ta x35.2 tc m L t hlen (rdR (.head _) w' hw) (hrt.st hw) (by omega)) fun x45 _ => ?_
  rw [hZ]
  refine s_row (fun hk45 _ => ?_) (hm := .head _)
  refine s_y y_as <| s_nil <| q_then <| c_seq <| c_seq <| c_reg <| s_y y_mv <| s_y y_len <| s_y y_mv <| s_nf (y_neq (p := m) (q := m)) (by trivial) <| s_y y_mv <| s_y y_mv <| s_pure (fun w' hw => ckW w' x35.1 x35.2 m L hv hlen (rdR (.tail _ (.head _)) w' hw)) <| s_nf (y_neq (p := 0) (q := 0)) (by omega) <| s_y y_pk <| s_nil <| q_then <| c_f <| c_skip <| q_then <| c_seq <| c_reg <| s_y y_mv <| s_pure (fun w' hw => jnW w' x35.1 x35.2 m L hv hlen (rdR (.tail _ (.head _)) w' hw)) <| ?_
  rw [hj]
  refine s_y y_mv <| s_y y_ext <| s_y y_ext <| s_y y_as <| s_y y_as <| s_nil <| q_then <| c_seq <| c_reg <| s_y y_mv <| s_y y_mv <| s_pure (fun w' hw => (by have h9 := ftW w' x35.1 x35.2 m L hv hlen (rdR (.tail _ (.head _)) w' hw) hk35 (n + 1) (by omega) (by omega); rw [hfl] at h9; exact h9)) <| s_y y_mv <| s_y y_ext <| s_y y_ext <| s_y y_as <| s_y y_as <| s_nil <| q_then <| c_seq <| c_seq <| c_reg <| s_y y_mv <| s_nf (y_neq (p := 0) (q := 0)) (by omega) <| s_y y_mv <| s_y y_mv <| s_nf (y_neq (p := 0) (q := 0)) (by omega) <| s_y y_pk <| s_y y_mv <| s_y y_mv <| s_y y_mv <| s_nf (y_neq (p := x) (q := x)) (by trivial) <| s_y y_pk <| s_y y_mv <| s_y y_mv <| s_y (v := .bool false) (y_not (b := true)) <| s_y y_pk <| s_nil <| q_then <| c_f <| c_skip <| q_then <| c_seq <| c_seq <| c_reg <| s_y y_mv <| s_y y_len <| s_y y_mv <| s_kt (y_lss (p := Z.length) (q := ((n + 1 : Nat) : Int))) (by omega) <| s_y y_mv <| s_no <| s_no <| s_y y_pk <| s_nil <| q_then <| c_t <| c_seq <| c_reg <| s_y y_as <| s_nil <| q_then <| c_ret <| q_ret <| ?_
  exact ret1 Tryd.results4 rv_t fun w' hw => ⟨rfl, hw.sub (List.nil_sublist _)⟩

theorem law_Restores_yes (w : World) (x n m : Nat) (k : List UInt8) (L : List (Nat × Nat)) (ta : Option Addr) (tc : Nat) (t : List Bool) (Z : List (Nat × Nat)) (hg : LS w) (hk : k.length = 32) (hx : x < 2305843009213688669) (hn : n + 1 ≤ m) (hm : m ≤ 12) (hL : spl (cof k x n) m = L) (hrt : Rd w ta (t.map Value.bool)) (hZ : chN L t = Z) (hlt : n + 1 ≤ Z.length) : Pure Tryd.prog 4 [I x, I (n + 1 : Nat), I m, .agg (bs k).toArray, .slice ta t.length tc] w (.bool true) := by
  have hlen : L.length = m := by rw [← hL]; exact spl_length _ _
  have hv : Vld L := by rw [← hL]; exact spl_vld _ (by omega) (by omega)
  have hj : valQ L 0 = x := by rw [← hL]; exact splJoin k hx n (by omega) (by omega)
  have hfl : ftV L (n + 1) = true := by rw [← hL]; exact splFits k x n (by omega) (by omega)
  have hsub : Z.Sublist (spl (cof k x n) m) := by rw [hL, ← hZ]; exact chN_sub _ _
  have hvz : Vld Z := hv.sub (by rw [← hL]; exact hsub) (by omega)
  have hjz : valQ Z 0 = x := subJoin k hx n hvz hsub hlt
  have hfz : ftV Z (n + 1) = true := subFits k x n hvz hsub
  refine enter Tryd.func4 Tryd.ntmps4 ?_
  refine c_seq <| c_reg <| s_box rfl fun b8 => s_y y_as <| s_nil <| q_then <| c_seq <| c_seq <| c_reg <| s_pure (fun w' hw => sane08_ok w' (hg.st hw)) <| s_y (v := .bool false) (y_not (b := true)) <| s_nil <| q_then <| c_f <| c_skip <| q_then <| c_seq <| c_seq <| c_reg <| s_y y_mv <| s_kf (y_gtr (p := m) (q := 12)) (by omega) <| s_y y_mv <| s_no <| s_no <| s_y y_pk <| s_nil <| q_then <| c_f <| c_skip <| q_then <| c_seq <| c_reg <| s_y y_mv <| s_y y_mv <| s_y y_mv <| s_y (y_lda (b := b8) (cs := (bs k).toArray) (hl := (hz32 hk))) <| s_gives (fun w' hw => s_Split_yes w' x n m k hk (hg.st hw) hx hn (by omega)) fun x35 _ => ?_
  rw [hL]
  refine s_row (fun hk35 _ => ?_) (hm := .head _)
  refine s_y y_mv <| s_y y_ext <| s_y y_ext <| s_y y_as <| s_y y_as <| s_nil <| q_then <| c_seq <| c_seq <| c_reg <| s_y y_mv <| s_nf (y_neq (p := 0) (q := 0)) (by omega) <| s_nil <| q_then <| c_f <| c_skip <| q_then <| c_seq <| c_reg <| s_y y_mv <| s_y y_mv <| s_gives (fun w' hw => chosen_ok w' x35.1 ta x35.2 tc m L t hlen (rdR (.head _) w' hw) (hrt.st hw) (by omega)) fun x45 _ => ?_
  rw [hZ]
  refine s_row (fun hk45 _ => ?_) (hm := .head _)
  refine s_y y_as <| s_nil <| q_then <| c_seq <| c_seq <| c_reg <| s_y y_mv <| s_y y_len <| s_y y_mv <| s_nf (y_neq (p := m) (q := m)) (by trivial) <| s_y y_mv <| s_y y_mv <| s_pure (fun w' hw => ckW w' x35.1 x35.2 m L hv hlen (rdR (.tail _ (.head _)) w' hw)) <| s_nf (y_neq (p := 0) (q := 0)) (by omega) <| s_y y_pk <| s_nil <| q_then <| c_f <| c_skip <| q_then <| c_seq <| c_reg <| s_y y_mv <| s_pure (fun w' hw => jnW w' x35.1 x35.2 m L hv hlen (rdR (.tail _ (.head _)) w' hw)) <| ?_
  rw [hj]
  refine s_y y_mv <| s_y y_ext <| s_y y_ext <| s_y y_as <| s_y y_as <| s_nil <| q_then <| c_seq <| c_reg <| s_y y_mv <| s_y y_mv <| s_pure (fun w' hw => (by have h9 := ftW w' x35.1 x35.2 m L hv hlen (rdR (.tail _ (.head _)) w' hw) hk35 (n + 1) (by omega) (by omega); rw [hfl] at h9; exact h9)) <| s_y y_mv <| s_y y_ext <| s_y y_ext <| s_y y_as <| s_y y_as <| s_nil <| q_then <| c_seq <| c_seq <| c_reg <| s_y y_mv <| s_nf (y_neq (p := 0) (q := 0)) (by omega) <| s_y y_mv <| s_y y_mv <| s_nf (y_neq (p := 0) (q := 0)) (by omega) <| s_y y_pk <| s_y y_mv <| s_y y_mv <| s_y y_mv <| s_nf (y_neq (p := x) (q := x)) (by trivial) <| s_y y_pk <| s_y y_mv <| s_y y_mv <| s_y (v := .bool false) (y_not (b := true)) <| s_y y_pk <| s_nil <| q_then <| c_f <| c_skip <| q_then <| c_seq <| c_seq <| c_reg <| s_y y_mv <| s_y y_len <| s_y y_mv <| s_kf (y_lss (p := Z.length) (q := ((n + 1 : Nat) : Int))) (by omega) <| s_y y_mv <| s_y y_mv <| s_kf (y_lss (p := ((n + 1 : Nat) : Int)) (q := 1)) (by omega) <| s_y y_pk <| s_nil <| q_then <| c_f <| c_skip <| q_then <| c_seq <| c_reg <| s_y y_mv <| s_pure (fun w' hw => jnW w' x45.1 x45.2 Z.length Z hvz rfl (rdR (.head _) w' hw)) <| ?_
  rw [hjz]
  refine s_y y_mv <| s_y y_ext <| s_y y_ext <| s_y y_as <| s_y y_as <| s_nil <| q_then <| c_seq <| c_reg <| s_y y_mv <| s_y y_mv <| s_pure (fun w' hw => (by have h9 := ftW w' x45.1 x45.2 Z.length Z hvz rfl (rdR (.head _) w' hw) hk45 (n + 1) (by omega) (by omega); rw [hfz] at h9; exact h9)) <| s_y y_mv <| s_y y_ext <| s_y y_ext <| s_y y_as <| s_y y_as <| s_nil <| q_then <| c_seq <| c_reg <| s_y y_mv <| s_kt (y_eql (p := 0) (q := 0)) (by omega) <| s_y y_mv <| s_y y_mv <| s_kt (y_eql (p := 0) (q := 0)) (by omega) <| s_y y_pk <| s_y y_mv <| s_y y_mv <| s_y y_mv <| s_kt (y_eql (p := x) (q := x)) (by trivial) <| s_y y_pk <| s_y y_mv <| s_y y_mv <| s_y y_pk <| s_y y_as <| s_nil <| q_then <| c_ret <| ?_
  exact ret1 Tryd.results4 rv_t fun w' hw => ⟨rfl, hw.sub (List.nil_sublist _)⟩

theorem law_Notices_out (w : World) (x n m : Nat) (k : List UInt8) (L : List (Nat × Nat)) (at' : Nat) (y : Int) (hg : LS w) (hk : k.length = 32) (hx : x < 2305843009213688669) (hn : n + 1 ≤ m) (hm : m ≤ 12) (hL : spl (cof k x n) m = L) (hno : m ≤ n + 1 ∨ y < 0 ∨ 2305843009213688669 ≤ y) : Pure Tryd.prog 6 [I x, I (n + 1 : Nat), I m, .agg (bs k).toArray, U at', I y] w (.bool true) := by
  have hlen : L.length = m := by rw [← hL]; exact spl_length _ _
  have hv : Vld L := by rw [← hL]; exact spl_vld _ (by omega) (by omega)
  refine enter Tryd.func6 Tryd.ntmps6 ?_
  refine c_seq <| c_reg <| s_box rfl fun b9 => s_y y_as <| s_nil <| q_then <| c_seq <| c_seq <| c_reg <| s_pure (fun w' hw => sane08_ok w' (hg.st hw)) <| s_y (v := .bool false) (y_not (b := true)) <| s_nil <| q_then <| c_f <| c_skip <| q_then <| c_seq <| c_seq <| c_reg <| s_y y_mv <| s_kf (y_gtr (p := m) (q := 12)) (by omega) <| s_y y_mv <| s_no <| s_no <| s_y y_pk <| s_nil <| q_then <| c_f <| c_skip <| q_then <| c_seq <| c_reg <| s_y y_mv <| s_y y_mv <| s_y y_mv <| s_y (y_lda (b := b9) (cs := (bs k).toArray) (hl := (hz32 hk))) <| s_gives (fun w' hw => s_Split_yes w' x n m k hk (hg.st hw) hx hn (by omega)) fun x32 _ => ?_
  rw [hL]
  refine s_row (fun hk32 _ => ?_) (hm := .head _)
  refine s_y y_mv <| s_y y_ext <| s_y y_ext <| s_y y_as <| s_y y_as <| s_nil <| q_then <| c_seq <| c_seq <| c_reg <| s_y y_mv <| s_nf (y_neq (p := 0) (q := 0)) (by omega) <| s_y y_mv <| s_y y_mv <| s_y y_mv <| s_ifd (y_leq (p := m) (q := ((n + 1 : Nat) : Int))) (fun h40 => ?_) (fun h40 => ?_)
  · refine s_y y_pk <| s_y y_mv <| s_no <| s_no <| s_y y_pk <| s_y y_mv <| s_no <| s_no <| s_y y_pk <| s_nil <| q_then <| c_t <| c_seq <| c_reg <| s_y y_mv <| s_kt (y_eql (p := 0) (q := 0)) (by omega) <| s_y y_mv <| s_no <| s_no <| s_no <| s_y y_pk <| s_y y_as <| s_nil <| q_then <| c_ret <| q_ret <| ?_
    exact ret1 Tryd.results6 rv_t fun w' hw => ⟨rfl, hw.sub (List.nil_sublist _)⟩
  · refine s_y y_pk <| s_y y_mv <| s_y y_mv <| s_ifd (y_lss (p := y) (q := 0)) (fun h44 => ?_) (fun h44 => ?_)
    · refine s_y y_pk <| s_y y_mv <| s_no <| s_no <| s_y y_pk <| s_nil <| q_then <| c_t <| c_seq <| c_reg <| s_y y_mv <| s_kt (y_eql (p := 0) (q := 0)) (by omega) <| s_y y_mv <| s_no <| s_no <| s_no <| s_y y_pk <| s_y y_as <| s_nil <| q_then <| c_ret <| q_ret <| ?_
      exact ret1 Tryd.results6 rv_t fun w' hw => ⟨rfl, hw.sub (List.nil_sublist _)⟩
    · refine s_y y_pk <| s_y y_mv <| s_y y_mv <| s_kt (y_geq (p := y) (q := 2305843009213688669)) (by omega) <| s_y y_pk <| s_nil <| q_then <| c_t <| c_seq <| c_reg <| s_y y_mv <| s_kt (y_eql (p := 0) (q := 0)) (by omega) <| s_y y_mv <| s_no <| s_no <| s_no <| s_y y_pk <| s_y y_as <| s_nil <| q_then <| c_ret <| q_ret <| ?_
      exact ret1 Tryd.results6 rv_t fun w' hw => ⟨rfl, hw.sub (List.nil_sublist _)⟩
end Go.Proofs.YtnmaegbobfngeaaDoor
