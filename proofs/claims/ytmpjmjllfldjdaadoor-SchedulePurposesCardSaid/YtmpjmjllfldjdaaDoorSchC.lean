/- The package schedule and its reference: Above, Ladder, Same. -/
import Derived.Test.YtmpjmjllfldjdaaDoorSchB
namespace Go.Proofs.YtmpjmjllfldjdaaDoor
open Go Eng Sha Cod

theorem sch_Above_ok (w : World) (k : List UInt8) (n : Int) (hg : LS2 w) (hk : k.length = 32) : Gives Tryd.prog 10 [.agg (bs k).toArray, I n] w [] (fun x : Option Addr × Nat => .tuple #[.slice x.1 (aboveL k n).length x.2, I (aboveE n)]) (fun x => [.row x.1 x.2 23 32 (aboveL k n).length (kcs (aboveL k n))]) (fun _ => True) := by
  refine enterM Tryd.func10 Tryd.ntmps10 ?_
  refine c_seq <| c_reg <| s_box rfl fun b2 => s_alloc fun b4 => s_y y_as <| s_nil <| q_then <| c_seq <| c_join [(1, I n), (2, .pointer (some ⟨b2, 0, none⟩)), (4, .pointer (some ⟨b4, 0, none⟩)), (12, .bool (decide (n < 0 ∨ 9 < n)))] [.blk b4 (.cells #[.slice none 0 0] 25 (0, 0)), .blk b2 (.cells (bs k).toArray 23 (0, 0))] ?_ ?_
  · refine c_reg <| s_y y_mv <| s_ifd (y_lss (p := n) (q := 0)) (fun h8 => ?_) (fun h8 => ?_)
    · refine s_y y_mv <| s_no <| s_no <| s_y y_pk <| s_nil <| q_join ⟨rfl, rfl, rfl, by rw [decide_eq_true (.inl h8)]; rfl, trivial⟩ (List.Sublist.refl _)
    · refine s_y y_mv <| s_y y_mv <| s_y (y_gtr (p := n) (q := 9)) <| s_y y_pk <| s_nil <| q_join ⟨rfl, rfl, rfl, by rw [show decide (n < 0 ∨ 9 < n) = decide (9 < n) from decide_eq_decide.2 ⟨fun h => h.elim (fun h => absurd h h8) id, .inr⟩]; rfl, trivial⟩ (List.Sublist.refl _)
  refine c_ifd (fun h12 => ?_) (fun h12 => ?_)
  · have e1 : aboveL k n = [] := aboveL_bad k h12
    have e2 : aboveE n = 1 := aboveE_bad h12
    rw [e1, e2]
    refine c_seq <| c_reg <| s_st (b := b4) (v := .slice none 0 0) (cs := #[.slice none 0 0]) (hl := Nat.zero_lt_one) ?_
    refine s_y y_as <| s_nil <| q_then <| c_ret <| q_ret <| ?_
    exact ret2M Tryd.results10 (rv_cf (v := .slice none 0 0)) rv_t fun w' hw => ⟨(none, 0), trivial, rfl, (hw.nilRow 23 32).sub (.cons_cons _ (List.nil_sublist _))⟩
  obtain ⟨m, rfl⟩ : ∃ m : Nat, n = (m : Int) := ⟨n.toNat, by omega⟩
  have e1 : aboveL k (m : Int) = rungs k (10 - m) := by unfold aboveL; rw [if_neg (by omega), if_neg (by omega), Int.toNat_natCast]
  have e2 : aboveE (m : Int) = 0 := by unfold aboveE; rw [if_neg (by omega), if_neg (by omega)]
  rw [e1, e2]
  refine c_skip <| q_then <| c_seq <| c_seq <| c_reg <| s_y (y_lda (b := b2) (cs := (bs k).toArray) (hl := hz32 hk)) <| s_y y_mv <| s_gives (fun w' hw => rising_ok w' k m) fun x _ => s_nil <| q_then <| ?_
  obtain ⟨bl, bk⟩ := x
  refine c_block <| c_nilrow 23 32 <| c_rangeN (σ := Option Addr × Nat) (fun x => [.row x.1 x.2 23 32 (rungs k (10 - m)).length (kcs (rungs k (10 - m))), .blk bl (.cells #[I 10] 3 (0, 0)), .blk bk (.cells (bs (pathN k (10 - m))).toArray 23 (0, 0)), .blk b4 (.cells #[.slice x.1 (rungs k (10 - m)).length x.2] 25 (0, 0)), .blk b2 (.cells (bs k).toArray 23 (0, 0))]) (fun _ => True) (fun fn tm Dk L hfr w' hw' => ?_) (fun Dk x _ => ?_)
  rotate_left
  · refine q_nb <| q_then <| c_seq <| c_reg <| s_y (y_ld (b := b4) (v := .slice x.1 (rungs k (10 - m)).length x.2)) <| s_st (b := b4) (v := .slice x.1 (rungs k (10 - m)).length x.2) (cs := #[.slice x.1 (rungs k (10 - m)).length x.2]) (hl := Nat.zero_lt_one) ?_
    refine s_y y_as <| s_nil <| q_then <| c_ret <| ?_
    exact ret2D Tryd.results10 (.head _) (rv_cf (b := b4) (v := .slice x.1 (rungs k (10 - m)).length x.2)) rv_t fun w' hw => ⟨x, trivial, rfl, hw.sub (.cons _ (.cons_cons _ (List.nil_sublist _)))⟩
  · have hps := (show St w [] w' (rsM L Dk _ bl bk b4 m k none 0 [] ++ [.blk b2 (.cells (bs k).toArray 23 (0, 0))]) from hw').has
    have hLS : ∀ w2 l2, St w' (keys (rsM L Dk _ bl bk b4 m k none 0 [])) w2 l2 → LS w2 := fun w2 l2 h => hg.1.st (hw'.transL (l2 := [.blk b2 (.cells (bs k).toArray 23 (0, 0))]) (.refl _) h)
    refine (rising1_ok w' _ L Dk bl bk b4 m k hk (by omega) hps.1 hps.2 rfl hLS (fun j key a c ks w2 hkey hks hksl h2 => ?_)).mono fun e w2 ⟨hv, y, h2⟩ => ⟨hv, y, trivial, hw'.transL (l2 := [.blk b2 (.cells (bs k).toArray 23 (0, 0))]) (.refl _) h2⟩
    have hfp := (hfr []).put 16 (.agg (bs key).toArray) rfl
    refine round_okE (σ := Nat) (F1 := fun x => [(4, .pointer (some ⟨b4, 0, none⟩)), (6, .pointer (some ⟨x, 0, none⟩))]) (l1 := fun x => .blk x (.cells (bs key).toArray 23 (0, 0)) :: rsM L Dk _ bl bk b4 j key a c ks) (l2 := fun x => .blk x (.cells (bs key).toArray 23 (0, 0)) :: rsM L Dk _ bl bk b4 j key a c ks) h2 hfp (by simp [Act.put]) (by rfl) (fun _ => .tail _ (.head _)) ?_ (fun bx => ?_)
    · refine c_reg <| s_alloc fun bx => s_sta (b := bx) (vs := (bs key).toArray) (cs := zk) (h1 := hone32 _) (hl := by rw [hz32 hkey]; rfl) (hs1 := hz32 hkey) ?_
      exact s_nil <| q_joinE bx ⟨rfl, rfl, trivial⟩ (List.Sublist.refl _)
    · refine c_block <| c_reg <| s_y (y_ld (b := b4) (v := .slice a ks.length c)) <| s_y (y_lda (b := bx) (cs := (bs key).toArray) (hl := hz32 hkey)) <| s_bslr (cs := bs key) (hf := fillK hkey) (hsz := by rw [bs_length, hkey]) fun b19 => s_app (m := 1) (fun w' hw => Src.slice (rdR (.head _) w' hw) (by rw [bs_length, hkey])) (h1 := fun v hv => bs_one hv) (hm := .tail _ (.tail _ (.tail _ (.tail _ (.head _))))) (hrep := fun _ _ => .tail _ (.tail _ (.tail _ (.tail _ (.head _))))) fun a' c' h20 => ?_
      rw [show kcs ks ++ bs key = kcs (ks ++ [key]) by rw [kcs_append, kcs_one], show ks.length + 1 = (ks ++ [key]).length by simp]
      refine s_st (b := b4) (v := .slice a' (ks ++ [key]).length c') (cs := #[.slice a ks.length c]) (hl := Nat.zero_lt_one) ?_
      exact s_nil <| q_nb <| q_rn (.tail _ (.tail _ (.head _))) fun w3 h3 => ⟨(a', c'), trivial, rfl, h3.sub (.cons _ (.cons _ (.refl _)))⟩

/-- what an iterator of path secrets holds -/
def rsP (bl bk : Nat) (n : Int) (k : List UInt8) : SH := [.blk bl (.cells #[I n] 3 (0, 0)), .blk bk (.cells (bs k).toArray 23 (0, 0))]
theorem AppendSeq_ok (w : World) (bl bk m : Nat) (k : List UInt8) (hk : k.length = 32) (hm : m ≤ 9) (hp : ∀ p ∈ rsP bl bk m k, p.holds w) (hnd : (keys (rsP bl bk m k)).Nodup) (hLS0 : ∀ w2 l2, St w (keys (rsP bl bk m k)) w2 l2 → LS w2) :
    Gives Tryd.prog 51 [.slice none 0 0, .func (.func 49) #[] #[.pointer (some ⟨bl, 0, none⟩), .pointer (some ⟨bk, 0, none⟩)]] w (keys (rsP bl bk m k)) (fun x : Option Addr × Nat => .slice x.1 (rungs k (10 - m)).length x.2) (fun x => [.row x.1 x.2 23 32 (rungs k (10 - m)).length (kcs (rungs k (10 - m)))] ++ rsP bl bk 10 (pathN k (10 - m))) (fun _ => True) := by
  refine enterML Tryd.func51 Tryd.ntmps51 hp hnd ?_
  obtain ⟨Bo, hBo⟩ : ∃ Bo, Bo = keys (rsP bl bk m k) := ⟨_, rfl⟩
  rw [← hBo] at hLS0 ⊢
  refine c_seq <| c_reg <| s_box rfl fun b2 => s_y y_as <| s_nil <| q_then <| c_seq <| c_seq <| c_reg <| s_y y_mv <| s_nil <| q_then <| c_block <| ?_
  have hswap : ∀ (w' : World) (X : Res), St w Bo w' (X :: rsP bl bk m k) → St w Bo w' (rsP bl bk m k ++ [X]) := fun w' X h => h.perm (List.perm_append_comm (l₁ := rsP bl bk m k) (l₂ := [X]))
  refine c_permE (hswap · _) ?_
  refine c_nilrow 23 32 <| c_rangeN (σ := Option Addr × Nat) (fun x => [.row x.1 x.2 23 32 (rungs k (10 - m)).length (kcs (rungs k (10 - m))), .blk bl (.cells #[I 10] 3 (0, 0)), .blk bk (.cells (bs (pathN k (10 - m))).toArray 23 (0, 0)), .blk b2 (.cells #[.slice x.1 (rungs k (10 - m)).length x.2] 25 (0, 0))]) (fun _ => True) (fun fn tm Dk L hfr w' hw' => ?_) (fun Dk x _ => ?_)
  rotate_left
  · refine q_nb <| q_then <| c_seq <| c_reg <| s_y (y_ld (b := b2) (v := .slice x.1 (rungs k (10 - m)).length x.2)) <| s_y y_as <| s_nil <| q_then <| c_ret <| ?_
    exact ret1E Tryd.results51 (.head _) rv_t fun w' hw => ⟨x, trivial, rfl, hw.sub (.cons _ (.cons_cons _ (.cons_cons _ (.cons_cons _ (List.nil_sublist _)))))⟩
  · have hps := (show St w Bo w' (rsM L Dk _ bl bk b2 m k none 0 [] ++ []) from hw').has
    have hLS : ∀ w2 l2, St w' (keys (rsM L Dk _ bl bk b2 m k none 0 [])) w2 l2 → LS w2 := fun w2 l2 h => hLS0 w2 _ (hw'.transL (l2 := []) (.refl _) h)
    refine (rising1_ok w' _ L Dk bl bk b2 m k hk (by omega) hps.1 hps.2 rfl hLS (fun j key a c ks w2 hkey hks hksl h2 => ?_)).mono fun e w2 ⟨hv, y, h2⟩ => ⟨hv, y, trivial, hw'.transL (l2 := []) (.refl _) h2⟩
    have hfp := (hfr []).put 7 (.agg (bs key).toArray) rfl
    refine round_okE (σ := Nat) (F1 := fun x => [(2, .pointer (some ⟨b2, 0, none⟩)), (5, .pointer (some ⟨x, 0, none⟩))]) (l1 := fun x => .blk x (.cells (bs key).toArray 23 (0, 0)) :: rsM L Dk _ bl bk b2 j key a c ks) (l2 := fun x => .blk x (.cells (bs key).toArray 23 (0, 0)) :: rsM L Dk _ bl bk b2 j key a c ks) h2 hfp (by simp [Act.put]) (by rfl) (fun _ => .tail _ (.head _)) ?_ (fun bx => ?_)
    · refine c_reg <| s_alloc fun bx => s_sta (b := bx) (vs := (bs key).toArray) (cs := zk) (h1 := hone32 _) (hl := by rw [hz32 hkey]; rfl) (hs1 := hz32 hkey) ?_
      exact s_nil <| q_joinE bx ⟨rfl, rfl, trivial⟩ (List.Sublist.refl _)
    · refine c_block <| c_reg <| s_y (y_ld (b := b2) (v := .slice a ks.length c)) <| s_y (y_lda (b := bx) (cs := (bs key).toArray) (hl := hz32 hkey)) <| s_bslr (cs := bs key) (hf := fillK hkey) (hsz := by rw [bs_length, hkey]) fun b19 => s_app (m := 1) (fun w' hw => Src.slice (rdR (.head _) w' hw) (by rw [bs_length, hkey])) (h1 := fun v hv => bs_one hv) (hm := .tail _ (.tail _ (.tail _ (.tail _ (.head _))))) (hrep := fun _ _ => .tail _ (.tail _ (.tail _ (.tail _ (.head _))))) fun a' c' h20 => ?_
      rw [show kcs ks ++ bs key = kcs (ks ++ [key]) by rw [kcs_append, kcs_one], show ks.length + 1 = (ks ++ [key]).length by simp]
      refine s_st (b := b2) (v := .slice a' (ks ++ [key]).length c') (cs := #[.slice a ks.length c]) (hl := Nat.zero_lt_one) ?_
      exact s_nil <| q_nb <| q_rn (.tail _ (.tail _ (.head _))) fun w3 h3 => ⟨(a', c'), trivial, rfl, h3.sub (.cons _ (.cons _ (.refl _)))⟩

theorem Collect_ok (w : World) (bl bk m : Nat) (k : List UInt8) (hk : k.length = 32) (hm : m ≤ 9) (hp : ∀ p ∈ rsP bl bk m k, p.holds w) (hnd : (keys (rsP bl bk m k)).Nodup) (hLS0 : ∀ w2 l2, St w (keys (rsP bl bk m k)) w2 l2 → LS w2) :
    Gives Tryd.prog 36 [.func (.func 49) #[] #[.pointer (some ⟨bl, 0, none⟩), .pointer (some ⟨bk, 0, none⟩)]] w (keys (rsP bl bk m k)) (fun x : Option Addr × Nat => .slice x.1 (rungs k (10 - m)).length x.2) (fun x => [.row x.1 x.2 23 32 (rungs k (10 - m)).length (kcs (rungs k (10 - m)))] ++ rsP bl bk 10 (pathN k (10 - m))) (fun _ => True) := by
  refine enterL Tryd.func36 Tryd.ntmps36 hp hnd ?_
  refine c_seq <| c_reg <| s_y y_as <| s_nil <| q_then <| c_seq <| c_reg <| s_y y_mv <| ?_
  refine s_updL (ps0 := rsP bl bk m k) (l2 := []) (by rw [List.append_nil]) (fun w' hw => AppendSeq_ok w' bl bk m k hk hm hw.has.1 hw.has.2 (fun w2 l2 h => hLS0 w2 _ (by have h9 := hw.transL (l2 := []) (.refl _) h; exact h9))) (fun x _ => ?_)
  refine s_y y_as <| s_nil <| q_then <| c_ret <| ?_
  exact ret1 Tryd.results36 rv_t fun w' hw => ⟨x, trivial, rfl, by rw [List.append_nil] at hw; exact hw⟩

theorem sch_Ladder_ok (w : World) (k : List UInt8) (hg : LS2 w) (hk : k.length = 32) : Gives Tryd.prog 13 [.agg (bs k).toArray] w [] (fun x : Option Addr × Nat => .slice x.1 (rungs k 10).length x.2) (fun x => [.row x.1 x.2 23 32 (rungs k 10).length (kcs (rungs k 10))]) (fun _ => True) := by
  refine enter Tryd.func13 Tryd.ntmps13 ?_
  refine c_seq <| c_reg <| s_box rfl fun b1 => s_y y_as <| s_nil <| q_then <| c_seq <| c_reg <| s_y (y_lda (b := b1) (cs := (bs k).toArray) (hl := hz32 hk)) <| s_gives (fun w' hw => rising_ok w' k 0) fun x _ => ?_
  refine s_updL (ps0 := rsP x.1 x.2 0 k) (l2 := [.blk b1 (.cells (bs k).toArray 23 (0, 0))]) (.refl _) (fun w' hw => Collect_ok w' x.1 x.2 0 k hk (by decide) hw.has.1 hw.has.2 (fun w2 l2 h => hg.1.st (hw.transL (.refl _) h))) (fun y _ => ?_)
  refine s_y y_as <| s_nil <| q_then <| c_ret <| ?_
  exact ret1 Tryd.results13 rv_t fun w' hw => ⟨y, trivial, rfl, hw.sub (.cons_cons _ (List.nil_sublist _))⟩

theorem ref22_Above_ok (w : World) (k : List UInt8) (n : Int) (hk : k.length = 32) : Gives Tryd.prog 11 [.agg (bs k).toArray, I n] w [] (fun x : Option Addr × Nat => .tuple #[.slice x.1 (aboveL k n).length x.2, I (aboveE n)]) (fun x => [.row x.1 x.2 23 32 (aboveL k n).length (kcs (aboveL k n))]) (fun _ => True) := by
  refine enter Tryd.func11 Tryd.ntmps11 ?_
  refine c_seq <| c_reg <| s_box rfl fun b2 => s_y y_as <| s_y y_as <| s_nil <| q_then <| c_seq <| c_join [(1, I n), (2, .pointer (some ⟨b2, 0, none⟩)), (13, .bool (decide (n < 0 ∨ 9 < n)))] [.blk b2 (.cells (bs k).toArray 23 (0, 0))] ?_ ?_
  · refine c_reg <| s_y y_mv <| s_ifd (y_lss (p := n) (q := 0)) (fun h8 => ?_) (fun h8 => ?_)
    · refine s_y y_mv <| s_no <| s_no <| s_y y_pk <| s_nil <| q_join ⟨rfl, rfl, by rw [decide_eq_true (.inl h8)]; rfl, trivial⟩ (List.Sublist.refl _)
    · refine s_y y_mv <| s_y y_mv <| s_y (y_gtr (p := n) (q := 9)) <| s_y y_pk <| s_nil <| q_join ⟨rfl, rfl, by rw [show decide (n < 0 ∨ 9 < n) = decide (9 < n) from decide_eq_decide.2 ⟨fun h => h.elim (fun h => absurd h h8) id, .inr⟩]; rfl, trivial⟩ (List.Sublist.refl _)
  refine c_ifd (fun h12 => ?_) (fun h12 => ?_)
  · have e1 : aboveL k n = [] := aboveL_bad k h12
    have e2 : aboveE n = 1 := aboveE_bad h12
    rw [e1, e2]
    refine c_seq <| c_reg <| s_y y_as <| s_y y_as <| s_nil <| q_then <| c_ret <| q_ret <| ?_
    exact ret2 Tryd.results11 rv_t rv_t fun w' hw => ⟨(none, 0), trivial, rfl, (hw.nilRow 23 32).sub (.cons_cons _ (List.nil_sublist _))⟩
  obtain ⟨m, rfl⟩ : ∃ m : Nat, n = (m : Int) := ⟨n.toNat, by omega⟩
  have e1 : aboveL k (m : Int) = rungs k (10 - m) := by unfold aboveL; rw [if_neg (by omega), if_neg (by omega), Int.toNat_natCast]
  have e2 : aboveE (m : Int) = 0 := by unfold aboveE; rw [if_neg (by omega), if_neg (by omega)]
  rw [e1, e2]
  refine c_skip <| q_then <| c_seq <| c_reg <| s_y (y_lda (b := b2) (cs := (bs k).toArray) (hl := hz32 hk)) <| s_bslr (cs := bs k) (hf := fillK hk) (hsz := by rw [bs_length, hk]) fun b15 => s_y y_as <| s_nil <| q_then <| c_seq <| c_seq <| c_reg <| s_y y_mv <| s_y y_as <| s_nil <| q_then <| c_block <| ?_
  refine c_loop3 (fun (j : Nat) (a : Option Addr) (c : Nat) => [(2, .pointer (some ⟨b2, 0, none⟩)), (6, .slice a (rungs k (j + 1)).length c), (7, I ((m + j : Nat) : Int))]) (fun j a c => [.row a c 23 32 (rungs k (j + 1)).length (kcs (rungs k (j + 1))), .blk b2 (.cells (bs (pathN k j)).toArray 23 (0, 0))]) (fun j _ _ => m + j ≤ 9) (fun j _ _ => 9 - j) 0 (some ⟨b15, 0, none⟩) 1 (by omega) ⟨rfl, rfl, rfl, trivial⟩ (by rw [show kcs (rungs k (0 + 1)) = bs k by rw [show rungs k (0 + 1) = [k] from rfl, kcs_one]]; exact .refl _) ?_
  intro j a c hj
  refine c_seq <| c_seq <| c_reg <| s_y y_mv <| s_y (y_lss (p := ((m + j : Nat) : Int)) (q := 9)) <| s_nil <| q_then <| c_ifd (fun h18 => ?_) (fun h18 => ?_)
  · refine c_skip <| q_then <| c_seq <| c_block <| c_seq <| c_reg <| s_y (y_lda (b := b2) (cs := (bs (pathN k j)).toArray) (hl := hz32 (pathN_length hk j))) <| s_pure (fun w' hw => ref07_Expand_ok w' (pathN k j) lbPath none 0 [] (pathN_length hk j) (Rd.nil _ _) (by simp) (by decide) (by simp)) <| s_sta (b := b2) (vs := (bs (pathN k (j + 1))).toArray) (cs := (bs (pathN k j)).toArray) (h1 := hone32 _) (hl := by rw [hz32 (pathN_length hk (j + 1)), hz32 (pathN_length hk j)]) (hs1 := hz32 (pathN_length hk (j + 1))) ?_
    have hrl := rungs_length k (j + 1)
    refine s_nil <| q_then <| c_reg <| s_y y_mv <| s_y (y_lda (b := b2) (cs := (bs (pathN k (j + 1))).toArray) (hl := hz32 (pathN_length hk (j + 1)))) <| s_bslr (cs := bs (pathN k (j + 1))) (hf := fillK (pathN_length hk (j + 1))) (hsz := by rw [bs_length, pathN_length hk]) fun b25 => s_app (m := 1) (fun w' hw => Src.slice (rdR (.head _) w' hw) (by rw [bs_length, pathN_length hk])) (h1 := fun v hv => bs_one hv) (hm := .tail _ (.head _)) (hrep := fun _ _ => .tail _ (.head _)) fun a' c' h26 => ?_
    rw [show kcs (rungs k (j + 1)) ++ bs (pathN k (j + 1)) = kcs (rungs k (j + 1 + 1)) by rw [← rungs_succ k (j + 1), kcs_append, kcs_one], show (rungs k (j + 1)).length + 1 = (rungs k (j + 1 + 1)).length by simp only [rungs_length]]
    refine s_y y_as <| s_nil <| q_nb <| q_then <| c_reg <| s_y y_mv <| s_y (y_add (p := ((m + j : Nat) : Int)) (q := 1)) <| ?_
    rw [show ((m + j : Nat) : Int) + 1 = ((m + (j + 1) : Nat) : Int) by omega]
    exact s_y y_as <| s_nil <| q_round3 (x := j) (y := a) (z := c) (j + 1) a' c' (by omega) (by omega) ⟨rfl, rfl, rfl, trivial⟩ (.cons _ (.refl _))
  · obtain rfl : j = 9 - m := by omega
    rw [show 9 - m + 1 = 10 - m by omega]
    refine c_exit <| q_ex <| q_ex <| q_exb <| q_then <| c_seq <| c_reg <| s_y y_mv <| s_y y_as <| s_y y_as <| s_nil <| q_then <| c_ret <| ?_
    exact ret2 Tryd.results11 rv_t rv_t fun w' hw => ⟨(a, c), trivial, rfl, hw.sub (.cons_cons _ (List.nil_sublist _))⟩

theorem ref22_Ladder_ok (w : World) (k : List UInt8) (hk : k.length = 32) : Gives Tryd.prog 14 [.agg (bs k).toArray] w [] (fun x : Option Addr × Nat => .slice x.1 (rungs k 10).length x.2) (fun x => [.row x.1 x.2 23 32 (rungs k 10).length (kcs (rungs k 10))]) (fun _ => True) := by
  refine enter Tryd.func14 Tryd.ntmps14 ?_
  refine c_seq <| c_reg <| s_box rfl fun b1 => s_y y_as <| s_nil <| q_then <| c_seq <| c_reg <| s_y (y_lda (b := b1) (cs := (bs k).toArray) (hl := hz32 hk)) <| s_gives (fun w' hw => ref22_Above_ok w' k 0 hk) fun x _ => ?_
  rw [show aboveL k 0 = rungs k 10 from rfl, show aboveE 0 = 0 from rfl]
  refine s_y y_mv <| s_y y_ext <| s_y y_ext <| s_y y_as <| s_y y_as <| s_nil <| q_then <| c_seq <| c_reg <| s_y y_mv <| s_y y_as <| s_nil <| q_then <| c_ret <| ?_
  exact ret1 Tryd.results14 rv_t fun w' hw => ⟨x, trivial, rfl, hw.sub (.cons_cons _ (List.nil_sublist _))⟩

theorem hgk : (Tryd.prog).eqGuardType (Tryd.prog).depth 23 = false := by kernel_rfl
theorem keys_eq {p q : List (List UInt8)} (hl : p.length = q.length) (h : ∀ i, i < p.length → p.getD i [] = q.getD i []) : p = q := by
  apply List.ext_getElem hl
  intro i h1 h2
  have := h i h1
  rwa [List.getD_eq_getElem?_getD, List.getElem?_eq_getElem h1, List.getD_eq_getElem?_getD, List.getElem?_eq_getElem h2] at this
theorem ref22_Same_ok (w : World) (a1 a2 : Option Addr) (c1 c2 : Nat) (p q : List (List UInt8)) (h1 : Rd w a1 (kcs p)) (h2 : Rd w a2 (kcs q)) (hp : K32 p) (hq : K32 q) (hpl : p.length ≤ 1000000000) :
    Pure Tryd.prog 12 [.slice a1 p.length c1, .slice a2 q.length c2] w (.bool (decide (p = q))) := by
  refine enter Tryd.func12 Tryd.ntmps12 ?_
  refine c_seq <| c_reg <| s_y y_as <| s_nil <| q_then <| c_seq <| c_seq <| c_reg <| s_y y_mv <| s_y y_len <| s_y y_mv <| s_y y_len <| s_y (y_neq (p := p.length) (q := q.length)) <| s_nil <| q_then <| c_ifn (fun h10 => ?_) (fun h10 => ?_)
  · rw [decide_eq_false (show ¬ p = q from fun e => h10 (by rw [e]))]
    refine c_seq <| c_reg <| s_y y_as <| s_nil <| q_then <| c_ret <| q_ret <| ?_
    exact ret1 Tryd.results12 rv_t fun w' hw => ⟨rfl, hw⟩
  have hl : p.length = q.length := by omega
  refine c_skip <| q_then <| c_seq <| c_seq <| c_reg <| s_y y_as <| s_nil <| q_then <| c_block <| ?_
  refine c_loop (fun i : Nat => [(0, .slice a1 p.length c1), (1, .slice a2 q.length c2), (5, I i)]) (fun _ => []) (fun i => i ≤ p.length ∧ ∀ j, j < i → p.getD j [] = q.getD j []) (fun i => p.length - i) 0 ⟨by omega, fun _ h => by omega⟩ ⟨rfl, rfl, rfl, trivial⟩ (List.Sublist.refl _) ?_
  intro i ⟨hi, hj⟩
  refine c_seq <| c_seq <| c_reg <| s_y y_mv <| s_y y_mv <| s_y y_len <| s_y (y_lss (p := i) (q := p.length)) <| s_nil <| q_then <| c_ifd (fun h14 => ?_) (fun h14 => ?_)
  · have hip : i < p.length := by omega
    refine c_skip <| q_then <| c_seq <| c_block <| c_seq <| c_regd <| d_y y_mv <| d_y y_mv <| d_y (y_ixk (i := i) hp (rdW0 h1) hip rfl) <| d_y (y_ldk hp hip (rdW0 h1)) <| d_y y_mv <| d_y y_mv <| d_y (y_ixk (i := i) (m := q.length) hq (rdW0 h2) (by omega) rfl) <| d_y (y_ldk (i := i) hq (by omega) (rdW0 h2)) <| d_y (y_neqa (p := p.getD i []) (q := q.getD i []) (hp.get hip) (hq.get (by omega)) hgk) <| d_nil <| q_then <| c_ifn (fun h25 => ?_) (fun h25 => ?_)
    · rw [decide_eq_false (show ¬ p = q from fun e => h25 (by rw [e]))]
      refine c_seq <| c_reg <| s_y y_as <| s_nil <| q_then <| c_ret <| q_retb <| q_ret <| q_ret <| q_retb <| q_ret <| ?_
      exact ret1 Tryd.results12 rv_t fun w' hw => ⟨rfl, hw⟩
    · refine c_skip <| q_nb <| q_then <| c_reg <| s_y y_mv <| s_y (y_add (p := i) (q := 1)) <| s_y y_as <| s_nil <| q_round (i + 1) ⟨by omega, fun j h => (Nat.lt_or_ge j i).elim (hj j) fun h9 => by obtain rfl : j = i := (by omega); exact h25⟩ (by omega) ⟨rfl, rfl, rfl, trivial⟩ (List.Sublist.refl _)
  · rw [decide_eq_true (show p = q from keys_eq hl fun j h => hj j (by omega))]
    refine c_exit <| q_ex <| q_ex <| q_exb <| q_then <| c_seq <| c_reg <| s_y y_as <| s_nil <| q_then <| c_ret <| ?_
    exact ret1 Tryd.results12 rv_t fun w' hw => ⟨rfl, hw⟩
end Go.Proofs.YtmpjmjllfldjdaaDoor
