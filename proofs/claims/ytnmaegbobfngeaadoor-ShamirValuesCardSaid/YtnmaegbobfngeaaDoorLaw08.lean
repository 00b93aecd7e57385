/- The laws on shares: examples. -/
import Derived.Test.YtnmaegbobfngeaaDoorShT
namespace Gf
open Go Eng
theorem vTwo : Vld [(1, 9), (2, 11)] := ⟨by decide, by decide, by decide, by decide⟩
theorem vThree : Vld ([(1, 9), (2, 11)] ++ [(3, 13)]) := ⟨by decide, by decide, by decide, by decide⟩
theorem vOdd : Vld ([(1, 9), (2, 11)] ++ [(3, 14)]) := ⟨by decide, by decide, by decide, by decide⟩
theorem vSum : Vld [(1, 18), (2, 22)] := ⟨by decide, by decide, by decide, by decide⟩
theorem vFive : Vld [(64, 5)] := ⟨by decide, by decide, by decide, by decide⟩
theorem vOne : Vld [(1, 7), (2, 7), (3, 7)] := ⟨by decide, by decide, by decide, by decide⟩
theorem vLone (a y : Nat) (h1 : 1 ≤ a) (h2 : a ≤ 64) (h3 : y < 2305843009213688669) : Vld [(a, y)] := ⟨by simp, by simp, fun s hs => by rw [List.mem_singleton.1 hs]; exact ⟨h1, h2, h3⟩, List.pairwise_singleton _ _⟩
theorem jTwo : valQ [(1, 9), (2, 11)] 0 = 7 := valQ_hor vTwo [7, 2] (by decide) (by decide +kernel) 0
theorem jSum : valQ [(1, 18), (2, 22)] 0 = 14 := valQ_hor vSum [14, 4] (by decide) (by decide +kernel) 0
theorem jFive : valQ [(64, 5)] 0 = 5 := valQ_hor vFive [5] (by decide) (by decide +kernel) 0
theorem fThree : ftV ([(1, 9), (2, 11)] ++ [(3, 13)]) 2 = true := ftV_hor vThree (by decide) [7, 2] (by decide) (by decide +kernel)
theorem fOdd : ftV ([(1, 9), (2, 11)] ++ [(3, 14)]) 2 = false := by
  cases h : ftV ([(1, 9), (2, 11)] ++ [(3, 14)]) 2 with
  | false => rfl
  | true =>
    have h1 : valQ [(1, 9), (2, 11)] 3 = 14 := ftV_iff.1 h (3, 14) (.head _)
    rw [valQ_hor vTwo [7, 2] (by decide) (by decide +kernel) 3] at h1
    exact absurd h1 (by decide +kernel)
end Gf
namespace Go.Proofs.YtnmaegbobfngeaaDoor
open Go Eng Gf Cod Sha
set_option maxRecDepth 100000
theorem oneEq : spl (cof (List.replicate 32 0) 7 0) 3 = [(1, 7), (2, 7), (3, 7)] := by
  show spl [7] 3 = _
  decide +kernel
def splE (a : Int) : Int := if sc a = true then 80 else 1
theorem splE_ne (a : Int) : splE a ≠ 0 := by unfold splE; split <;> decide
theorem s_Split_no (w : World) (a n m : Int) (k : List UInt8) (h : sc a = false ∨ n < 1 ∨ m < n ∨ 64 < m) : Pure Tryd.prog 16 [I a, I n, I m, .agg (bs k).toArray] w (.tuple #[.slice none 0 0, I (splE a)]) := by
  cases hs : sc a with
  | false =>
    rw [splE, hs, if_neg (by decide)]
    exact s_Split_bad w a n m k hs
  | true =>
    obtain ⟨x, rfl, hx⟩ := sc_nat hs
    rw [splE, hs, if_pos rfl]
    exact s_Split_bad2 w x n m k hx (h.resolve_left (by rw [hs]; decide))
theorem sane08_ok (w : World) (hg : LS w) : Pure Tryd.prog 9 [] w (.bool true) := by
  refine enter Tryd.func9 Tryd.ntmps9 ?_
  refine c_seq <| c_reg <| s_y y_as <| s_nil <| q_then <| c_seq <| c_reg <| s_y (y_bshr (cs := [I 1, I 9])) <| s_y (y_bshr (cs := [I 2, I 11])) <| s_bslr (cs := shc (sN [(1, 9), (2, 11)])) fun b24 => s_y y_as <| s_nil <| q_then <| c_seq <| c_reg <| s_bsl0 fun b25 => s_y y_mv <| s_app (m := 2) (fun w' hw => Src.slice (rdR (.tail _ (.head _)) w' hw) (shc_slen [(1, 9), (2, 11)] rfl)) (h1 := shc_one _) (hm := .head _) (hrep := fun _ _ => .head _) fun a27 c27 h27 => ?_
  rw [List.nil_append]
  refine s_y (y_bshr (cs := [I 3, I 13])) <| s_bslr (cs := shc (sN [(3, 13)])) fun b29 => s_app (m := 1) (fun w' hw => Src.slice (rdR (.head _) w' hw) (shc_slen [(3, 13)] rfl)) (h1 := shc_one _) (hm := .tail _ (.head _)) (hrep := fun _ _ => .tail _ (.head _)) fun a30 c30 h30 => ?_
  rw [← shc_append, ← sN_append']
  refine s_row (fun hk30 _ => ?_) (hm := .tail _ (.head _))
  refine s_y y_as <| s_nil <| q_then <| c_seq <| c_reg <| s_bsl0 fun b31 => s_y y_mv <| s_app (m := 2) (fun w' hw => Src.slice (rdR (.tail _ (.tail _ (.tail _ (.head _)))) w' hw) (shc_slen [(1, 9), (2, 11)] rfl)) (h1 := shc_one _) (hm := .head _) (hrep := fun _ _ => .head _) fun a33 c33 h33 => ?_
  rw [List.nil_append]
  refine s_y (y_bshr (cs := [I 3, I 14])) <| s_bslr (cs := shc (sN [(3, 14)])) fun b35 => s_app (m := 1) (fun w' hw => Src.slice (rdR (.head _) w' hw) (shc_slen [(3, 14)] rfl)) (h1 := shc_one _) (hm := .tail _ (.head _)) (hrep := fun _ _ => .tail _ (.head _)) fun a36 c36 h36 => ?_
  rw [← shc_append, ← sN_append']
  refine s_row (fun hk36 _ => ?_) (hm := .tail _ (.head _))
  refine s_y y_as <| s_nil <| q_then <| c_seq <| c_reg <| s_y (y_blda (cs := bs (List.replicate 32 0))) <| ?_
  refine s_gives (fun w' hw => s_Split_yes w' 7 0 3 (List.replicate 32 0) List.length_replicate (hg.st hw) (by decide) (by decide) (by decide)) fun x39 _ => ?_
  rw [show spl (cof (List.replicate 32 0) 7 0) 3 = [(1, 7), (2, 7), (3, 7)] from oneEq]
  refine s_y y_mv <| s_y y_ext <| s_y y_ext <| s_y y_as <| s_y y_as <| s_nil <| q_then <| c_seq <| c_reg <| s_y y_mv <| s_pure (fun w' hw => jnW w' (some ⟨b24, 0, none⟩) 2 2 [(1, 9), (2, 11)] (vTwo) rfl (rdR (.tail _ (.tail _ (.tail _ (.tail _ (.tail _ (.head _)))))) w' hw)) <| ?_
  rw [jTwo]
  refine s_y y_mv <| s_y y_ext <| s_y y_ext <| s_y y_as <| s_y y_as <| s_nil <| q_then <| c_seq <| c_reg <| s_y y_mv <| s_pure (fun w' hw => (by have h9 := ftW w' a30 c30 (0 + 2 + 1) ([(1, 9), (2, 11)] ++ [(3, 13)]) (vThree) rfl (rdR (.tail _ (.tail _ (.tail _ (.tail _ (.head _))))) w' hw) hk30 2 (by decide) (by decide); rw [fThree] at h9; exact h9)) <| s_y y_mv <| s_y y_ext <| s_y y_ext <| s_y y_as <| s_y y_as <| s_nil <| q_then <| c_seq <| c_reg <| s_y y_mv <| s_pure (fun w' hw => (by have h9 := ftW w' a36 c36 (0 + 2 + 1) ([(1, 9), (2, 11)] ++ [(3, 14)]) (vOdd) rfl (rdR (.tail _ (.tail _ (.head _))) w' hw) hk36 2 (by decide) (by decide); rw [fOdd] at h9; exact h9)) <| s_y y_mv <| s_y y_ext <| s_y y_ext <| s_y y_as <| s_y y_as <| s_nil <| q_then <| c_seq <| c_reg <| s_y y_mv <| s_y y_mv <| s_gives (fun w' hw => sumW w' (some ⟨b24, 0, none⟩) (some ⟨b24, 0, none⟩) 2 2 2 2 [(1, 9), (2, 11)] [(1, 9), (2, 11)] (vTwo) (vTwo) rfl rfl rfl (rdR (.tail _ (.tail _ (.tail _ (.tail _ (.tail _ (.head _)))))) w' hw) (rdR (.tail _ (.tail _ (.tail _ (.tail _ (.tail _ (.head _)))))) w' hw)) fun x60 _ => ?_
  rw [show smS [(1, 9), (2, 11)] [(1, 9), (2, 11)] = [(1, 18), (2, 22)] by decide]
  refine s_y y_mv <| s_y y_ext <| s_y y_ext <| s_y y_as <| s_y y_as <| s_nil <| q_then <| c_seq <| c_reg <| s_y y_mv <| s_pure (fun w' hw => jnW w' x60.1 x60.2 2 [(1, 18), (2, 22)] (vSum) rfl (rdR (.head _) w' hw)) <| ?_
  rw [jSum]
  refine s_y y_mv <| s_y y_ext <| s_y y_ext <| s_y y_as <| s_y y_as <| s_nil <| q_then <| c_seq <| c_reg <| s_y (y_bshr (cs := [I 64, I 5])) <| s_bslr (cs := shc (sN [(64, 5)])) fun b70 => s_pure (fun w' hw => jnW w' (some ⟨b70, 0, none⟩) 1 1 [(64, 5)] (vFive) rfl (rdR (.head _) w' hw)) <| ?_
  rw [jFive]
  refine s_y y_mv <| s_y y_ext <| s_y y_ext <| s_y y_as <| s_y y_as <| s_nil <| q_then <| c_seq <| c_reg <| s_y (y_blda (cs := bs (List.replicate 32 0))) <| ?_
  refine s_pure (fun w' hw => s_Split_bad w' (-1) 0 0 (List.replicate 32 0) (sc_lo (by decide))) <| s_y y_mv <| s_y y_ext <| s_y y_ext <| s_y y_as <| s_y y_as <| s_nil <| q_then <| c_seq <| c_reg <| s_y (y_blda (cs := bs (List.replicate 32 0))) <| ?_
  refine s_pure (fun w' hw => s_Split_bad2 w' 0 2 1 (List.replicate 32 0) (by decide) (by decide)) <| s_y y_mv <| s_y y_ext <| s_y y_ext <| s_y y_as <| s_y y_as <| s_nil <| q_then <| c_seq <| c_seq <| c_reg <| s_y y_mv <| s_nf (y_neq (p := 0) (q := 0)) (by omega) <| s_y y_mv <| s_y y_mv <| s_nf (y_neq (p := 0) (q := 0)) (by omega) <| s_y y_pk <| s_y y_mv <| s_y y_mv <| s_nf (y_neq (p := 0) (q := 0)) (by omega) <| s_y y_pk <| s_y y_mv <| s_y y_mv <| s_nf (y_neq (p := 0) (q := 0)) (by omega) <| s_y y_pk <| s_y y_mv <| s_y y_mv <| s_nf (y_neq (p := 0) (q := 0)) (by omega) <| s_y y_pk <| s_y y_mv <| s_y y_mv <| s_nf (y_neq (p := 0) (q := 0)) (by omega) <| s_y y_pk <| s_y y_mv <| s_y y_mv <| s_nf (y_neq (p := 0) (q := 0)) (by omega) <| s_y y_pk <| s_y y_mv <| s_y y_mv <| s_nf (y_neq (p := 1) (q := 1)) (by omega) <| s_y y_pk <| s_y y_mv <| s_y y_mv <| s_nf (y_neq (p := 80) (q := 80)) (by omega) <| s_y y_pk <| s_y y_mv <| s_pure (fun w' hw => ckNil w') <| s_nf (y_neq (p := 80) (q := 80)) (by omega) <| s_y y_pk <| s_nil <| q_then <| c_f <| c_skip <| q_then <| c_seq <| c_reg <| s_y y_mv <| s_y (y_bshr (cs := [I 1, I 7])) <| s_y (y_bshr (cs := [I 2, I 7])) <| s_y (y_bshr (cs := [I 3, I 7])) <| s_bslr (cs := shc (sN [(1, 7), (2, 7), (3, 7)])) fun b126 => s_pure (fun w' hw => sameW w' x39.1 (some ⟨b126, 0, none⟩) x39.2 3 3 [(1, 7), (2, 7), (3, 7)] rfl (rdR (.tail _ (.tail _ (.tail _ (.head _)))) w' hw) (rdR (.head _) w' hw) (by decide)) <| s_y y_mv <| s_y y_mv <| s_kt (y_eql (p := 7) (q := 7)) (by omega) <| s_y y_pk <| s_y y_mv <| s_y y_mv <| s_y y_pk <| s_y y_mv <| s_y y_mv <| s_y (v := .bool true) (y_not (b := false)) <| s_y y_pk <| s_y y_mv <| s_y y_mv <| s_y (y_bshr (cs := [I 1, I 18])) <| s_y (y_bshr (cs := [I 2, I 22])) <| s_bslr (cs := shc (sN [(1, 18), (2, 22)])) fun b143 => s_pure (fun w' hw => sameW w' x60.1 (some ⟨b143, 0, none⟩) x60.2 2 2 [(1, 18), (2, 22)] rfl (rdR (.tail _ (.tail _ (.tail _ (.head _)))) w' hw) (rdR (.head _) w' hw) (by decide)) <| s_y y_pk <| s_y y_mv <| s_y y_mv <| s_kt (y_eql (p := 14) (q := 14)) (by omega) <| s_y y_pk <| s_y y_mv <| s_y y_mv <| s_kt (y_eql (p := 5) (q := 5)) (by omega) <| s_y y_pk <| s_y y_as <| s_nil <| q_then <| c_ret <| ?_
  exact ret1 Tryd.results9 rv_t fun w' hw => ⟨rfl, hw.sub (List.nil_sublist _)⟩
end Go.Proofs.YtnmaegbobfngeaaDoor
