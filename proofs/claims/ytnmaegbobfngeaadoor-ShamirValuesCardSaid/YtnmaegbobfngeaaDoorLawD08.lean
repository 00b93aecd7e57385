/- The laws on shares: what is hidden. -/
import Derived.Test.YtnmaegbobfngeaaDoorLawB08
namespace Go.Proofs.YtnmaegbobfngeaaDoor
open Go Eng Gf Cod Sha
set_option maxRecDepth 100000
theorem law_Hides_out (w : World) (a : Option Addr) (c A : Nat) (L : List (Nat × Nat)) (s o : Int) (hg : LS w) (hr : Rd w a (shc (sN L))) (hlen : L.length ≤ 11) (hv : Vld (L ++ [(A, 0)])) (hno : s < 0 ∨ 2305843009213688669 ≤ s ∨ o < 0 ∨ 2305843009213688669 ≤ o) : Pure Tryd.prog 5 [.slice a L.length c, I A, I s, I o] w (.bool true) := by
  refine enter Tryd.func5 Tryd.ntmps5 ?_
  refine c_seq <| c_reg <| s_y y_as <| s_nil <| q_then <| c_seq <| c_seq <| c_reg <| s_pure (fun w' hw => sane08_ok w' (hg.st hw)) <| s_y (v := .bool false) (y_not (b := true)) <| s_nil <| q_then <| c_f <| c_skip <| q_then <| c_seq <| c_seq <| c_reg <| s_y y_mv <| s_y y_len <| s_kf (y_gtr (p := L.length) (q := 11)) (by omega) <| s_y y_mv <| s_bsl0 fun b31 => s_y y_mv <| s_app (m := L.length) (fun w' hw => Src.slice (hr.st hw) (shc_slen L rfl)) (h1 := shc_one _) (hm := .head _) (hrep := fun _ _ => .head _) fun a33 c33 h33 => ?_
  rw [List.nil_append]
  refine s_y y_mv <| s_y (y_bshr (cs := [I A, I 0])) <| s_bslr (cs := shc (sN [(A, 0)])) fun b36 => s_app (m := 1) (fun w' hw => Src.slice (rdR (.head _) w' hw) (shc_slen [(A, 0)] rfl)) (h1 := shc_one _) (hm := .tail _ (.head _)) (hrep := fun _ _ => .tail _ (.head _)) fun a37 c37 h37 => ?_
  rw [← shc_append, ← sN_append']
  refine s_pure (fun w' hw => r8ckW w' a37 c37 (0 + L.length + 1) (L ++ [(A, 0)]) (hv) (by simp only [List.length_append, List.length_cons, List.length_nil]; omega) (rdR (.tail _ (.head _)) w' hw)) <| s_nf (y_neq (p := 0) (q := 0)) (by omega) <| s_y y_pk <| s_y y_mv <| s_y y_mv <| s_ifd (y_lss (p := s) (q := 0)) (fun h43 => ?_) (fun h43 => ?_)
  · refine s_y y_pk <| s_y y_mv <| s_no <| s_no <| s_y y_pk <| s_y y_mv <| s_no <| s_no <| s_y y_pk <| s_y y_mv <| s_no <| s_no <| s_y y_pk <| s_nil <| q_then <| c_t <| c_seq <| c_reg <| s_y y_as <| s_nil <| q_then <| c_ret <| q_ret <| ?_
    exact ret1 Tryd.results5 rv_t fun w' hw => ⟨rfl, hw.sub (List.nil_sublist _)⟩
  · refine s_y y_pk <| s_y y_mv <| s_y y_mv <| s_ifd (y_geq (p := s) (q := 2305843009213688669)) (fun h47 => ?_) (fun h47 => ?_)
    · refine s_y y_pk <| s_y y_mv <| s_no <| s_no <| s_y y_pk <| s_y y_mv <| s_no <| s_no <| s_y y_pk <| s_nil <| q_then <| c_t <| c_seq <| c_reg <| s_y y_as <| s_nil <| q_then <| c_ret <| q_ret <| ?_
      exact ret1 Tryd.results5 rv_t fun w' hw => ⟨rfl, hw.sub (List.nil_sublist _)⟩
    · refine s_y y_pk <| s_y y_mv <| s_y y_mv <| s_ifd (y_lss (p := o) (q := 0)) (fun h51 => ?_) (fun h51 => ?_)
      · refine s_y y_pk <| s_y y_mv <| s_no <| s_no <| s_y y_pk <| s_nil <| q_then <| c_t <| c_seq <| c_reg <| s_y y_as <| s_nil <| q_then <| c_ret <| q_ret <| ?_
        exact ret1 Tryd.results5 rv_t fun w' hw => ⟨rfl, hw.sub (List.nil_sublist _)⟩
      · refine s_y y_pk <| s_y y_mv <| s_y y_mv <| s_kt (y_geq (p := o) (q := 2305843009213688669)) (by omega) <| s_y y_pk <| s_nil <| q_then <| c_t <| c_seq <| c_reg <| s_y y_as <| s_nil <| q_then <| c_ret <| q_ret <| ?_
        exact ret1 Tryd.results5 rv_t fun w' hw => ⟨rfl, hw.sub (List.nil_sublist _)⟩

theorem law_Hides_same (w : World) (a : Option Addr) (c A : Nat) (L : List (Nat × Nat)) (s o b R y : Nat) (V : Nat → Nat) (hg : LS w) (hr : Rd w a (shc (sN L))) (hlen : L.length ≤ 11) (hv : Vld (L ++ [(A, 0)])) (hs : s < 2305843009213688669) (ho : o < 2305843009213688669) (hV : ∀ y, valQ (L ++ [(A, y)]) 0 = V y) (hVq : ∀ y, V y < 2305843009213688669) (hb0 : 0 < b) (hb : b < 2305843009213688669) (hslope : (V 1 + (2305843009213688669 - V 0)) % 2305843009213688669 = b) (hR : (s + (2305843009213688669 - V 0)) % 2305843009213688669 = R) (hRq : R < 2305843009213688669) (hy : R * qq b 2305843009213688667 % 2305843009213688669 = y) (hyq : y < 2305843009213688669) (hVy : V y = s) (he : o = y) (hVo : V o = s) : Pure Tryd.prog 5 [.slice a L.length c, I A, I s, I o] w (.bool true) := by
  refine enter Tryd.func5 Tryd.ntmps5 ?_
  refine c_seq <| c_reg <| s_y y_as <| s_nil <| q_then <| c_seq <| c_seq <| c_reg <| s_pure (fun w' hw => sane08_ok w' (hg.st hw)) <| s_y (v := .bool false) (y_not (b := true)) <| s_nil <| q_then <| c_f <| c_skip <| q_then <| c_seq <| c_seq <| c_reg <| s_y y_mv <| s_y y_len <| s_kf (y_gtr (p := L.length) (q := 11)) (by omega) <| s_y y_mv <| s_bsl0 fun b31 => s_y y_mv <| s_app (m := L.length) (fun w' hw => Src.slice (hr.st hw) (shc_slen L rfl)) (h1 := shc_one _) (hm := .head _) (hrep := fun _ _ => .head _) fun a33 c33 h33 => ?_
  rw [List.nil_append]
  refine s_y y_mv <| s_y (y_bshr (cs := [I A, I 0])) <| s_bslr (cs := shc (sN [(A, 0)])) fun b36 => s_app (m := 1) (fun w' hw => Src.slice (rdR (.head _) w' hw) (shc_slen [(A, 0)] rfl)) (h1 := shc_one _) (hm := .tail _ (.head _)) (hrep := fun _ _ => .tail _ (.head _)) fun a37 c37 h37 => ?_
  rw [← shc_append, ← sN_append']
  refine s_pure (fun w' hw => r8ckW w' a37 c37 (0 + L.length + 1) (L ++ [(A, 0)]) (hv) (by simp only [List.length_append, List.length_cons, List.length_nil]; omega) (rdR (.tail _ (.head _)) w' hw)) <| s_nf (y_neq (p := 0) (q := 0)) (by omega) <| s_y y_pk <| s_y y_mv <| s_y y_mv <| s_kf (y_lss (p := s) (q := 0)) (by omega) <| s_y y_pk <| s_y y_mv <| s_y y_mv <| s_kf (y_geq (p := s) (q := 2305843009213688669)) (by omega) <| s_y y_pk <| s_y y_mv <| s_y y_mv <| s_kf (y_lss (p := o) (q := 0)) (by omega) <| s_y y_pk <| s_y y_mv <| s_y y_mv <| s_kf (y_geq (p := o) (q := 2305843009213688669)) (by omega) <| s_y y_pk <| s_nil <| q_then <| c_f <| c_skip <| q_then <| c_seq <| c_reg <| s_y y_mv <| s_y y_mv <| s_pure (fun w' hw => joined_ok w' a c A 0 L (hv.last (by omega)) (hr.st hw)) <| ?_
  rw [hV]
  refine s_y y_mv <| s_y y_ext <| s_y y_ext <| s_y y_as <| s_y y_as <| s_nil <| q_then <| c_seq <| c_reg <| s_y y_mv <| s_y y_mv <| s_pure (fun w' hw => joined_ok w' a c A 1 L (hv.last (by omega)) (hr.st hw)) <| ?_
  rw [hV]
  refine s_y y_mv <| s_y y_ext <| s_y y_ext <| s_y y_as <| s_y y_as <| s_nil <| q_then <| c_seq <| c_reg <| s_y y_mv <| s_y y_mv <| s_pure (fun w' hw => f_Sub_yes w' (V 1) (V 0) (hVq 1) (hVq 0)) <| ?_
  rw [hslope]
  refine s_y y_mv <| s_y y_ext <| s_y y_ext <| s_y y_as <| s_y y_as <| s_nil <| q_then <| c_seq <| c_reg <| s_y y_mv <| s_pure (fun w' hw => f_Inv_yes w' b hb0 hb) <| s_y y_mv <| s_y y_ext <| s_y y_ext <| s_y y_as <| s_y y_as <| s_nil <| q_then <| c_seq <| c_reg <| s_y y_mv <| s_y y_mv <| s_pure (fun w' hw => f_Sub_yes w' s (V 0) hs (hVq 0)) <| ?_
  rw [hR]
  refine s_y y_mv <| s_y y_ext <| s_y y_ext <| s_y y_as <| s_y y_as <| s_nil <| q_then <| c_seq <| c_reg <| s_y y_mv <| s_y y_mv <| s_pure (fun w' hw => f_Mul_yes w' R (qq b 2305843009213688667) hRq (qq_lt _ _)) <| ?_
  rw [hy]
  refine s_y y_mv <| s_y y_ext <| s_y y_ext <| s_y y_as <| s_y y_as <| s_nil <| q_then <| c_seq <| c_reg <| s_y y_mv <| s_y y_mv <| s_y y_mv <| s_pure (fun w' hw => joined_ok w' a c A y L (hv.last (by omega)) (hr.st hw)) <| ?_
  rw [hV]
  rw [hVy]
  refine s_y y_mv <| s_y y_ext <| s_y y_ext <| s_y y_as <| s_y y_as <| s_nil <| q_then <| c_seq <| c_reg <| s_y y_mv <| s_y y_mv <| s_y y_mv <| s_pure (fun w' hw => joined_ok w' a c A o L (hv.last (by omega)) (hr.st hw)) <| ?_
  rw [hV]
  refine s_y y_mv <| s_y y_ext <| s_y y_ext <| s_y y_as <| s_y y_as <| s_nil <| q_then <| c_seq <| c_seq <| c_reg <| s_y y_mv <| s_nf (y_neq (p := 0) (q := 0)) (by omega) <| s_y y_mv <| s_y y_mv <| s_nf (y_neq (p := 0) (q := 0)) (by omega) <| s_y y_pk <| s_y y_mv <| s_y y_mv <| s_nf (y_neq (p := 0) (q := 0)) (by omega) <| s_y y_pk <| s_y y_mv <| s_y y_mv <| s_nf (y_neq (p := 0) (q := 0)) (by omega) <| s_y y_pk <| s_y y_mv <| s_y y_mv <| s_nf (y_neq (p := 0) (q := 0)) (by omega) <| s_y y_pk <| s_y y_mv <| s_y y_mv <| s_nf (y_neq (p := 0) (q := 0)) (by omega) <| s_y y_pk <| s_y y_mv <| s_y y_mv <| s_nf (y_neq (p := 0) (q := 0)) (by omega) <| s_y y_pk <| s_y y_mv <| s_y y_mv <| s_nf (y_neq (p := 0) (q := 0)) (by omega) <| s_y y_pk <| s_nil <| q_then <| c_f <| c_skip <| q_then <| c_seq <| c_reg <| s_y y_mv <| s_y y_mv <| s_kt (y_eql (p := s) (q := s)) (by trivial) <| s_y y_mv <| s_y y_mv <| s_y y_mv <| s_kt (y_eql (p := V o) (q := s)) (by omega) <| s_y y_mv <| s_y y_mv <| s_kt (y_eql (p := o) (q := y)) (by omega) <| s_y (v := .bool true) (y_eqlb (a := true) (b := true)) <| s_y y_pk <| s_y y_as <| s_nil <| q_then <| c_ret <| ?_
  exact ret1 Tryd.results5 rv_t fun w' hw => ⟨rfl, hw.sub (List.nil_sublist _)⟩

theorem law_Hides_other (w : World) (a : Option Addr) (c A : Nat) (L : List (Nat × Nat)) (s o b R y : Nat) (V : Nat → Nat) (hg : LS w) (hr : Rd w a (shc (sN L))) (hlen : L.length ≤ 11) (hv : Vld (L ++ [(A, 0)])) (hs : s < 2305843009213688669) (ho : o < 2305843009213688669) (hV : ∀ y, valQ (L ++ [(A, y)]) 0 = V y) (hVq : ∀ y, V y < 2305843009213688669) (hb0 : 0 < b) (hb : b < 2305843009213688669) (hslope : (V 1 + (2305843009213688669 - V 0)) % 2305843009213688669 = b) (hR : (s + (2305843009213688669 - V 0)) % 2305843009213688669 = R) (hRq : R < 2305843009213688669) (hy : R * qq b 2305843009213688667 % 2305843009213688669 = y) (hyq : y < 2305843009213688669) (hVy : V y = s) (he : o ≠ y) (hVo : V o ≠ s) : Pure Tryd.prog 5 [.slice a L.length c, I A, I s, I o] w (.bool true) := by
  refine enter Tryd.func5 Tryd.ntmps5 ?_
  refine c_seq <| c_reg <| s_y y_as <| s_nil <| q_then <| c_seq <| c_seq <| c_reg <| s_pure (fun w' hw => sane08_ok w' (hg.st hw)) <| s_y (v := .bool false) (y_not (b := true)) <| s_nil <| q_then <| c_f <| c_skip <| q_then <| c_seq <| c_seq <| c_reg <| s_y y_mv <| s_y y_len <| s_kf (y_gtr (p := L.length) (q := 11)) (by omega) <| s_y y_mv <| s_bsl0 fun b31 => s_y y_mv <| s_app (m := L.length) (fun w' hw => Src.slice (hr.st hw) (shc_slen L rfl)) (h1 := shc_one _) (hm := .head _) (hrep := fun _ _ => .head _) fun a33 c33 h33 => ?_
  rw [List.nil_append]
  refine s_y y_mv <| s_y (y_bshr (cs := [I A, I 0])) <| s_bslr (cs := shc (sN [(A, 0)])) fun b36 => s_app (m := 1) (fun w' hw => Src.slice (rdR (.head _) w' hw) (shc_slen [(A, 0)] rfl)) (h1 := shc_one _) (hm := .tail _ (.head _)) (hrep := fun _ _ => .tail _ (.head _)) fun a37 c37 h37 => ?_
  rw [← shc_append, ← sN_append']
  refine s_pure (fun w' hw => r8ckW w' a37 c37 (0 + L.length + 1) (L ++ [(A, 0)]) (hv) (by simp only [List.length_append, List.length_cons, List.length_nil]; omega) (rdR (.tail _ (.head _)) w' hw)) <| s_nf (y_neq (p := 0) (q := 0)) (by omega) <| s_y y_pk <| s_y y_mv <| s_y y_mv <| s_kf (y_lss (p := s) (q := 0)) (by omega) <| s_y y_pk <| s_y y_mv <| s_y y_mv <| s_kf (y_geq (p := s) (q := 2305843009213688669)) (by omega) <| s_y y_pk <| s_y y_mv <| s_y y_mv <| s_kf (y_lss (p := o) (q := 0)) (by omega) <| s_y y_pk <| s_y y_mv <| s_y y_mv <| s_kf (y_geq (p := o) (q := 2305843009213688669)) (by omega) <| s_y y_pk <| s_nil <| q_then <| c_f <| c_skip <| q_then <| c_seq <| c_reg <| s_y y_mv <| s_y y_mv <| s_pure (fun w' hw => joined_ok w' a c A 0 L (hv.last (by omega)) (hr.st hw)) <| ?_
  rw [hV]
  refine s_y y_mv <| s_y y_ext <| s_y y_ext <| s_y y_as <| s_y y_as <| s_nil <| q_then <| c_seq <| c_reg <| s_y y_mv <| s_y y_mv <| s_pure (fun w' hw => joined_ok w' a c A 1 L (hv.last (by omega)) (hr.st hw)) <| ?_
  rw [hV]
  refine s_y y_mv <| s_y y_ext <| s_y y_ext <| s_y y_as <| s_y y_as <| s_nil <| q_then <| c_seq <| c_reg <| s_y y_mv <| s_y y_mv <| s_pure (fun w' hw => f_Sub_yes w' (V 1) (V 0) (hVq 1) (hVq 0)) <| ?_
  rw [hslope]
  refine s_y y_mv <| s_y y_ext <| s_y y_ext <| s_y y_as <| s_y y_as <| s_nil <| q_then <| c_seq <| c_reg <| s_y y_mv <| s_pure (fun w' hw => f_Inv_yes w' b hb0 hb) <| s_y y_mv <| s_y y_ext <| s_y y_ext <| s_y y_as <| s_y y_as <| s_nil <| q_then <| c_seq <| c_reg <| s_y y_mv <| s_y y_mv <| s_pure (fun w' hw => f_Sub_yes w' s (V 0) hs (hVq 0)) <| ?_
  rw [hR]
  refine s_y y_mv <| s_y y_ext <| s_y y_ext <| s_y y_as <| s_y y_as <| s_nil <| q_then <| c_seq <| c_reg <| s_y y_mv <| s_y y_mv <| s_pure (fun w' hw => f_Mul_yes w' R (qq b 2305843009213688667) hRq (qq_lt _ _)) <| ?_
  rw [hy]
  refine s_y y_mv <| s_y y_ext <| s_y y_ext <| s_y y_as <| s_y y_as <| s_nil <| q_then <| c_seq <| c_reg <| s_y y_mv <| s_y y_mv <| s_y y_mv <| s_pure (fun w' hw => joined_ok w' a c A y L (hv.last (by omega)) (hr.st hw)) <| ?_
  rw [hV]
  rw [hVy]
  refine s_y y_mv <| s_y y_ext <| s_y y_ext <| s_y y_as <| s_y y_as <| s_nil <| q_then <| c_seq <| c_reg <| s_y y_mv <| s_y y_mv <| s_y y_mv <| s_pure (fun w' hw => joined_ok w' a c A o L (hv.last (by omega)) (hr.st hw)) <| ?_
  rw [hV]
  refine s_y y_mv <| s_y y_ext <| s_y y_ext <| s_y y_as <| s_y y_as <| s_nil <| q_then <| c_seq <| c_seq <| c_reg <| s_y y_mv <| s_nf (y_neq (p := 0) (q := 0)) (by omega) <| s_y y_mv <| s_y y_mv <| s_nf (y_neq (p := 0) (q := 0)) (by omega) <| s_y y_pk <| s_y y_mv <| s_y y_mv <| s_nf (y_neq (p := 0) (q := 0)) (by omega) <| s_y y_pk <| s_y y_mv <| s_y y_mv <| s_nf (y_neq (p := 0) (q := 0)) (by omega) <| s_y y_pk <| s_y y_mv <| s_y y_mv <| s_nf (y_neq (p := 0) (q := 0)) (by omega) <| s_y y_pk <| s_y y_mv <| s_y y_mv <| s_nf (y_neq (p := 0) (q := 0)) (by omega) <| s_y y_pk <| s_y y_mv <| s_y y_mv <| s_nf (y_neq (p := 0) (q := 0)) (by omega) <| s_y y_pk <| s_y y_mv <| s_y y_mv <| s_nf (y_neq (p := 0) (q := 0)) (by omega) <| s_y y_pk <| s_nil <| q_then <| c_f <| c_skip <| q_then <| c_seq <| c_reg <| s_y y_mv <| s_y y_mv <| s_kt (y_eql (p := s) (q := s)) (by trivial) <| s_y y_mv <| s_y y_mv <| s_y y_mv <| s_kf (y_eql (p := V o) (q := s)) (by omega) <| s_y y_mv <| s_y y_mv <| s_kf (y_eql (p := o) (q := y)) (by omega) <| s_y (v := .bool true) (y_eqlb (a := false) (b := false)) <| s_y y_pk <| s_y y_as <| s_nil <| q_then <| c_ret <| ?_
  exact ret1 Tryd.results5 rv_t fun w' hw => ⟨rfl, hw.sub (List.nil_sublist _)⟩
end Go.Proofs.YtnmaegbobfngeaaDoor
