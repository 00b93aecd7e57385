/- Shares of secrets: Check of the reference; Join; few shares. -/
import Derived.Test.YtnmaegbobfngeaaDoorShE
namespace Gf
open Go Eng
theorem shc_cell (l d r : List (Int × Int)) (s : Int × Int) (i : Nat) (e : l = d ++ s :: r) (hi : d.length = i) : (shc l)[i * 2 + 0]? = some (I s.1) ∧ (shc l)[i * 2 + 1]? = some (I s.2) := by
  subst e hi
  exact ⟨shc_mid d s r 0 _ rfl, shc_mid d s r 1 _ rfl⟩
end Gf
namespace Go.Proofs.YtnmaegbobfngeaaDoor
open Go Eng Gf
set_option maxRecDepth 100000
theorem r8_Check_ok (w : World) (a : Option Addr) (c : Nat) (l : List (Int × Int)) (hr : Rd w a (shc l)) (hl : l.length < 1000000000000000000) : Pure Tryd.prog 20 [.slice a l.length c] w (I (chS l)) := by
  have hcl : l.length ≤ (shc l).length := by rw [shc_length]; omega
  refine enter Tryd.func20 Tryd.ntmps20 ?_
  refine c_seq <| c_reg <| s_y y_as <| s_nil <| q_then <| c_seq <| c_seq <| c_reg <| s_y y_mv <| s_y y_len <| ?_
  by_cases h1 : l.length < 1
  · rw [chS, if_neg (by omega)]
    refine s_kt (y_lss (p := ((l.length : Nat) : Int)) (q := 1)) (by omega) <| s_y y_mv <| s_no <| s_no <| s_no <| s_y y_pk <| s_nil <| q_then <| c_t <| c_seq <| c_reg <| s_y y_as <| s_nil <| q_then <| c_ret <| q_ret <| ?_
    exact ret1 Tryd.results20 rv_t fun w' hw => ⟨rfl, hw⟩
  by_cases h2 : 64 < l.length
  · rw [chS, if_neg (by omega)]
    refine s_kf (y_lss (p := ((l.length : Nat) : Int)) (q := 1)) (by omega) <| s_y y_mv <| s_y y_mv <| s_y y_len <| s_kt (y_gtr (p := ((l.length : Nat) : Int)) (q := 64)) (by omega) <| s_y y_pk <| s_nil <| q_then <| c_t <| c_seq <| c_reg <| s_y y_as <| s_nil <| q_then <| c_ret <| q_ret <| ?_
    exact ret1 Tryd.results20 rv_t fun w' hw => ⟨rfl, hw⟩
  have hch : ∀ b : Bool, okS 0 l = b → chS l = bif b then 0 else 80 := fun b hb => by
    unfold chS; rw [hb]; cases b
    · rw [if_neg (by simp)]; rfl
    · rw [if_pos ⟨by omega, by omega, rfl⟩]; rfl
  refine s_kf (y_lss (p := ((l.length : Nat) : Int)) (q := 1)) (by omega) <| s_y y_mv <| s_y y_mv <| s_y y_len <| s_kf (y_gtr (p := ((l.length : Nat) : Int)) (q := 64)) (by omega) <| s_y y_pk <| s_nil <| q_then <| c_f <| c_skip <| q_then <| c_seq <| c_seq <| c_reg <| s_y y_as <| s_nil <| q_then <| c_block <| ?_
  refine c_loop3 (fun (d r : List (Int × Int)) (_ : Int) => [(0, .slice a l.length c), (3, I d.length)]) (fun _ _ _ => []) (fun d r last => l = d ++ r ∧ okS last r = okS 0 l ∧ 0 ≤ last ∧ (d = [] ∧ last = 0 ∨ ∃ d' p, d = d' ++ [p] ∧ last = p.1)) (fun d r _ => r.length) [] l 0 ⟨rfl, rfl, Int.le_refl _, .inl ⟨rfl, rfl⟩⟩ ⟨rfl, rfl, trivial⟩ (List.nil_sublist _) ?_
  rintro d r last ⟨e1, e2, e3, e4⟩
  have hlen : l.length = d.length + r.length := by rw [e1, List.length_append]
  cases r with
  | nil =>
    rw [List.length_nil, Nat.add_zero] at hlen
    rw [hch true (by rw [← e2]; rfl)]
    refine c_seq <| c_seq <| c_reg <| s_y y_mv <| s_y y_mv <| s_y y_len <| s_kf (y_lss (p := ((d.length : Nat) : Int)) (q := ((l.length : Nat) : Int))) (by omega) <| s_nil <| q_then <| c_f <| c_exit <| q_ex <| q_ex <| q_exb <| q_then <| c_seq <| c_reg <| s_y y_as <| s_nil <| q_then <| c_ret <| ?_
    exact ret1 Tryd.results20 rv_t fun w' hw => ⟨rfl, hw⟩
  | cons s r =>
    rw [List.length_cons] at hlen
    obtain ⟨i, hi⟩ : ∃ i, d.length = i := ⟨_, rfl⟩
    obtain ⟨hc0, hc1⟩ := shc_cell l d r s i e1 hi
    have bad : ∀ {F : List (Nat × Value)} {l2 : SH} {Q : Exit → Act → World → Prop}, okS last (s :: r) = false → lkO F 2 = some (I 80) → QP 59 [] w [] (bodyPost Tryd.prog Tryd.f20 fun e w' => e = .returned (I (chS l)) ∧ St w [] w' []) .ret F l2 := by
      intro F l2 Q h9 h10
      exact ret1 Tryd.results20 (rv_t h10) fun w' hw => ⟨by rw [hch false (by rw [← e2, h9])]; rfl, hw.sub (List.nil_sublist _)⟩
    rw [hi]
    refine c_seq <| c_seq <| c_reg <| s_y y_mv <| s_y y_mv <| s_y y_len <| s_kt (y_lss (p := ((i : Nat) : Int)) (q := ((l.length : Nat) : Int))) (by omega) <| s_nil <| q_then <| c_t <| c_skip <| q_then <| c_seq <| c_block <| c_seq <| c_regd <| d_y y_mv <| d_y y_mv <| d_y (y_ixs (xs := shc l) (i := ((i : Nat) : Int)) (hl := hcl)) <| d_y y_far <| d_y (y_ldr (i := i * 2 + 0) hc0 rfl (rdW0 hr)) <| ?_
    by_cases g1 : s.1 < 1
    · refine d_kt (y_lss (p := s.1) (q := 1)) g1 <| d_y y_mv <| d_no <| d_no <| d_no <| d_no <| d_no <| d_no <| d_y y_pk <| d_y y_mv <| d_no <| d_no <| d_no <| d_nu <| d_nu <| d_nu <| d_nu <| d_nu <| d_nu <| d_nu <| d_nu <| d_nu <| d_nu <| d_nu <| d_nu <| d_no <| d_y y_pk <| d_y y_mv <| d_no <| d_no <| d_no <| d_no <| d_no <| d_no <| d_no <| d_y y_pk <| d_nil <| q_then <| c_t <| c_seq <| c_reg <| s_y y_as <| s_nil <| q_then <| c_ret <| q_retb <| q_ret <| q_ret <| q_retb <| q_ret <| ?_
      exact bad (Q := fun _ _ _ => True) (by rw [okS, decide_eq_false (by omega)]; rfl) rfl
    by_cases g2 : 64 < s.1
    · refine d_kf (y_lss (p := s.1) (q := 1)) g1 <| d_y y_mv <| d_y y_mv <| d_y y_mv <| d_y (y_ixs (xs := shc l) (i := ((i : Nat) : Int)) (hl := hcl)) <| d_y y_far <| d_y (y_ldr (i := i * 2 + 0) hc0 rfl (rdW0 hr)) <| d_kt (y_gtr (p := s.1) (q := 64)) g2 <| d_y y_pk <| d_y y_mv <| d_no <| d_no <| d_no <| d_nu <| d_nu <| d_nu <| d_nu <| d_nu <| d_nu <| d_nu <| d_nu <| d_nu <| d_nu <| d_nu <| d_nu <| d_no <| d_y y_pk <| d_y y_mv <| d_no <| d_no <| d_no <| d_no <| d_no <| d_no <| d_no <| d_y y_pk <| d_nil <| q_then <| c_t <| c_seq <| c_reg <| s_y y_as <| s_nil <| q_then <| c_ret <| q_retb <| q_ret <| q_ret <| q_retb <| q_ret <| ?_
      exact bad (Q := fun _ _ _ => True) (by rw [okS, decide_eq_false (show ¬ s.1 ≤ 64 by omega)]; simp) rfl
    refine d_kf (y_lss (p := s.1) (q := 1)) g1 <| d_y y_mv <| d_y y_mv <| d_y y_mv <| d_y (y_ixs (xs := shc l) (i := ((i : Nat) : Int)) (hl := hcl)) <| d_y y_far <| d_y (y_ldr (i := i * 2 + 0) hc0 rfl (rdW0 hr)) <| d_kf (y_gtr (p := s.1) (q := 64)) g2 <| d_y y_pk <| d_y y_mv <| d_y y_mv <| ?_
    have nxt : ∀ {b : Bool}, sc s.2 = b → last < s.1 → okS last (s :: r) = (b && okS s.1 r) := fun hb hlt => by rw [okS, decide_eq_true hlt, decide_eq_true (show s.1 ≤ 64 by omega), hb]; simp
    rcases e4 with ⟨rfl, rfl⟩ | ⟨d', p, rfl, rfl⟩
    · obtain rfl : i = 0 := by simpa using hi.symm
      refine d_kf (y_gtr (p := ((0 : Nat) : Int)) (q := 0)) (by omega) <| d_y y_mv <| d_no <| d_no <| d_no <| d_no <| d_no <| d_no <| d_no <| d_no <| d_no <| d_no <| d_no <| d_no <| d_y y_pk <| d_y y_pk <| d_y y_mv <| d_y y_mv <| d_y y_mv <| d_y (y_ixs (xs := shc l) (i := ((0 : Nat) : Int)) (hl := hcl)) <| d_y y_far <| d_y (y_ldr (i := 0 * 2 + 1) hc1 rfl (rdW0 hr)) <| d_pure (fun w' hw => r8_scalar_ok w' s.2) <| ?_
      cases g3 : sc s.2 with
      | false =>
        refine d_y (v := .bool true) (y_not (b := false)) <| d_y y_pk <| d_nil <| q_then <| c_t <| c_seq <| c_reg <| s_y y_as <| s_nil <| q_then <| c_ret <| q_retb <| q_ret <| q_ret <| q_retb <| q_ret <| ?_
        exact bad (Q := fun _ _ _ => True) (by rw [nxt g3 (by omega)]; rfl) rfl
      | true =>
        refine d_y (v := .bool false) (y_not (b := true)) <| d_y y_pk <| d_nil <| q_then <| c_f <| c_skip <| q_nb <| q_then <| c_reg <| s_y y_mv <| s_y (y_add (p := ((0 : Nat) : Int)) (q := 1)) <| s_y y_as <| s_nil <| ?_
        refine q_round3 (x := []) (y := s :: r) (z := 0) ([] ++ [s]) r s.1 ⟨by rw [e1]; rfl, by rw [← e2, nxt g3 (by omega)]; rfl, by omega, .inr ⟨[], s, rfl, rfl⟩⟩ (Nat.lt_succ_self _) ⟨rfl, rfl, trivial⟩ (List.nil_sublist _)
    · have hi' : d'.length + 1 = i := by simpa using hi
      have hcp := (shc_cell l d' (s :: r) p (i - 1) (by rw [e1, List.append_assoc]; rfl) (by omega)).1
      refine d_kt (y_gtr (p := ((i : Nat) : Int)) (q := 0)) (by omega) <| d_y y_mv <| d_y y_mv <| d_y y_mv <| d_y (y_ixs (xs := shc l) (i := ((i : Nat) : Int)) (hl := hcl)) <| d_y y_far <| d_y (y_ldr (i := i * 2 + 0) hc0 rfl (rdW0 hr)) <| d_y y_mv <| d_y y_mv <| d_y (y_sub (p := ((i : Nat) : Int)) (q := 1)) <| ?_
      rw [show ((i : Nat) : Int) - 1 = ((i - 1 : Nat) : Int) by omega]
      refine d_y (y_ixs (xs := shc l) (i := ((i - 1 : Nat) : Int)) (hl := hcl)) <| d_y y_far <| d_y (y_ldr (i := (i - 1) * 2 + 0) hcp rfl (rdW0 hr)) <| ?_
      by_cases g4 : s.1 ≤ p.1
      · refine d_kt (y_leq (p := s.1) (q := p.1)) g4 <| d_y y_pk <| d_y y_pk <| d_y y_mv <| d_no <| d_no <| d_no <| d_no <| d_no <| d_no <| d_no <| d_y y_pk <| d_nil <| q_then <| c_t <| c_seq <| c_reg <| s_y y_as <| s_nil <| q_then <| c_ret <| q_retb <| q_ret <| q_ret <| q_retb <| q_ret <| ?_
        exact bad (Q := fun _ _ _ => True) (by rw [okS, decide_eq_false (by omega)]; rfl) rfl
      refine d_kf (y_leq (p := s.1) (q := p.1)) g4 <| d_y y_pk <| d_y y_pk <| d_y y_mv <| d_y y_mv <| d_y y_mv <| d_y (y_ixs (xs := shc l) (i := ((i : Nat) : Int)) (hl := hcl)) <| d_y y_far <| d_y (y_ldr (i := i * 2 + 1) hc1 rfl (rdW0 hr)) <| d_pure (fun w' hw => r8_scalar_ok w' s.2) <| ?_
      cases g3 : sc s.2 with
      | false =>
        refine d_y (v := .bool true) (y_not (b := false)) <| d_y y_pk <| d_nil <| q_then <| c_t <| c_seq <| c_reg <| s_y y_as <| s_nil <| q_then <| c_ret <| q_retb <| q_ret <| q_ret <| q_retb <| q_ret <| ?_
        exact bad (Q := fun _ _ _ => True) (by rw [nxt g3 (by omega)]; rfl) rfl
      | true =>
        refine d_y (v := .bool false) (y_not (b := true)) <| d_y y_pk <| d_nil <| q_then <| c_f <| c_skip <| q_nb <| q_then <| c_reg <| s_y y_mv <| s_y (y_add (p := ((i : Nat) : Int)) (q := 1)) <| s_y y_as <| s_nil <| ?_
        have e9 : (d' ++ [p] ++ [s]).length = i + 1 := by simp; omega
        rw [show ((i : Nat) : Int) + 1 = (((d' ++ [p] ++ [s]).length : Nat) : Int) by rw [e9]; omega]
        refine q_round3 (x := d' ++ [p]) (y := s :: r) (z := p.1) (d' ++ [p] ++ [s]) r s.1 ⟨by rw [e1]; simp, by rw [← e2, nxt g3 (by omega)]; rfl, by omega, .inr ⟨d' ++ [p], s, rfl, rfl⟩⟩ (Nat.lt_succ_self _) ⟨rfl, rfl, trivial⟩ (List.nil_sublist _)
end Go.Proofs.YtnmaegbobfngeaaDoor
