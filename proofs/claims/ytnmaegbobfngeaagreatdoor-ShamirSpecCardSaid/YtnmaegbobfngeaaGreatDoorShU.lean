/- Splitting a secret, in the reference. -/
import Derived.Test.YtnmaegbobfngeaaGreatDoorLawB08
namespace Gf
open Go Eng
theorem hor_fwd {s c p x h : Nat} : ((s + c * p % 2305843009213688669) % 2305843009213688669 + p * x % 2305843009213688669 * h % 2305843009213688669) % 2305843009213688669 = (s + p * ((h * x % 2305843009213688669 + c) % 2305843009213688669) % 2305843009213688669) % 2305843009213688669 := by
  have e1 : p * x % 2305843009213688669 * h % 2305843009213688669 = p * (h * x) % 2305843009213688669 := by rw [mulQa, show p * x * h = p * (h * x) by ac_rfl]
  have e2 : p * (h * x % 2305843009213688669) % 2305843009213688669 = p * (h * x) % 2305843009213688669 := mulQb _ _
  rw [e1, mulQb, Nat.mul_add, Nat.mul_comm c p]
  generalize p * (h * x % 2305843009213688669) = u at *
  generalize p * (h * x) = v at *
  generalize p * c = z at *
  omega
end Gf
namespace Go.Proofs.YtnmaegbobfngeaaGreatDoor
open Go Eng Gf Cod Sha
set_option maxRecDepth 100000
theorem r3_Eval_yes (w : World) (a : Option Addr) (c : Nat) (cs : List Nat) (x : Nat) (hr : Rd w a (is (ni cs))) (hl : cs.length ≤ 1000000) (hcs : ∀ b ∈ cs, b < 2305843009213688669) (hx : x < 2305843009213688669) :
    Pure Tryz.prog 21 [.slice a cs.length c, I x] w (.tuple #[I (hor cs x : Nat), I 0]) := by
  have hnl := ni_length cs
  refine enter Tryz.func21 Tryz.ntmps21 ?_
  refine c_seq <| c_reg <| s_y y_as <| s_y y_as <| s_nil <| q_then <| c_seq <| c_seq <| c_reg <| s_y y_mv <| s_pure (fun w' hw => r3Scalar_yes w' x hx) <| s_y (v := .bool false) (y_not (b := true)) <| s_nil <| q_then <| c_f <| c_skip <| q_then <| c_seq <| c_reg <| s_y y_as <| s_nil <| q_then <| c_seq <| c_reg <| s_y y_as <| s_nil <| q_then <| c_seq <| c_seq <| c_reg <| s_y y_as <| s_nil <| q_then <| c_block <| ?_
  refine c_loop3 (fun (i s p : Nat) => [(0, .slice a cs.length c), (1, I x), (6, I s), (7, I p), (8, I i)]) (fun _ _ _ => []) (fun i s p => i ≤ cs.length ∧ s < 2305843009213688669 ∧ p < 2305843009213688669 ∧ hor cs x = (s + p * hor (cs.drop i) x % 2305843009213688669) % 2305843009213688669) (fun i _ _ => cs.length - i) 0 0 1 ⟨Nat.zero_le _, by decide, by decide, by rw [List.drop_zero, Nat.one_mul, Nat.zero_add, Nat.mod_mod, Nat.mod_eq_of_lt (hor_lt _ _)]⟩ ⟨rfl, rfl, rfl, rfl, rfl, trivial⟩ (List.nil_sublist _) ?_
  intro i s p ⟨hi, hs, hp, he⟩
  by_cases hil : i < cs.length
  · have hst := hor_drop cs x i hil
    obtain ⟨b, hb⟩ : ∃ b, cs.getD i 0 = b := ⟨_, rfl⟩
    have hbq : b < 2305843009213688669 := by
      rw [← hb, List.getD_eq_getElem?_getD, List.getElem?_eq_getElem hil]; exact hcs _ (List.getElem_mem hil)
    have hgb : (ni cs).getD i 0 = (b : Int) := by rw [ni_get, hb]
    rw [hb] at hst
    rw [hst, ← hor_fwd] at he
    refine c_seq <| c_seq <| c_reg <| s_y y_mv <| s_y y_mv <| s_y y_len <| s_kt (y_lss (p := ((i : Nat) : Int)) (q := ((cs.length : Nat) : Int))) (by omega) <| s_nil <| q_then <| c_t <| c_skip <| q_then <| c_seq <| c_block <| c_seq <| c_seq <| c_reg <| s_y y_mv <| s_y y_mv <| s_y (y_ixs1 (xs := is (ni cs)) (i := ((i : Nat) : Int)) (hr := rdW0 hr) (hl := by rw [is_length, hnl]; exact Nat.le_refl _)) <| s_y (y_ldi (i := i) (q := ni cs) (hr := rdW0 hr) (hi := by omega)) <| ?_
    rw [hgb]
    refine s_pure (fun w' hw => r3Scalar_yes w' b hbq) <| s_y (v := .bool false) (y_not (b := true)) <| s_nil <| q_then <| c_f <| c_skip <| q_then <| c_seq <| c_reg <| s_y y_mv <| s_y y_mv <| s_y y_mv <| s_y (y_ixs1 (xs := is (ni cs)) (i := ((i : Nat) : Int)) (hr := rdW0 hr) (hl := by rw [is_length, hnl]; exact Nat.le_refl _)) <| s_y (y_ldi (i := i) (q := ni cs) (hr := rdW0 hr) (hi := by omega)) <| ?_
    rw [hgb]
    refine s_y y_mv <| s_pure (fun w' hw => r3_product_ok w' b p hbq (by omega)) <| s_pure (fun w' hw => r3_sum_ok w' s (b * p % 2305843009213688669) hs (Qmod _ _)) <| s_y y_as <| s_nil <| q_then <| c_reg <| s_y y_mv <| s_y y_mv <| s_pure (fun w' hw => r3_product_ok w' p x hp (by omega)) <| s_y y_as <| s_nil <| q_nb <| q_then <| c_reg <| s_y y_mv <| s_y (y_add (p := ((i : Nat) : Int)) (q := 1)) <| s_y y_as <| s_nil <| ?_
    rw [show ((i : Nat) : Int) + 1 = ((i + 1 : Nat) : Int) by omega]
    exact q_round3 (x := i) (y := s) (z := p) (i + 1) _ _ ⟨by omega, Nat.mod_lt _ (by decide), Nat.mod_lt _ (by decide), he⟩ (by omega) ⟨rfl, rfl, rfl, rfl, rfl, trivial⟩ (List.nil_sublist _)
  · obtain rfl : i = cs.length := by omega
    rw [List.drop_length, show hor [] x = 0 from rfl, Nat.mul_zero, Nat.zero_mod, Nat.add_zero, Nat.mod_eq_of_lt hs] at he
    rw [he]
    refine c_seq <| c_seq <| c_reg <| s_y y_mv <| s_y y_mv <| s_y y_len <| s_kf (y_lss (p := ((cs.length : Nat) : Int)) (q := ((cs.length : Nat) : Int))) (by omega) <| s_nil <| q_then <| c_f <| c_exit <| q_ex <| q_ex <| q_exb <| q_then <| c_seq <| c_reg <| s_y y_mv <| s_y y_as <| s_y y_as <| s_nil <| q_then <| c_ret <| ?_
    exact ret2 Tryz.results21 rv_t rv_t fun w' hw => ⟨rfl, hw⟩
theorem r8_Coefficients_ok (w : World) (x n : Nat) (k : List UInt8) (hk : k.length = 32) (hx : x < 2305843009213688669) (hn : n ≤ 64) :
    Gives Tryz.prog 20 [I x, I (n + 1 : Nat), .agg (bs k).toArray] w [] (fun y : Option Addr × Nat => .slice y.1 (n + 1) y.2) (fun y => [.row y.1 y.2 3 1 (n + 1) (is (ni (cof k x n)))]) (fun _ => True) := by
  refine enter Tryz.func20 Tryz.ntmps20 ?_
  refine c_seq <| c_reg <| s_box rfl fun b5 => s_y y_as <| s_nil <| q_then <| c_seq <| c_reg <| s_y y_mv <| s_bslr (cs := is (ni (cof k x 0))) fun b10 => s_y y_as <| s_nil <| q_then <| c_seq <| c_seq <| c_reg <| s_y y_as <| s_nil <| q_then <| c_block <| ?_
  refine c_loop3 (fun (j : Nat) (a' : Option Addr) (c' : Nat) => [(1, I (n + 1 : Nat)), (5, .pointer (some ⟨b5, 0, none⟩)), (7, .slice a' (j + 1) c'), (8, I (j + 1 : Nat))]) (fun j a' c' => [.row a' c' 3 1 (j + 1) (is (ni (cof k x j))), .blk b5 (.cells (bs k).toArray 24 (0, 0))]) (fun j _ _ => j ≤ n) (fun j _ _ => n - j) 0 (some ⟨b10, 0, none⟩) 1 (Nat.zero_le _) ⟨rfl, rfl, rfl, rfl, trivial⟩ (.refl _) ?_
  intro j a' c' hj
  by_cases hjn : j < n
  · refine c_seq <| c_seq <| c_reg <| s_y y_mv <| s_y y_mv <| s_kt (y_lss (p := ((j + 1 : Nat) : Int)) (q := ((n + 1 : Nat) : Int))) (by omega) <| s_nil <| q_then <| c_t <| c_skip <| q_then <| c_seq <| c_block <| c_reg <| s_y y_mv <| s_y (y_lda (b := b5) (cs := (bs k).toArray) (hl := hz32' hk)) <| s_y y_mv <| s_bslr (cs := is [((j + 1 : Nat) : Int)]) fun b19 => s_pure (fun w' hw => ref07_Expand_ok w' k lbShare (some ⟨b19, 0, none⟩) 1 [((j + 1 : Nat) : Int)] hk (rdR (.head _) w' hw) (by intro z hz; rw [List.mem_singleton.1 hz]; unfold R64; omega) (by decide) (by simp)) <| s_pure (fun w' hw => ref07_Scalar_ok w' (expand k lbShare [((j + 1 : Nat) : Int)]) lbShare (expand_length _ _ _) (by decide)) <| s_bslr (cs := is (ni [dscal (expand k lbShare [((j + 1 : Nat) : Int)]) lbShare])) fun b22 => s_app (m := 1) (fun w' hw => Src.slice (rdR (.head _) w' hw) rfl) (h1 := fun v hv => by simp [is, ni] at hv; subst hv; rfl) (hm := .tail _ (.tail _ (.head _))) (hrep := fun _ _ => .tail _ (.tail _ (.head _))) fun a23 c23 h23 => ?_
    rw [← Eng.is_append, ← ni_append, ← cof_succ]
    refine s_y y_as <| s_nil <| q_nb <| q_then <| c_reg <| s_y y_mv <| s_y (y_add (p := ((j + 1 : Nat) : Int)) (q := 1)) <| s_y y_as <| s_nil <| ?_
    rw [show ((j + 1 : Nat) : Int) + 1 = ((j + 1 + 1 : Nat) : Int) by omega]
    exact q_round3 (x := j) (y := a') (z := c') (j + 1) a23 c23 hjn (by omega) ⟨rfl, rfl, rfl, rfl, trivial⟩ (.cons _ (.cons _ (.refl _)))
  · obtain rfl : j = n := by omega
    refine c_seq <| c_seq <| c_reg <| s_y y_mv <| s_y y_mv <| s_kf (y_lss (p := ((j + 1 : Nat) : Int)) (q := ((j + 1 : Nat) : Int))) (by omega) <| s_nil <| q_then <| c_f <| c_exit <| q_ex <| q_ex <| q_exb <| q_then <| c_seq <| c_reg <| s_y y_mv <| s_y y_as <| s_nil <| q_then <| c_ret <| ?_
    exact ret1 Tryz.results20 rv_t fun w' hw => ⟨(a', c'), trivial, rfl, hw.sub (.cons_cons _ (List.nil_sublist _))⟩
where hz32' {k : List UInt8} (h : k.length = 32) : (bs k).toArray.size = 32 := by simp [bs_length, h]
theorem r8_Split_no (w : World) (a n m : Int) (k : List UInt8) (h : sc a = false ∨ n < 1 ∨ m < n ∨ 64 < m) : Pure Tryz.prog 7 [I a, I n, I m, .agg (bs k).toArray] w (.tuple #[.slice none 0 0, I (splE a)]) := by
  refine enter Tryz.func7 Tryz.ntmps7 ?_
  refine c_seq <| c_reg <| s_box rfl fun b7 => s_y y_as <| s_y y_as <| s_nil <| q_then <| c_seq <| c_seq <| c_reg <| s_y y_mv <| s_pure (fun w' hw => r8_scalar_ok w' a) <| ?_
  cases hs : sc a with
  | false =>
    rw [splE, hs, if_neg (by decide)]
    refine s_y (v := .bool true) (y_not (b := false)) <| s_nil <| q_then <| c_t <| c_seq <| c_reg <| s_y y_as <| s_y y_as <| s_nil <| q_then <| c_ret <| q_ret <| ?_
    exact ret2 Tryz.results7 rv_t rv_t fun w' hw => ⟨rfl, hw.sub (List.nil_sublist _)⟩
  | true =>
    rw [splE, hs, if_pos rfl]
    have h := h.resolve_left (by rw [hs]; decide)
    refine s_y (v := .bool false) (y_not (b := true)) <| s_nil <| q_then <| c_f <| c_skip <| q_then <| c_seq <| c_seq <| c_reg <| s_y y_mv <| ?_
    by_cases g1 : n < 1
    · refine s_kt (y_lss (p := n) (q := 1)) g1 <| s_y y_mv <| s_no <| s_no <| s_no <| s_y y_pk <| s_y y_mv <| s_no <| s_no <| s_y y_pk <| s_nil <| q_then <| c_t <| c_seq <| c_reg <| s_y y_as <| s_y y_as <| s_nil <| q_then <| c_ret <| q_ret <| ?_
      exact ret2 Tryz.results7 rv_t rv_t fun w' hw => ⟨rfl, hw.sub (List.nil_sublist _)⟩
    by_cases g2 : m < n
    · refine s_kf (y_lss (p := n) (q := 1)) g1 <| s_y y_mv <| s_y y_mv <| s_y y_mv <| s_kt (y_gtr (p := n) (q := m)) g2 <| s_y y_pk <| s_y y_mv <| s_no <| s_no <| s_y y_pk <| s_nil <| q_then <| c_t <| c_seq <| c_reg <| s_y y_as <| s_y y_as <| s_nil <| q_then <| c_ret <| q_ret <| ?_
      exact ret2 Tryz.results7 rv_t rv_t fun w' hw => ⟨rfl, hw.sub (List.nil_sublist _)⟩
    refine s_kf (y_lss (p := n) (q := 1)) g1 <| s_y y_mv <| s_y y_mv <| s_y y_mv <| s_kf (y_gtr (p := n) (q := m)) g2 <| s_y y_pk <| s_y y_mv <| s_y y_mv <| s_kt (y_gtr (p := m) (q := 64)) (by omega) <| s_y y_pk <| s_nil <| q_then <| c_t <| c_seq <| c_reg <| s_y y_as <| s_y y_as <| s_nil <| q_then <| c_ret <| q_ret <| ?_
    exact ret2 Tryz.results7 rv_t rv_t fun w' hw => ⟨rfl, hw.sub (List.nil_sublist _)⟩
theorem r8_Split_yes (w : World) (x n m : Nat) (k : List UInt8) (hk : k.length = 32) (hx : x < 2305843009213688669) (hn : n + 1 ≤ m) (hm : m ≤ 64) :
    Gives Tryz.prog 7 [I x, I (n + 1 : Nat), I m, .agg (bs k).toArray] w [] (fun y : Option Addr × Nat => .tuple #[.slice y.1 m y.2, I 0]) (fun y => [.row y.1 y.2 36 2 m (shc (sN (spl (cof k x n) m)))]) (fun _ => True) := by
  have hcl := cof_length k x n
  refine enter Tryz.func7 Tryz.ntmps7 ?_
  refine c_seq <| c_reg <| s_box rfl fun b7 => s_y y_as <| s_y y_as <| s_nil <| q_then <| c_seq <| c_seq <| c_reg <| s_y y_mv <| s_pure (fun w' hw => (by have h9 := r8_scalar_ok w' (x : Int); rw [sc_of hx] at h9; exact h9)) <| s_y (v := .bool false) (y_not (b := true)) <| s_nil <| q_then <| c_f <| c_skip <| q_then <| ?_
  refine c_seq <| c_seq <| c_reg <| s_y y_mv <| s_kf (y_lss (p := ((n + 1 : Nat) : Int)) (q := 1)) (by omega) <| s_y y_mv <| s_y y_mv <| s_y y_mv <| s_kf (y_gtr (p := ((n + 1 : Nat) : Int)) (q := ((m : Nat) : Int))) (by omega) <| s_y y_pk <| s_y y_mv <| s_y y_mv <| s_kf (y_gtr (p := ((m : Nat) : Int)) (q := 64)) (by omega) <| s_y y_pk <| s_nil <| q_then <| c_f <| c_skip <| q_then <| ?_
  refine c_seq <| c_reg <| s_y y_mv <| s_y y_mv <| s_y (y_lda (b := b7) (cs := (bs k).toArray) (hl := by simp [bs_length, hk])) <| s_gives (fun w' hw => r8_Coefficients_ok w' x n k hk hx (by omega)) fun y _ => ?_
  obtain ⟨a', c'⟩ := y
  refine s_y y_as <| s_nil <| q_then <| c_seq <| c_reg <| s_y y_as <| s_nil <| q_then <| c_seq <| c_seq <| c_reg <| s_y y_as <| s_nil <| q_then <| c_nilrow 36 2 <| c_block <| ?_
  refine c_loop3 (fun (i : Nat) (a2 : Option Addr) (c2 : Nat) => [(2, I m), (10, .slice a' (n + 1) c'), (11, .slice a2 i c2), (12, I (i + 1 : Nat))]) (fun i a2 c2 => [.row a2 c2 36 2 i (shc (sN (spl (cof k x n) i))), .row a' c' 3 1 (n + 1) (is (ni (cof k x n)))]) (fun i _ _ => i ≤ m) (fun i _ _ => m - i) 0 none 0 (Nat.zero_le _) ⟨rfl, rfl, rfl, rfl, trivial⟩ (.cons_cons _ (.cons_cons _ (List.nil_sublist _))) ?_
  intro i a2 c2 hi
  by_cases him : i < m
  · refine c_seq <| c_seq <| c_reg <| s_y y_mv <| s_y y_mv <| s_kt (y_leq (p := ((i + 1 : Nat) : Int)) (q := ((m : Nat) : Int))) (by omega) <| s_nil <| q_then <| c_t <| c_skip <| q_then <| c_seq <| c_block <| c_seq <| c_reg <| s_y y_mv <| s_y y_mv <| s_pure (fun w' hw => by
      have h9 := r3_Eval_yes w' a' c' (cof k x n) (i + 1) (rdR (.tail _ (.head _)) w' hw) (by rw [hcl]; omega) (cof_lt k hx n) (by omega)
      rw [hcl] at h9
      exact h9) <| s_y y_mv <| s_y y_ext <| s_y y_ext <| s_y y_as <| s_y y_as <| s_nil <| q_then <| ?_
    refine c_reg <| s_y y_mv <| s_y y_mv <| s_y y_mv <| s_y (y_bshr (cs := [I (i + 1 : Nat), I (hor (cof k x n) (i + 1) : Nat)])) <| s_bslr (cs := shc (sN [(i + 1, hor (cof k x n) (i + 1))])) fun b48 => s_app (m := 1) (fun w' hw => Src.slice (rdR (.head _) w' hw) rfl) (h1 := shc_one _) (hm := .tail _ (.head _)) (hrep := fun _ _ => .tail _ (.head _)) fun a49 c49 h49 => ?_
    rw [← shc_append, ← sN_append, ← spl_succ]
    refine s_y y_as <| s_nil <| q_nb <| q_then <| c_reg <| s_y y_mv <| s_y (y_add (p := ((i + 1 : Nat) : Int)) (q := 1)) <| s_y y_as <| s_nil <| ?_
    rw [show ((i + 1 : Nat) : Int) + 1 = ((i + 1 + 1 : Nat) : Int) by omega]
    exact q_round3 (x := i) (y := a2) (z := c2) (i + 1) a49 c49 him (by omega) ⟨rfl, rfl, rfl, rfl, trivial⟩ (.cons _ (.refl _))
  · obtain rfl : i = m := by omega
    refine c_seq <| c_seq <| c_reg <| s_y y_mv <| s_y y_mv <| s_kf (y_leq (p := ((i + 1 : Nat) : Int)) (q := ((i : Nat) : Int))) (by omega) <| s_nil <| q_then <| c_f <| c_exit <| q_ex <| q_ex <| q_exb <| q_then <| c_seq <| c_reg <| s_y y_mv <| s_y y_as <| s_y y_as <| s_nil <| q_then <| c_ret <| ?_
    exact ret2 Tryz.results7 rv_t rv_t fun w' hw => ⟨(a2, c2), trivial, rfl, hw.sub (.cons_cons _ (List.nil_sublist _))⟩
end Go.Proofs.YtnmaegbobfngeaaGreatDoor
