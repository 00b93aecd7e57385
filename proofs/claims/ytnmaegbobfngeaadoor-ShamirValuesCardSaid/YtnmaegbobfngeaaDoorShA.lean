/- Shares of secrets: sums and differences in the field; checks. -/
import Derived.Test.YtnmaegbobfngeaaDoorFld
namespace Gf
open Go Eng
theorem sub_lt {x y : Nat} (hx : x < 2305843009213688669) (hy : y < 2305843009213688669) (h : y ≤ x) : (x + (2305843009213688669 - y)) % 2305843009213688669 = x - y := by omega
theorem sub_ge {x y : Nat} (hx : x < 2305843009213688669) (hy : y < 2305843009213688669) (h : x < y) : (x + (2305843009213688669 - y)) % 2305843009213688669 = x + 2305843009213688669 - y := by omega
/-- the cells of shares -/
def shc (l : List (Int × Int)) : List Value := l.flatMap fun s => [I s.1, I s.2]
theorem shc_length (l : List (Int × Int)) : (shc l).length = l.length * 2 := by
  induction l with
  | nil => rfl
  | cons s l ih => rw [shc, List.flatMap_cons, List.length_append, List.length_cons, ← shc, ih]; simp only [List.length_cons, List.length_nil]; omega
theorem shc_append (a b : List (Int × Int)) : shc (a ++ b) = shc a ++ shc b := List.flatMap_append
theorem shc_mid (d : List (Int × Int)) (s : Int × Int) (r : List (Int × Int)) (j : Nat) (v : Value) (h : [I s.1, I s.2][j]? = some v) : (shc (d ++ s :: r))[d.length * 2 + j]? = some v := by
  have hj : j < 2 := (List.getElem?_eq_some_iff.1 h).1
  rw [shc_append, List.getElem?_append_right (by rw [shc_length]; omega), shc_length, Nat.add_sub_cancel_left, shc, List.flatMap_cons, List.getElem?_append_left (by simpa using hj)]
  exact h
/-- are places growing, and all in bounds? -/
def okS : Int → List (Int × Int) → Bool
  | _, [] => true
  | last, s :: l => decide (last < s.1) && (decide (s.1 ≤ 64) && (sc s.2 && okS s.1 l))
def chS (l : List (Int × Int)) : Int := if 1 ≤ l.length ∧ l.length ≤ 64 ∧ okS 0 l = true then 0 else 80
end Gf
namespace Go.Proofs.YtnmaegbobfngeaaDoor
open Go Eng Gf
theorem f_Add_yes (w : World) (x y : Nat) (hx : x < 2305843009213688669) (hy : y < 2305843009213688669) : Pure Tryd.prog 25 [I x, I y] w (.tuple #[I ((x + y) % 2305843009213688669 : Nat), I 0]) := by
  refine enter Tryd.func25 Tryd.ntmps25 ?_
  refine c_seq <| c_reg <| s_y y_as <| s_y y_as <| s_nil <| q_then <| c_seq <| c_seq <| c_reg <| s_y y_mv <| s_y y_mv <| s_bslr (cs := is [(x : Int), (y : Int)]) fun b8 => s_pure (fun w' hw => (by have h9 := f_outside_ok w' (some ⟨b8, 0, none⟩) 2 [(x : Int), (y : Int)] (rdR (.head _) w' hw) (by simp); rw [show ([(x : Int), (y : Int)].any fun n => !sc n) = false by simp [sc_of hx, sc_of hy]] at h9; exact h9)) <| s_nil <| q_then <| c_f <| c_skip <| q_then <| c_seq <| c_reg <| s_y y_mv <| s_y y_mv <| s_y (y_add (p := (x : Int)) (q := (y : Int))) <| s_y (y_rem (p := (x : Int) + y) (q := 2305843009213688669)) <| ?_
  rw [show ((x : Int) + y) % 2305843009213688669 = (((x + y) % 2305843009213688669 : Nat) : Int) by omega]
  refine s_y y_as <| s_y y_as <| s_nil <| q_then <| c_ret <| ?_
  exact ret2 Tryd.results25 rv_t rv_t fun w' hw => ⟨rfl, hw.sub (List.nil_sublist _)⟩
theorem f_Sub_yes (w : World) (x y : Nat) (hx : x < 2305843009213688669) (hy : y < 2305843009213688669) : Pure Tryd.prog 22 [I x, I y] w (.tuple #[I ((x + (2305843009213688669 - y)) % 2305843009213688669 : Nat), I 0]) := by
  refine enter Tryd.func22 Tryd.ntmps22 ?_
  refine c_seq <| c_reg <| s_y y_as <| s_y y_as <| s_nil <| q_then <| c_seq <| c_seq <| c_reg <| s_y y_mv <| s_y y_mv <| s_bslr (cs := is [(x : Int), (y : Int)]) fun b8 => s_pure (fun w' hw => (by have h9 := f_outside_ok w' (some ⟨b8, 0, none⟩) 2 [(x : Int), (y : Int)] (rdR (.head _) w' hw) (by simp); rw [show ([(x : Int), (y : Int)].any fun n => !sc n) = false by simp [sc_of hx, sc_of hy]] at h9; exact h9)) <| s_nil <| q_then <| c_f <| c_skip <| q_then <| c_seq <| c_seq <| c_reg <| s_y y_mv <| s_y y_mv <| ?_
  by_cases h : x < y
  · rw [sub_ge hx hy h]
    refine s_kt (y_lss (p := (x : Int)) (q := (y : Int))) (by omega) <| s_nil <| q_then <| c_t <| c_reg <| s_y y_mv <| s_y (y_add (p := (x : Int)) (q := 2305843009213688669)) <| s_y y_as <| s_nil <| q_then <| c_seq <| c_reg <| s_y y_mv <| s_y y_mv <| s_y (y_sub (p := (x : Int) + 2305843009213688669) (q := (y : Int))) <| ?_
    rw [show (x : Int) + 2305843009213688669 - y = ((x + 2305843009213688669 - y : Nat) : Int) by omega]
    refine s_y y_as <| s_y y_as <| s_nil <| q_then <| c_ret <| ?_
    exact ret2 Tryd.results22 rv_t rv_t fun w' hw => ⟨rfl, hw.sub (List.nil_sublist _)⟩
  · rw [sub_lt hx hy (by omega)]
    refine s_kf (y_lss (p := (x : Int)) (q := (y : Int))) (by omega) <| s_nil <| q_then <| c_f <| c_skip <| q_then <| c_seq <| c_reg <| s_y y_mv <| s_y y_mv <| s_y (y_sub (p := (x : Int)) (q := (y : Int))) <| ?_
    rw [show (x : Int) - y = ((x - y : Nat) : Int) by omega]
    refine s_y y_as <| s_y y_as <| s_nil <| q_then <| c_ret <| ?_
    exact ret2 Tryd.results22 rv_t rv_t fun w' hw => ⟨rfl, hw.sub (List.nil_sublist _)⟩
theorem f_Check_ok (w : World) (a : Int) : Pure Tryd.prog 55 [I a] w (I (bif sc a then 0 else 1)) := by
  refine enter Tryd.func55 Tryd.ntmps55 ?_
  refine c_seq <| c_reg <| s_y y_as <| s_nil <| q_then <| c_seq <| c_seq <| c_reg <| s_y y_mv <| s_bslr (cs := is [a]) fun b8 => s_pure (fun w' hw => f_outside_ok w' (some ⟨b8, 0, none⟩) 1 [a] (rdR (.head _) w' hw) (by simp)) <| ?_
  rw [show ([a].any fun n => !sc n) = !sc a by simp]
  cases h : sc a with
  | true =>
    refine s_nil <| q_then <| c_f <| c_skip <| q_then <| c_seq <| c_reg <| s_y y_as <| s_nil <| q_then <| c_ret <| ?_
    exact ret1 Tryd.results55 rv_t fun w' hw => ⟨rfl, hw.sub (List.nil_sublist _)⟩
  | false =>
    refine s_nil <| q_then <| c_t <| c_seq <| c_reg <| s_y y_as <| s_nil <| q_then <| c_ret <| q_ret <| ?_
    exact ret1 Tryd.results55 rv_t fun w' hw => ⟨rfl, hw.sub (List.nil_sublist _)⟩
theorem isScalar_ok (w : World) (a : Int) : Pure Tryd.prog 37 [I a] w (.bool (sc a)) := by
  refine enter Tryd.func37 Tryd.ntmps37 ?_
  refine c_seq <| c_reg <| s_y y_as <| s_nil <| q_then <| c_seq <| c_reg <| s_y y_mv <| s_pure (fun w' hw => f_Check_ok w' a) <| ?_
  cases h : sc a with
  | true =>
    refine s_kt (y_eql (p := 0) (q := 0)) rfl <| s_y y_as <| s_nil <| q_then <| c_ret <| ?_
    exact ret1 Tryd.results37 rv_t fun w' hw => ⟨rfl, hw.sub (List.nil_sublist _)⟩
  | false =>
    refine s_kf (y_eql (p := 1) (q := 0)) (by decide) <| s_y y_as <| s_nil <| q_then <| c_ret <| ?_
    exact ret1 Tryd.results37 rv_t fun w' hw => ⟨rfl, hw.sub (List.nil_sublist _)⟩
theorem r8_scalar_ok (w : World) (a : Int) : Pure Tryd.prog 38 [I a] w (.bool (sc a)) := by
  refine enter Tryd.func38 Tryd.ntmps38 ?_
  refine c_seq <| c_reg <| s_y y_as <| s_nil <| q_then <| c_seq <| c_reg <| s_y y_mv <| ?_
  by_cases h : a < 0
  · rw [sc_lo h]
    refine s_kf (y_geq (p := a) (q := 0)) (by omega) <| s_y y_mv <| s_no <| s_no <| s_y y_pk <| s_y y_as <| s_nil <| q_then <| c_ret <| ?_
    exact ret1 Tryd.results38 rv_t fun w' hw => ⟨rfl, hw.sub (List.nil_sublist _)⟩
  by_cases h' : 2305843009213688669 ≤ a
  · rw [sc_hi h']
    refine s_kt (y_geq (p := a) (q := 0)) (by omega) <| s_y y_mv <| s_y y_mv <| s_kf (y_lss (p := a) (q := 2305843009213688669)) (by omega) <| s_y y_pk <| s_y y_as <| s_nil <| q_then <| c_ret <| ?_
    exact ret1 Tryd.results38 rv_t fun w' hw => ⟨rfl, hw.sub (List.nil_sublist _)⟩
  obtain ⟨x, rfl⟩ : ∃ x : Nat, a = (x : Int) := ⟨a.toNat, by omega⟩
  rw [sc_of (by omega)]
  refine s_kt (y_geq (p := (x : Int)) (q := 0)) (by omega) <| s_y y_mv <| s_y y_mv <| s_kt (y_lss (p := (x : Int)) (q := 2305843009213688669)) (by omega) <| s_y y_pk <| s_y y_as <| s_nil <| q_then <| c_ret <| ?_
  exact ret1 Tryd.results38 rv_t fun w' hw => ⟨rfl, hw.sub (List.nil_sublist _)⟩
/-- Check of the program -/
theorem s_Check_ok (w : World) (a : Option Addr) (c : Nat) (l : List (Int × Int)) (hr : Rd w a (shc l)) (hl : l.length < 1000000000000000000) : Pure Tryd.prog 18 [.slice a l.length c] w (I (chS l)) := by
  refine enter Tryd.func18 Tryd.ntmps18 ?_
  refine c_seq <| c_reg <| s_y y_as <| s_nil <| q_then <| c_seq <| c_seq <| c_reg <| s_y y_mv <| s_y y_len <| ?_
  by_cases h1 : l.length < 1
  · rw [chS, if_neg (by omega)]
    refine s_kt (y_lss (p := ((l.length : Nat) : Int)) (q := 1)) (by omega) <| s_y y_mv <| s_no <| s_no <| s_no <| s_y y_pk <| s_nil <| q_then <| c_t <| c_seq <| c_reg <| s_y y_as <| s_nil <| q_then <| c_ret <| q_ret <| ?_
    exact ret1 Tryd.results18 rv_t fun w' hw => ⟨rfl, hw⟩
  by_cases h2 : 64 < l.length
  · rw [chS, if_neg (by omega)]
    refine s_kf (y_lss (p := ((l.length : Nat) : Int)) (q := 1)) (by omega) <| s_y y_mv <| s_y y_mv <| s_y y_len <| s_kt (y_gtr (p := ((l.length : Nat) : Int)) (q := 64)) (by omega) <| s_y y_pk <| s_nil <| q_then <| c_t <| c_seq <| c_reg <| s_y y_as <| s_nil <| q_then <| c_ret <| q_ret <| ?_
    exact ret1 Tryd.results18 rv_t fun w' hw => ⟨rfl, hw⟩
  have hch : ∀ b : Bool, okS 0 l = b → chS l = bif b then 0 else 80 := fun b hb => by
    unfold chS; rw [hb]; cases b
    · rw [if_neg (by simp)]; rfl
    · rw [if_pos ⟨by omega, by omega, rfl⟩]; rfl
  refine s_kf (y_lss (p := ((l.length : Nat) : Int)) (q := 1)) (by omega) <| s_y y_mv <| s_y y_mv <| s_y y_len <| s_kf (y_gtr (p := ((l.length : Nat) : Int)) (q := 64)) (by omega) <| s_y y_pk <| s_nil <| q_then <| c_f <| c_skip <| q_then <| c_seq <| c_reg <| s_y y_as <| s_nil <| q_then <| c_seq <| c_seq <| c_reg <| s_y y_mv <| s_y y_len <| s_y y_mv <| s_nil <| q_then <| c_block <| ?_
  refine c_loop3 (fun (d r : List (Int × Int)) (last : Int) => [(3, I last), (14, .slice a l.length c), (15, I l.length), (16, I d.length)]) (fun _ _ _ => []) (fun d r last => l = d ++ r ∧ okS last r = okS 0 l) (fun d r _ => r.length) [] l 0 ⟨rfl, rfl⟩ ⟨rfl, rfl, rfl, rfl, trivial⟩ (List.nil_sublist _) ?_
  rintro d r last ⟨e1, e2⟩
  have hlen : l.length = d.length + r.length := by rw [e1, List.length_append]
  cases r with
  | nil =>
    rw [List.length_nil, Nat.add_zero] at hlen
    rw [hch true (by rw [← e2]; rfl)]
    refine c_seq <| c_reg <| s_kf (y_lss (p := ((d.length : Nat) : Int)) (q := ((l.length : Nat) : Int))) (by omega) <| s_nil <| q_then <| c_seq <| c_f <| c_exit <| q_ex <| q_ex <| q_exb <| q_then <| c_seq <| c_reg <| s_y y_as <| s_nil <| q_then <| c_ret <| ?_
    exact ret1 Tryd.results18 rv_t fun w' hw => ⟨rfl, hw.sub (List.nil_sublist _)⟩
  | cons s r =>
    rw [List.length_cons] at hlen
    refine c_seq <| c_reg <| s_kt (y_lss (p := ((d.length : Nat) : Int)) (q := ((l.length : Nat) : Int))) (by omega) <| s_nil <| q_then <| c_seq <| c_t <| c_skip <| q_then <| c_seq <| c_block <| c_seq <| c_reg <| s_y (y_ixs (xs := shc l) (i := ((d.length : Nat) : Int)) (hl := by rw [shc_length]; omega)) <| s_y (y_ldra (i := d.length * 2) (cs := [I s.1, I s.2]) (rdW0 hr) rfl (by rw [e1]; exact shc_mid d s r)) <| s_alloc fun b5 => s_sta (b := b5) (vs := #[I s.1, I s.2]) (cs := #[I 0, I 0]) (h1 := by intro u hu; simp at hu; rcases hu with rfl | rfl <;> rfl) (hl := rfl) (hs1 := rfl) ?_
    have bad : ∀ {F : List (Nat × Value)} {l2 : SH} {Q : Exit → Act → World → Prop}, okS last (s :: r) = false → lkO F 2 = some (I 80) → QP 38 [] w [] (bodyPost Tryd.prog Tryd.f18 fun e w' => e = .returned (I (chS l)) ∧ St w [] w' []) .ret F l2 := by
      intro F l2 Q h9 h10
      exact ret1 Tryd.results18 (rv_t h10) fun w' hw => ⟨by rw [hch false (by rw [← e2, h9])]; rfl, hw.sub (List.nil_sublist _)⟩
    refine s_nil <| q_then <| c_seq <| c_seq <| c_reg <| s_y y_fa <| s_y (y_ld (v := I s.1)) <| s_y y_mv <| ?_
    by_cases g1 : s.1 ≤ last
    · refine s_kt (y_leq (p := s.1) (q := last)) g1 <| s_y y_mv <| s_no <| s_no <| s_no <| s_y y_pk <| s_y y_mv <| s_no <| s_no <| s_no <| s_no <| s_y y_pk <| s_nil <| q_then <| c_t <| c_seq <| c_reg <| s_y y_as <| s_nil <| q_then <| c_ret <| q_ret <| q_retb <| q_ret <| q_ret <| q_retb <| q_ret <| ?_
      exact bad (Q := fun _ _ _ => True) (by rw [okS, decide_eq_false (by omega)]; rfl) rfl
    by_cases g2 : 64 < s.1
    · refine s_kf (y_leq (p := s.1) (q := last)) g1 <| s_y y_mv <| s_y y_fa <| s_y (y_ld (v := I s.1)) <| s_kt (y_gtr (p := s.1) (q := 64)) g2 <| s_y y_pk <| s_y y_mv <| s_no <| s_no <| s_no <| s_no <| s_y y_pk <| s_nil <| q_then <| c_t <| c_seq <| c_reg <| s_y y_as <| s_nil <| q_then <| c_ret <| q_ret <| q_retb <| q_ret <| q_ret <| q_retb <| q_ret <| ?_
      exact bad (Q := fun _ _ _ => True) (by rw [okS, decide_eq_false (show ¬ s.1 ≤ 64 by omega)]; simp) rfl
    refine s_kf (y_leq (p := s.1) (q := last)) g1 <| s_y y_mv <| s_y y_fa <| s_y (y_ld (v := I s.1)) <| s_kf (y_gtr (p := s.1) (q := 64)) g2 <| s_y y_pk <| s_y y_mv <| s_y y_fa <| s_y (y_ld (v := I s.2)) <| s_pure (fun w' hw => isScalar_ok w' s.2) <| ?_
    cases g3 : sc s.2 with
    | false =>
      refine s_y (v := .bool true) (y_not (b := false)) <| s_y y_pk <| s_nil <| q_then <| c_t <| c_seq <| c_reg <| s_y y_as <| s_nil <| q_then <| c_ret <| q_ret <| q_retb <| q_ret <| q_ret <| q_retb <| q_ret <| ?_
      exact bad (Q := fun _ _ _ => True) (by rw [okS, g3]; simp) rfl
    | true =>
      refine s_y (v := .bool false) (y_not (b := true)) <| s_y y_pk <| s_nil <| q_then <| c_f <| c_skip <| q_then <| c_reg <| s_y y_fa <| s_y (y_ld (v := I s.1)) <| s_y y_as <| s_nil <| q_nb <| q_then <| c_reg <| s_y (y_add (p := ((d.length : Nat) : Int)) (q := 1)) <| s_y y_mv <| s_nil <| ?_
      rw [show ((d.length : Nat) : Int) + 1 = (((d ++ [s]).length : Nat) : Int) by simp]
      refine q_round3 (x := d) (y := s :: r) (z := last) (d ++ [s]) r s.1 ⟨by rw [e1, List.append_assoc]; rfl, by rw [← e2, okS, decide_eq_true (show last < s.1 by omega), decide_eq_true (show s.1 ≤ 64 by omega), g3]; rfl⟩ (Nat.lt_succ_self _) ⟨rfl, rfl, rfl, rfl, trivial⟩ (List.nil_sublist _)
end Go.Proofs.YtnmaegbobfngeaaDoor
