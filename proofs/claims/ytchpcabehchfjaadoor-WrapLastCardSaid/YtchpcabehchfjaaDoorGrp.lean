/- The group, in the program and in the reference. -/
import Derived.Test.YtchpcabehchfjaaDoorGf
namespace Go.Proofs.YtchpcabehchfjaaDoor
open Go Eng Gf

theorem gpow_ok (w : World) (b e : Nat) (hb : b < 4611686018427377339) (he : e < 18446744073709551616) : Pure Tryd.prog 40 [U b, U e] w (U (pp b e)) := by
  rw [pp_def]; exact group_power_ok w b e hb he
theorem gpowQ_ok (w : World) (b : Nat) (hb : b < 4611686018427377339) : Pure Tryd.prog 40 [U b, U 2305843009213688669] w (U (pp b Num.Q)) := gpow_ok w b Num.Q hb (show 2305843009213688669 < 18446744073709551616 by decide)
/-- a step of a power -/
theorem pow_odd {a c k m : Nat} (h : k % 2 = 1) : (c * a % m) * (a * a % m) ^ (k / 2) % m = c * a ^ k % m := by
  have e : c * a ^ k = (c * a) * (a * a) ^ (k / 2) := by
    rw [Nat.mul_pow, ← Nat.pow_add, Nat.mul_assoc, ← Nat.pow_add_one']; congr 2; omega
  rw [e, Nat.mul_mod, Nat.mod_mod, ← Nat.pow_mod, ← Nat.mul_mod]
theorem pow_even {a c k m : Nat} (h : k % 2 = 0) : c * (a * a % m) ^ (k / 2) % m = c * a ^ k % m := by
  have e : c * a ^ k = c * (a * a) ^ (k / 2) := by
    rw [Nat.mul_pow, ← Nat.pow_add]; congr 2; omega
  rw [e, Nat.mul_mod, ← Nat.pow_mod, ← Nat.mul_mod]
theorem rpow_ok (w : World) (b e : Nat) (hb : b < 4611686018427377339) (he : e < 4611686018427387904) : Pure Tryd.prog 45 [I b, I e] w (I (pp b e : Nat)) := by
  rw [pp_def]
  refine enter Tryd.func45 Tryd.ntmps45 ?_
  refine c_seq <| c_reg <| s_y y_as <| s_nil <| q_then <| c_seq <| c_reg <| s_y y_as <| s_nil <| q_then <| c_seq <| c_block <| ?_
  refine c_loop3 (fun (a k c : Nat) => [(0, I a), (1, I k), (5, I c)]) (fun _ _ _ => []) (fun a k c => c * a ^ k % 4611686018427377339 = b ^ e % 4611686018427377339 ∧ a < 4611686018427377339 ∧ c < 4611686018427377339 ∧ k < 4611686018427387904) (fun _ k _ => k) b e 1 ⟨by rw [Nat.one_mul], hb, by decide, he⟩ ⟨rfl, rfl, rfl, trivial⟩ (List.Sublist.refl _) ?_
  intro a k c ⟨h1, h2, h3, h4⟩
  refine c_seq <| c_seq <| c_reg <| s_y y_mv <| s_y (y_gtr (p := k) (q := 0)) <| s_nil <| q_then <| c_ifd (fun h7 => ?_) (fun h7 => ?_)
  · have hlt : ∀ u v : Nat, u * v % 4611686018427377339 < 4611686018427377339 := fun _ _ => Nat.mod_lt _ (by decide)
    refine c_skip <| q_then <| c_block <| c_seq <| c_seq <| c_reg <| s_y y_mv <| s_y (y_rem (p := k) (q := 2)) <| s_y (y_eql (p := (k : Int) % 2) (q := 1)) <| s_nil <| q_then <| c_ifd (fun h10 => ?_) (fun h10 => ?_)
    · have h5 := pow_odd (a := a) (k := k) (c := c) (m := 4611686018427377339) (by omega)
      refine c_reg <| s_y y_mv <| s_y y_mv <| s_pure (fun w' hw => ref04_Product_ok w' c a 4611686018427377339 h3 (by omega) (by decide)) <| s_y y_as <| s_nil <| q_then <| c_seq <| c_reg <| s_y y_mv <| s_y y_mv <| s_pure (fun w' hw => ref04_Product_ok w' a a 4611686018427377339 h2 (by omega) (by decide)) <| s_y y_as <| s_nil <| q_then <| c_reg <| s_y y_mv <| s_y (y_quo (p := k) (q := 2)) <| ?_
      rw [show (k : Int) / 2 = ((k / 2 : Nat) : Int) by omega]
      refine s_y y_as <| s_nil <| q_nb <| q_round3 (x := a) (y := k) (z := c) (a * a % 4611686018427377339) (k / 2) (c * a % 4611686018427377339) ⟨by rw [h5]; exact h1, hlt _ _, hlt _ _, by omega⟩ (by omega) ⟨rfl, rfl, rfl, trivial⟩ (List.Sublist.refl _)
    · have h5 := pow_even (a := a) (k := k) (c := c) (m := 4611686018427377339) (by omega)
      refine c_skip <| q_then <| c_seq <| c_reg <| s_y y_mv <| s_y y_mv <| s_pure (fun w' hw => ref04_Product_ok w' a a 4611686018427377339 h2 (by omega) (by decide)) <| s_y y_as <| s_nil <| q_then <| c_reg <| s_y y_mv <| s_y (y_quo (p := k) (q := 2)) <| ?_
      rw [show (k : Int) / 2 = ((k / 2 : Nat) : Int) by omega]
      refine s_y y_as <| s_nil <| q_nb <| q_round3 (x := a) (y := k) (z := c) (a * a % 4611686018427377339) (k / 2) c ⟨by rw [h5]; exact h1, hlt _ _, h3, by omega⟩ (by omega) ⟨rfl, rfl, rfl, trivial⟩ (List.Sublist.refl _)
  · have hk0 : k = 0 := by omega
    subst hk0
    rw [Nat.pow_zero, Nat.mul_one, Nat.mod_eq_of_lt h3] at h1
    refine c_exit <| q_ex <| q_ex <| q_exb <| q_then <| c_seq <| c_reg <| s_y y_mv <| s_y y_as <| s_nil <| q_then <| c_ret <| ?_
    exact ret1 Tryd.results45 rv_t fun w' hw => ⟨by rw [h1], hw⟩
theorem rpowQ_ok (w : World) (b : Nat) (hb : b < 4611686018427377339) : Pure Tryd.prog 45 [I b, I 2305843009213688669] w (I (pp b Num.Q : Nat)) := rpow_ok w b Num.Q hb (show 2305843009213688669 < 4611686018427387904 by decide)

theorem gCheck_yes (w : World) (x : Nat) (h : El x) : Pure Tryd.prog 36 [I x] w (I 0) := by
  have hx0 := h.pos
  have hx1 := h.lt
  refine enter Tryd.func36 Tryd.ntmps36 ?_
  refine c_seq <| c_reg <| s_y y_as <| s_nil <| q_then <| c_seq <| c_seq <| c_reg <| s_y y_mv <| s_kf (y_lss (p := (x : Int)) (q := 1)) (by have := h.pos; omega) <| s_y y_mv <| s_y y_mv <| s_kf (y_geq (p := (x : Int)) (q := 4611686018427377339)) (by have := h.lt; omega) <| s_y y_pk <| s_y y_mv <| s_y y_mv <| s_y (y_cvn (k := .u64) (p := (x : Int)) (hw := wrap_u64 (by omega) (by omega))) <| s_pure (fun w' hw => gpowQ_ok w' x (by omega)) <| s_nf (y_neq) (by rw [h.one]; rfl) <| s_y y_pk <| s_nil <| q_then <| c_f <| c_skip <| q_then <| c_seq <| c_reg <| s_y y_as <| s_nil <| q_then <| c_ret <| ?_
  exact ret1 Tryd.results36 rv_t fun w' hw => ⟨rfl, hw.sub (List.nil_sublist _)⟩

theorem gCheck_in (w : World) (x : Nat) (hx0 : 0 < x) (hx1 : x < 4611686018427377339) (h : ¬ pp x Num.Q = 1) : Pure Tryd.prog 36 [I x] w (I 40) := by
  refine enter Tryd.func36 Tryd.ntmps36 ?_
  refine c_seq <| c_reg <| s_y y_as <| s_nil <| q_then <| c_seq <| c_seq <| c_reg <| s_y y_mv <| s_kf (y_lss (p := (x : Int)) (q := 1)) (by omega) <| s_y y_mv <| s_y y_mv <| s_kf (y_geq (p := (x : Int)) (q := 4611686018427377339)) (by omega) <| s_y y_pk <| s_y y_mv <| s_y y_mv <| s_y (y_cvn (k := .u64) (p := (x : Int)) (hw := wrap_u64 (by omega) (by omega))) <| s_pure (fun w' hw => gpowQ_ok w' x (by omega)) <| s_nt (y_neq) (by omega) <| s_y y_pk <| s_nil <| q_then <| c_t <| c_seq <| c_reg <| s_y y_as <| s_nil <| q_then <| c_ret <| q_ret <| ?_
  exact ret1 Tryd.results36 rv_t fun w' hw => ⟨rfl, hw.sub (List.nil_sublist _)⟩

theorem gCheck_lo (w : World) (a : Int) (h : a < 1) : Pure Tryd.prog 36 [I a] w (I 40) := by
  refine enter Tryd.func36 Tryd.ntmps36 ?_
  refine c_seq <| c_reg <| s_y y_as <| s_nil <| q_then <| c_seq <| c_seq <| c_reg <| s_y y_mv <| s_kt (y_lss (p := a) (q := 1)) h <| s_y y_mv <| s_no <| s_no <| s_y y_pk <| s_y y_mv <| s_no <| s_no <| s_no <| s_no <| s_y y_pk <| s_nil <| q_then <| c_t <| c_seq <| c_reg <| s_y y_as <| s_nil <| q_then <| c_ret <| q_ret <| ?_
  exact ret1 Tryd.results36 rv_t fun w' hw => ⟨rfl, hw.sub (List.nil_sublist _)⟩

theorem gCheck_hi (w : World) (a : Int) (h : 4611686018427377339 ≤ a) : Pure Tryd.prog 36 [I a] w (I 40) := by
  refine enter Tryd.func36 Tryd.ntmps36 ?_
  refine c_seq <| c_reg <| s_y y_as <| s_nil <| q_then <| c_seq <| c_seq <| c_reg <| s_y y_mv <| s_kf (y_lss (p := a) (q := 1)) (by omega) <| s_y y_mv <| s_y y_mv <| s_kt (y_geq (p := a) (q := 4611686018427377339)) h <| s_y y_pk <| s_y y_mv <| s_no <| s_no <| s_no <| s_no <| s_y y_pk <| s_nil <| q_then <| c_t <| c_seq <| c_reg <| s_y y_as <| s_nil <| q_then <| c_ret <| q_ret <| ?_
  exact ret1 Tryd.results36 rv_t fun w' hw => ⟨rfl, hw.sub (List.nil_sublist _)⟩

theorem gCheck_no (w : World) (a : Int) (h : el a = false) : Pure Tryd.prog 36 [I a] w (I 40) := by
  by_cases h1 : a < 1
  · exact gCheck_lo w a h1
  by_cases h2 : 4611686018427377339 ≤ a
  · exact gCheck_hi w a h2
  obtain ⟨x, rfl⟩ : ∃ x : Nat, a = (x : Int) := ⟨a.toNat, by omega⟩
  rw [el_of (by omega) (by omega)] at h
  exact gCheck_in w x (by omega) (by omega) (of_decide_eq_false h)
theorem gCheck_ok (w : World) (a : Int) : Pure Tryd.prog 36 [I a] w (I (chk a)) := by
  cases h : el a with
  | true =>
    obtain ⟨x, rfl, h0, h1, h2⟩ := el_nat h
    rw [chk, h]
    exact gCheck_yes w x ⟨h0, h1, h2⟩
  | false => rw [chk, h]; exact gCheck_no w a h

theorem rCheck_yes (w : World) (x : Nat) (h : El x) : Pure Tryd.prog 24 [I x] w (I 0) := by
  have hx0 := h.pos
  have hx1 := h.lt
  refine enter Tryd.func24 Tryd.ntmps24 ?_
  refine c_seq <| c_reg <| s_y y_as <| s_nil <| q_then <| c_seq <| c_seq <| c_reg <| s_y y_mv <| s_kf (y_lss (p := (x : Int)) (q := 1)) (by have := h.pos; omega) <| s_y y_mv <| s_y y_mv <| s_kf (y_geq (p := (x : Int)) (q := 4611686018427377339)) (by have := h.lt; omega) <| s_y y_pk <| s_y y_mv <| s_y y_mv <| s_pure (fun w' hw => rpowQ_ok w' x (by omega)) <| s_nf (y_neq (p := (pp x Num.Q : Int)) (q := 1)) (by rw [h.one]; rfl) <| s_y y_pk <| s_nil <| q_then <| c_f <| c_skip <| q_then <| c_seq <| c_reg <| s_y y_as <| s_nil <| q_then <| c_ret <| ?_
  exact ret1 Tryd.results24 rv_t fun w' hw => ⟨rfl, hw.sub (List.nil_sublist _)⟩

theorem rCheck_in (w : World) (x : Nat) (hx0 : 0 < x) (hx1 : x < 4611686018427377339) (h : ¬ pp x Num.Q = 1) : Pure Tryd.prog 24 [I x] w (I 40) := by
  refine enter Tryd.func24 Tryd.ntmps24 ?_
  refine c_seq <| c_reg <| s_y y_as <| s_nil <| q_then <| c_seq <| c_seq <| c_reg <| s_y y_mv <| s_kf (y_lss (p := (x : Int)) (q := 1)) (by omega) <| s_y y_mv <| s_y y_mv <| s_kf (y_geq (p := (x : Int)) (q := 4611686018427377339)) (by omega) <| s_y y_pk <| s_y y_mv <| s_y y_mv <| s_pure (fun w' hw => rpowQ_ok w' x (by omega)) <| s_nt (y_neq (p := (pp x Num.Q : Int)) (q := 1)) (by omega) <| s_y y_pk <| s_nil <| q_then <| c_t <| c_seq <| c_reg <| s_y y_as <| s_nil <| q_then <| c_ret <| q_ret <| ?_
  exact ret1 Tryd.results24 rv_t fun w' hw => ⟨rfl, hw.sub (List.nil_sublist _)⟩

theorem rCheck_lo (w : World) (a : Int) (h : a < 1) : Pure Tryd.prog 24 [I a] w (I 40) := by
  refine enter Tryd.func24 Tryd.ntmps24 ?_
  refine c_seq <| c_reg <| s_y y_as <| s_nil <| q_then <| c_seq <| c_seq <| c_reg <| s_y y_mv <| s_kt (y_lss (p := a) (q := 1)) h <| s_y y_mv <| s_no <| s_no <| s_y y_pk <| s_y y_mv <| s_no <| s_no <| s_no <| s_y y_pk <| s_nil <| q_then <| c_t <| c_seq <| c_reg <| s_y y_as <| s_nil <| q_then <| c_ret <| q_ret <| ?_
  exact ret1 Tryd.results24 rv_t fun w' hw => ⟨rfl, hw.sub (List.nil_sublist _)⟩

theorem rCheck_hi (w : World) (a : Int) (h : 4611686018427377339 ≤ a) : Pure Tryd.prog 24 [I a] w (I 40) := by
  refine enter Tryd.func24 Tryd.ntmps24 ?_
  refine c_seq <| c_reg <| s_y y_as <| s_nil <| q_then <| c_seq <| c_seq <| c_reg <| s_y y_mv <| s_kf (y_lss (p := a) (q := 1)) (by omega) <| s_y y_mv <| s_y y_mv <| s_kt (y_geq (p := a) (q := 4611686018427377339)) h <| s_y y_pk <| s_y y_mv <| s_no <| s_no <| s_no <| s_y y_pk <| s_nil <| q_then <| c_t <| c_seq <| c_reg <| s_y y_as <| s_nil <| q_then <| c_ret <| q_ret <| ?_
  exact ret1 Tryd.results24 rv_t fun w' hw => ⟨rfl, hw.sub (List.nil_sublist _)⟩

theorem rCheck_no (w : World) (a : Int) (h : el a = false) : Pure Tryd.prog 24 [I a] w (I 40) := by
  by_cases h1 : a < 1
  · exact rCheck_lo w a h1
  by_cases h2 : 4611686018427377339 ≤ a
  · exact rCheck_hi w a h2
  obtain ⟨x, rfl⟩ : ∃ x : Nat, a = (x : Int) := ⟨a.toNat, by omega⟩
  rw [el_of (by omega) (by omega)] at h
  exact rCheck_in w x (by omega) (by omega) (of_decide_eq_false h)
theorem rCheck_ok (w : World) (a : Int) : Pure Tryd.prog 24 [I a] w (I (chk a)) := by
  cases h : el a with
  | true =>
    obtain ⟨x, rfl, h0, h1, h2⟩ := el_nat h
    rw [chk, h]
    exact rCheck_yes w x ⟨h0, h1, h2⟩
  | false => rw [chk, h]; exact rCheck_no w a h

theorem rIsScalar_yes (w : World) (x : Nat) (h : x < 2305843009213688669) : Pure Tryd.prog 49 [I x] w (.bool true) := by
  refine enter Tryd.func49 Tryd.ntmps49 ?_
  refine c_seq <| c_reg <| s_y y_as <| s_nil <| q_then <| c_seq <| c_reg <| s_y y_mv <| s_kt (y_geq (p := (x : Int)) (q := 0)) (by omega) <| s_y y_mv <| s_y y_mv <| s_kt (y_lss (p := (x : Int)) (q := 2305843009213688669)) (by omega) <| s_y y_pk <| s_y y_as <| s_nil <| q_then <| c_ret <| ?_
  exact ret1 Tryd.results49 rv_t fun w' hw => ⟨rfl, hw.sub (List.nil_sublist _)⟩

theorem rIsScalar_lo (w : World) (a : Int) (h : a < 0) : Pure Tryd.prog 49 [I a] w (.bool false) := by
  refine enter Tryd.func49 Tryd.ntmps49 ?_
  refine c_seq <| c_reg <| s_y y_as <| s_nil <| q_then <| c_seq <| c_reg <| s_y y_mv <| s_kf (y_geq (p := a) (q := 0)) (by omega) <| s_y y_mv <| s_no <| s_no <| s_y y_pk <| s_y y_as <| s_nil <| q_then <| c_ret <| ?_
  exact ret1 Tryd.results49 rv_t fun w' hw => ⟨rfl, hw.sub (List.nil_sublist _)⟩

theorem rIsScalar_hi (w : World) (a : Int) (h : 2305843009213688669 ≤ a) : Pure Tryd.prog 49 [I a] w (.bool false) := by
  refine enter Tryd.func49 Tryd.ntmps49 ?_
  refine c_seq <| c_reg <| s_y y_as <| s_nil <| q_then <| c_seq <| c_reg <| s_y y_mv <| s_kt (y_geq (p := a) (q := 0)) (by omega) <| s_y y_mv <| s_y y_mv <| s_kf (y_lss (p := a) (q := 2305843009213688669)) (by omega) <| s_y y_pk <| s_y y_as <| s_nil <| q_then <| c_ret <| ?_
  exact ret1 Tryd.results49 rv_t fun w' hw => ⟨rfl, hw.sub (List.nil_sublist _)⟩

theorem rIsScalar_ok (w : World) (a : Int) : Pure Tryd.prog 49 [I a] w (.bool (sc a)) := by
  by_cases h1 : a < 0
  · rw [sc_lo h1]; exact rIsScalar_lo w a h1
  by_cases h2 : 2305843009213688669 ≤ a
  · rw [sc_hi h2]; exact rIsScalar_hi w a h2
  obtain ⟨x, rfl⟩ : ∃ x : Nat, a = (x : Int) := ⟨a.toNat, by omega⟩
  rw [sc_of (by omega)]
  exact rIsScalar_yes w x (by omega)

theorem gExp_bad (w : World) (a k : Int) (h : el a = false) : Pure Tryd.prog 19 [I a, I k] w (.tuple #[I 0, I 40]) := by
  refine enter Tryd.func19 Tryd.ntmps19 ?_
  refine c_seq <| c_reg <| s_y y_as <| s_y y_as <| s_nil <| q_then <| c_seq <| c_seq <| c_reg <| s_y y_mv <| s_pure (fun w' hw => gCheck_no w' a h) <| s_y y_as <| s_nil <| q_then <| c_seq <| c_reg <| s_y y_mv <| s_nt (y_neq (p := 40) (q := 0)) (by omega) <| s_nil <| q_then <| c_t <| c_seq <| c_reg <| s_y y_mv <| s_y y_as <| s_y y_as <| s_nil <| q_then <| c_ret <| q_ret <| ?_
  exact ret2 Tryd.results19 rv_t rv_t fun w' hw => ⟨rfl, hw.sub (List.nil_sublist _)⟩

theorem gExp_lo (w : World) (x : Nat) (k : Int) (h : El x) (hk : k < 0) : Pure Tryd.prog 19 [I x, I k] w (.tuple #[I 0, I 1]) := by
  refine enter Tryd.func19 Tryd.ntmps19 ?_
  refine c_seq <| c_reg <| s_y y_as <| s_y y_as <| s_nil <| q_then <| c_seq <| c_seq <| c_reg <| s_y y_mv <| s_pure (fun w' hw => gCheck_yes w' x h) <| s_y y_as <| s_nil <| q_then <| c_seq <| c_reg <| s_y y_mv <| s_nf (y_neq (p := 0) (q := 0)) (by omega) <| s_nil <| q_then <| c_f <| c_skip <| q_then <| c_seq <| c_seq <| c_reg <| s_y y_mv <| s_kt (y_lss (p := k) (q := 0)) (by omega) <| s_y y_mv <| s_no <| s_no <| s_y y_pk <| s_nil <| q_then <| c_t <| c_seq <| c_reg <| s_y y_as <| s_y y_as <| s_nil <| q_then <| c_ret <| q_ret <| ?_
  exact ret2 Tryd.results19 rv_t rv_t fun w' hw => ⟨rfl, hw.sub (List.nil_sublist _)⟩

theorem gExp_hi (w : World) (x : Nat) (k : Int) (h : El x) (hk : 2305843009213688669 ≤ k) : Pure Tryd.prog 19 [I x, I k] w (.tuple #[I 0, I 1]) := by
  refine enter Tryd.func19 Tryd.ntmps19 ?_
  refine c_seq <| c_reg <| s_y y_as <| s_y y_as <| s_nil <| q_then <| c_seq <| c_seq <| c_reg <| s_y y_mv <| s_pure (fun w' hw => gCheck_yes w' x h) <| s_y y_as <| s_nil <| q_then <| c_seq <| c_reg <| s_y y_mv <| s_nf (y_neq (p := 0) (q := 0)) (by omega) <| s_nil <| q_then <| c_f <| c_skip <| q_then <| c_seq <| c_seq <| c_reg <| s_y y_mv <| s_kf (y_lss (p := k) (q := 0)) (by omega) <| s_y y_mv <| s_y y_mv <| s_kt (y_geq (p := k) (q := 2305843009213688669)) (by omega) <| s_y y_pk <| s_nil <| q_then <| c_t <| c_seq <| c_reg <| s_y y_as <| s_y y_as <| s_nil <| q_then <| c_ret <| q_ret <| ?_
  exact ret2 Tryd.results19 rv_t rv_t fun w' hw => ⟨rfl, hw.sub (List.nil_sublist _)⟩

theorem gExp_yes (w : World) (x k : Nat) (h : El x) (hk : k < 2305843009213688669) : Pure Tryd.prog 19 [I x, I k] w (.tuple #[I (pp x k : Nat), I 0]) := by
  have hx0 := h.pos
  have hx1 := h.lt
  have hpl := pp_lt x k
  refine enter Tryd.func19 Tryd.ntmps19 ?_
  refine c_seq <| c_reg <| s_y y_as <| s_y y_as <| s_nil <| q_then <| c_seq <| c_seq <| c_reg <| s_y y_mv <| s_pure (fun w' hw => gCheck_yes w' x h) <| s_y y_as <| s_nil <| q_then <| c_seq <| c_reg <| s_y y_mv <| s_nf (y_neq (p := 0) (q := 0)) (by omega) <| s_nil <| q_then <| c_f <| c_skip <| q_then <| c_seq <| c_seq <| c_reg <| s_y y_mv <| s_kf (y_lss (p := (k : Int)) (q := 0)) (by omega) <| s_y y_mv <| s_y y_mv <| s_kf (y_geq (p := (k : Int)) (q := 2305843009213688669)) (by omega) <| s_y y_pk <| s_nil <| q_then <| c_f <| c_skip <| q_then <| c_seq <| c_reg <| s_y y_mv <| s_y (y_cvn (k := .u64) (p := (x : Int)) (hw := wrap_u64 (by omega) (by omega))) <| s_y y_mv <| s_y (y_cvn (k := .u64) (p := (k : Int)) (hw := wrap_u64 (by omega) (by omega))) <| s_pure (fun w' hw => gpow_ok w' x k (by omega) (by omega)) <| s_y (y_cvn (k := .i64) (p := ((pp x k : Nat) : Int)) (hw := wrap_i64 (by unfold R64; omega))) <| s_y y_as <| s_y y_as <| s_nil <| q_then <| c_ret <| ?_
  exact ret2 Tryd.results19 rv_t rv_t fun w' hw => ⟨rfl, hw.sub (List.nil_sublist _)⟩

theorem gExp_ok (w : World) (a k : Int) : Pure Tryd.prog 19 [I a, I k] w (.tuple #[I (expV a k), I (expE a k)]) := by
  cases h : el a with
  | false => rw [expV, expE, h]; exact gExp_bad w a k h
  | true =>
    obtain ⟨x, rfl, h0, h1, h2⟩ := el_nat h
    by_cases hk : k < 0
    · rw [expV, expE, h, sc_lo hk]; exact gExp_lo w x k ⟨h0, h1, h2⟩ hk
    by_cases hk2 : 2305843009213688669 ≤ k
    · rw [expV, expE, h, sc_hi hk2]; exact gExp_hi w x k ⟨h0, h1, h2⟩ hk2
    obtain ⟨m, rfl⟩ : ∃ m : Nat, k = (m : Int) := ⟨k.toNat, by omega⟩
    rw [expV, expE, h, sc_of (by omega), Int.toNat_natCast, Int.toNat_natCast]
    exact gExp_yes w x m ⟨h0, h1, h2⟩ (by omega)

theorem rExp_bad (w : World) (a k : Int) (h : el a = false) : Pure Tryd.prog 30 [I a, I k] w (.tuple #[I 0, I 40]) := by
  refine enter Tryd.func30 Tryd.ntmps30 ?_
  refine c_seq <| c_reg <| s_y y_as <| s_y y_as <| s_nil <| q_then <| c_seq <| c_reg <| s_y y_mv <| s_pure (fun w' hw => rCheck_no w' a h) <| s_y y_as <| s_nil <| q_then <| c_seq <| c_seq <| c_reg <| s_y y_mv <| s_nt (y_neq (p := 40) (q := 0)) (by omega) <| s_nil <| q_then <| c_t <| c_seq <| c_reg <| s_y y_mv <| s_y y_as <| s_y y_as <| s_nil <| q_then <| c_ret <| q_ret <| ?_
  exact ret2 Tryd.results30 rv_t rv_t fun w' hw => ⟨rfl, hw.sub (List.nil_sublist _)⟩

theorem rExp_lo (w : World) (x : Nat) (k : Int) (h : El x) (hk : k < 0) : Pure Tryd.prog 30 [I x, I k] w (.tuple #[I 0, I 1]) := by
  refine enter Tryd.func30 Tryd.ntmps30 ?_
  refine c_seq <| c_reg <| s_y y_as <| s_y y_as <| s_nil <| q_then <| c_seq <| c_reg <| s_y y_mv <| s_pure (fun w' hw => rCheck_yes w' x h) <| s_y y_as <| s_nil <| q_then <| c_seq <| c_seq <| c_reg <| s_y y_mv <| s_nf (y_neq (p := 0) (q := 0)) (by omega) <| s_nil <| q_then <| c_f <| c_skip <| q_then <| c_seq <| c_seq <| c_reg <| s_y y_mv <| s_pure (fun w' hw => (by have h9 := rIsScalar_ok w' k; rw [sc_lo hk] at h9; exact h9)) <| s_y (v := .bool true) (y_not (b := false)) <| s_nil <| q_then <| c_t <| c_seq <| c_reg <| s_y y_as <| s_y y_as <| s_nil <| q_then <| c_ret <| q_ret <| ?_
  exact ret2 Tryd.results30 rv_t rv_t fun w' hw => ⟨rfl, hw.sub (List.nil_sublist _)⟩

theorem rExp_hi (w : World) (x : Nat) (k : Int) (h : El x) (hk : 2305843009213688669 ≤ k) : Pure Tryd.prog 30 [I x, I k] w (.tuple #[I 0, I 1]) := by
  refine enter Tryd.func30 Tryd.ntmps30 ?_
  refine c_seq <| c_reg <| s_y y_as <| s_y y_as <| s_nil <| q_then <| c_seq <| c_reg <| s_y y_mv <| s_pure (fun w' hw => rCheck_yes w' x h) <| s_y y_as <| s_nil <| q_then <| c_seq <| c_seq <| c_reg <| s_y y_mv <| s_nf (y_neq (p := 0) (q := 0)) (by omega) <| s_nil <| q_then <| c_f <| c_skip <| q_then <| c_seq <| c_seq <| c_reg <| s_y y_mv <| s_pure (fun w' hw => (by have h9 := rIsScalar_ok w' k; rw [sc_hi hk] at h9; exact h9)) <| s_y (v := .bool true) (y_not (b := false)) <| s_nil <| q_then <| c_t <| c_seq <| c_reg <| s_y y_as <| s_y y_as <| s_nil <| q_then <| c_ret <| q_ret <| ?_
  exact ret2 Tryd.results30 rv_t rv_t fun w' hw => ⟨rfl, hw.sub (List.nil_sublist _)⟩

theorem rExp_yes (w : World) (x k : Nat) (h : El x) (hk : k < 2305843009213688669) : Pure Tryd.prog 30 [I x, I k] w (.tuple #[I (pp x k : Nat), I 0]) := by
  have hx0 := h.pos
  have hx1 := h.lt
  have hpl := pp_lt x k
  refine enter Tryd.func30 Tryd.ntmps30 ?_
  refine c_seq <| c_reg <| s_y y_as <| s_y y_as <| s_nil <| q_then <| c_seq <| c_reg <| s_y y_mv <| s_pure (fun w' hw => rCheck_yes w' x h) <| s_y y_as <| s_nil <| q_then <| c_seq <| c_seq <| c_reg <| s_y y_mv <| s_nf (y_neq (p := 0) (q := 0)) (by omega) <| s_nil <| q_then <| c_f <| c_skip <| q_then <| c_seq <| c_seq <| c_reg <| s_y y_mv <| s_pure (fun w' hw => (by have h9 := rIsScalar_ok w' (k : Int); rw [sc_of hk] at h9; exact h9)) <| s_y (v := .bool false) (y_not (b := true)) <| s_nil <| q_then <| c_f <| c_skip <| q_then <| c_seq <| c_reg <| s_y y_mv <| s_y y_mv <| s_pure (fun w' hw => rpow_ok w' x k (by omega) (by omega)) <| s_y y_as <| s_y y_as <| s_nil <| q_then <| c_ret <| ?_
  exact ret2 Tryd.results30 rv_t rv_t fun w' hw => ⟨rfl, hw.sub (List.nil_sublist _)⟩

theorem rExp_ok (w : World) (a k : Int) : Pure Tryd.prog 30 [I a, I k] w (.tuple #[I (expV a k), I (expE a k)]) := by
  cases h : el a with
  | false => rw [expV, expE, h]; exact rExp_bad w a k h
  | true =>
    obtain ⟨x, rfl, h0, h1, h2⟩ := el_nat h
    by_cases hk : k < 0
    · rw [expV, expE, h, sc_lo hk]; exact rExp_lo w x k ⟨h0, h1, h2⟩ hk
    by_cases hk2 : 2305843009213688669 ≤ k
    · rw [expV, expE, h, sc_hi hk2]; exact rExp_hi w x k ⟨h0, h1, h2⟩ hk2
    obtain ⟨m, rfl⟩ : ∃ m : Nat, k = (m : Int) := ⟨k.toNat, by omega⟩
    rw [expV, expE, h, sc_of (by omega), Int.toNat_natCast, Int.toNat_natCast]
    exact rExp_yes w x m ⟨h0, h1, h2⟩ (by omega)

theorem gBase_ok (w : World) (k : Int) : Pure Tryd.prog 18 [I k] w (.tuple #[I (expV 4 k), I (expE 4 k)]) := by
  refine enter Tryd.func18 Tryd.ntmps18 ?_
  refine c_seq <| c_reg <| s_y y_as <| s_y y_as <| s_nil <| q_then <| c_seq <| c_reg <| s_y y_mv <| s_pure (fun w' hw => gExp_ok w' 4 k) <| s_y y_ext <| s_y y_ext <| s_y y_as <| s_y y_as <| s_nil <| q_then <| c_ret <| ?_
  exact ret2 Tryd.results18 rv_t rv_t fun w' hw => ⟨rfl, hw.sub (List.nil_sublist _)⟩

theorem rBase_ok (w : World) (k : Int) : Pure Tryd.prog 48 [I k] w (.tuple #[I (expV 4 k), I (expE 4 k)]) := by
  refine enter Tryd.func48 Tryd.ntmps48 ?_
  refine c_seq <| c_reg <| s_y y_as <| s_y y_as <| s_nil <| q_then <| c_seq <| c_reg <| s_y y_mv <| s_pure (fun w' hw => rExp_ok w' 4 k) <| s_y y_ext <| s_y y_ext <| s_y y_as <| s_y y_as <| s_nil <| q_then <| c_ret <| ?_
  exact ret2 Tryd.results48 rv_t rv_t fun w' hw => ⟨rfl, hw.sub (List.nil_sublist _)⟩

end Go.Proofs.YtchpcabehchfjaaDoor
