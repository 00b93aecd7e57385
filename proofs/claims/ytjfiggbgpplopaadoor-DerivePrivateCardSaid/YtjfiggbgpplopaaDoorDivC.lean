/- Long division of two words by one: the program. -/
import Derived.Test.YtjfiggbgpplopaaDoorDivA
import Derived.Test.YtjfiggbgpplopaaDoorDivB
namespace Go.Proofs.YtjfiggbgpplopaaDoor
open Go Eng Dv

theorem bits_Div64_ok (w : World) (hi lo y : Nat) (h1 : hi < y) (hlo : lo < 18446744073709551616) (hyM : y < 18446744073709551616) :
    Pure Tryd.prog 62 [U hi, U lo, U y] w (.tuple #[U ((hi * 18446744073709551616 + lo) / y), U ((hi * 18446744073709551616 + lo) % y)]) := by
  refine enter Tryd.func62 Tryd.ntmps62 ?_
  refine c_seq <| c_reg <| s_y y_as <| s_y y_as <| s_nil <| q_then <| c_seq <| c_seq <| c_reg <| s_y y_mv <| s_kf (y_eql (p := y) (q := 0)) (by omega) <| s_nil <| q_then <| c_f <| c_skip <| q_then <| c_seq <| c_seq <| c_reg <| s_y y_mv <| s_y y_mv <| s_kf (y_leq (p := y) (q := hi)) (by omega) <| s_nil <| q_then <| c_f <| c_skip <| q_then <| c_seq <| c_seq <| c_reg <| s_y y_mv <| s_y (y_eql (p := hi) (q := 0)) <| s_nil <| q_then <| c_ifd (fun h27 => ?_) (fun h27 => ?_)
  · have hi0 : hi = 0 := by omega
    subst hi0
    refine c_seq <| c_regd <| d_y y_mv <| d_y y_mv <| d_y (y_quo64 (p := lo) (q := y)) <| d_y y_mv <| d_y y_mv <| d_y (y_rem64 (p := lo) (q := y)) <| d_y y_as <| d_y y_as <| d_nil <| q_then <| c_ret <| q_ret <| ?_
    refine ret2 Tryd.results62 rv_t rv_t fun w' hw => ⟨?_, hw⟩
    rw [Nat.zero_mul, Nat.zero_add]
  obtain ⟨s, hs, hsM, hsB, hlz⟩ := bits_LeadingZeros64_ok y (by omega) hyM
  have hwd := words (hi := hi) (lo := lo) (s := s) hs hlo
  have hsh := shifted (x := hi * 18446744073709551616 + lo) (y := y) (k := s)
  have hXY : (hi * 18446744073709551616 + lo) * 2 ^ s < y * 2 ^ s * 18446744073709551616 := by
    rw [Nat.mul_right_comm]
    exact Nat.mul_lt_mul_of_pos_right (by omega) (Nat.two_pow_pos s)
  have hhs : hi * 2 ^ s < y * 2 ^ s := Nat.mul_lt_mul_of_pos_right h1 (Nat.two_pow_pos s)
  have hlz2 : lo / 2 ^ (64 - s) ≤ lo := Nat.div_le_self _ _
  refine c_skip <| q_then <| c_seq <| c_reg <| s_y y_mv <| s_pure (fun w' hw => hlz w') <| s_y y_cvn <| s_y y_as <| s_nil <| q_then <| c_seq <| c_reg <| s_y y_mv <| s_y y_mv <| s_y (y_shlW s) <| ?_
  rw [Nat.mod_eq_of_lt hsM]
  rw [← hsh.1, ← hsh.2]
  obtain ⟨Y, hY⟩ : ∃ Y, Y = y * 2 ^ s := ⟨_, rfl⟩
  obtain ⟨h, hhd⟩ : ∃ h, h = Y / 2 ^ 32 := ⟨_, rfl⟩
  obtain ⟨e, hed⟩ : ∃ e, e = Y % 2 ^ 32 := ⟨_, rfl⟩
  obtain ⟨v, hvd⟩ : ∃ v, v = lo * 2 ^ s % 18446744073709551616 := ⟨_, rfl⟩
  obtain ⟨l1, hl1⟩ : ∃ l1, l1 = v / 2 ^ 32 := ⟨_, rfl⟩
  obtain ⟨l0, hl0⟩ : ∃ l0, l0 = v % 2 ^ 32 := ⟨_, rfl⟩
  rw [← hY] at hsM hsB hXY hhs ⊢
  refine s_y y_as <| s_nil <| q_then <| c_seq <| c_reg <| s_y y_mv <| s_y (y_shrW 32) <| ?_
  rw [← hhd]
  refine s_y y_as <| s_nil <| q_then <| c_seq <| c_reg <| s_y y_mv <| s_y (y_mask (p := Y) 32) <| ?_
  rw [← hed]
  refine s_y y_as <| s_nil <| q_then <| c_seq <| c_reg <| s_y y_mv <| s_y y_mv <| s_y (y_shlW s) <| ?_
  rw [Nat.mod_eq_of_lt (show hi * 2 ^ s < 18446744073709551616 by omega)]
  refine s_y y_mv <| s_y y_mv <| s_y (y_sub64 (p := 64) (q := s)) <| s_y (y_shrW (64 - s)) <| s_y (y_orU (p := hi * 2 ^ s) (q := lo / 2 ^ (64 - s))) <| ?_
  rw [hwd.1]
  have hw2 := hwd.2
  rw [← hvd] at hw2
  obtain ⟨u, hu⟩ : ∃ u, u = hi * 2 ^ s + lo / 2 ^ (64 - s) := ⟨_, rfl⟩
  rw [← hu] at hw2 ⊢
  rw [← hw2] at hXY ⊢
  refine s_y y_as <| s_nil <| q_then <| c_seq <| c_reg <| s_y y_mv <| s_y y_mv <| s_y (y_shlW s) <| ?_
  rw [← hvd]
  refine s_y y_as <| s_nil <| q_then <| c_seq <| c_reg <| s_y y_mv <| s_y (y_shrW 32) <| ?_
  rw [← hl1]
  refine s_y y_as <| s_nil <| q_then <| c_seq <| c_reg <| s_y y_mv <| s_y (y_mask (p := v) 32) <| ?_
  rw [← hl0]
  have hv : v = l1 * 4294967296 + l0 := by omega
  have hl1B : l1 < 4294967296 := by omega
  have hl0B : l0 < 4294967296 := by omega
  have huY : u < Y := by omega
  have hYe : Y = h * 4294967296 + e := by omega
  have he : e < 4294967296 := by omega
  have hh : 2147483648 ≤ h := by omega
  have hh2 : h < 4294967296 := by omega
  have hb1 : u * 4294967296 + l1 < Y * 4294967296 := mulB huY hl1B
  obtain ⟨Q1, hQ1⟩ : ∃ Q1, Q1 = (u * 4294967296 + l1) / Y := ⟨_, rfl⟩
  obtain ⟨R1, hR1⟩ : ∃ R1, R1 = (u * 4294967296 + l1) % Y := ⟨_, rfl⟩
  have hdm1 := Nat.div_add_mod (u * 4294967296 + l1) Y
  rw [← hQ1, ← hR1, Nat.mul_comm] at hdm1
  have hR1Y : R1 < Y := by rw [hR1]; exact Nat.mod_lt _ (by omega)
  have hQ1B : Q1 < 4294967296 := Nat.lt_of_le_of_lt (Nat.le_of_eq hQ1) (Nat.div_lt_of_lt_mul hb1)
  have hb0 : R1 * 4294967296 + l0 < Y * 4294967296 := mulB hR1Y hl0B
  obtain ⟨Q0, hQ0⟩ : ∃ Q0, Q0 = (R1 * 4294967296 + l0) / Y := ⟨_, rfl⟩
  obtain ⟨R0, hR0⟩ : ∃ R0, R0 = (R1 * 4294967296 + l0) % Y := ⟨_, rfl⟩
  have hdm0 := Nat.div_add_mod (R1 * 4294967296 + l0) Y
  rw [← hQ0, ← hR0, Nat.mul_comm] at hdm0
  have hR0Y : R0 < Y := by rw [hR0]; exact Nat.mod_lt _ (by omega)
  have hQ0B : Q0 < 4294967296 := Nat.lt_of_le_of_lt (Nat.le_of_eq hQ0) (Nat.div_lt_of_lt_mul hb0)
  have htwo := two (show 0 < Y by omega) hdm1.symm Q0 R0 hdm0.symm hR0Y
  have hcu : u / h * h ≤ u := Nat.div_mul_le_self _ _
  have hcr : R1 / h * h ≤ R1 := Nat.div_mul_le_self _ _
  rw [hv, htwo.1, htwo.2]
  clear hlz hwd hsh hw2 hvd hu hl1 hl0
  refine s_y y_as <| s_nil <| q_then <| c_seq <| c_reg <| s_y y_mv <| s_y y_mv <| s_y (y_quo64 (p := u) (q := h)) <| s_y y_as <| s_nil <| q_then <| c_seq <| c_reg <| s_y y_mv <| s_y y_mv <| s_y y_mv <| s_y (y_mul64 (p := u / h) (q := h)) <| s_y (y_sub64 (p := u) (q := u / h * h)) <| s_y y_as <| s_nil <| q_then <| ?_
  refine c_join [(15, U Q1), (2, U Y), (8, U s), (9, U h), (10, U e), (11, U u), (13, U l1), (14, U l0)] [] ?_ ?_
  · have htop := kn_top huY hYe he hh
    have hge := kn_ge (u := u) (y := Y) (h := h) (e := e) (d := l1) hYe (by omega) hl1B
    have hdm := Nat.div_add_mod u h
    have hml := Nat.mod_lt u (show 0 < h by omega)
    rw [← hQ1] at hge
    have hcm : u / h * h = h * (u / h) := Nat.mul_comm _ _
    refine c_block <| c_loop2 (fun q r => [(15, U q), (16, U r), (2, U Y), (8, U s), (9, U h), (10, U e), (11, U u), (13, U l1), (14, U l0)]) (fun _ _ => []) (fun q r => q * h + r = u ∧ r < 4294967296 ∧ Q1 ≤ q ∧ q ≤ 4294967297) (fun q _ => q) (u / h) (u - u / h * h) ⟨by omega, by omega, hge, htop⟩ ⟨rfl, rfl, rfl, rfl, rfl, rfl, rfl, rfl, rfl, trivial⟩ (List.Sublist.refl _) ?_
    intro q r ⟨hq, hr, hQq, hqt⟩
    refine c_seq <| c_join ([(15, U q), (16, U r), (2, U Y), (8, U s), (9, U h), (10, U e), (11, U u), (13, U l1), (14, U l0), (78, .bool (decide (4294967296 ≤ q ∨ 4294967296 * r + l1 < q * e)))]) [] ?_ ?_
    · refine c_reg <| s_y y_mv <| s_ifd (y_geq (p := q) (q := 4294967296)) (fun h1 => ?_) (fun h1 => ?_)
      · have h2 : 4294967296 ≤ q ∨ 4294967296 * r + l1 < q * e := .inl (by omega)
        refine s_y y_mv <| s_no <| s_no <| s_no <| s_no <| s_no <| s_no <| s_no <| s_no <| s_y (y_pkT (v := .bool true)) <| s_nil <| q_join ⟨rfl, rfl, rfl, rfl, rfl, rfl, rfl, rfl, rfl, by rw [decide_eq_true h2]; rfl, trivial⟩ (List.Sublist.refl _)
      · have hqe := kn_small (q := q) (e := e) (by omega) he
        refine s_y y_mv <| s_y y_mv <| s_y y_mv <| s_y (y_mul64 (p := q) (q := e)) <| s_y y_mv <| s_y (y_mul64 (p := 4294967296) (q := r)) <| s_y y_mv <| s_y (y_add64 (p := 4294967296 * r) (q := l1)) <| s_y (y_gtr (p := ((q * e : Nat) : Int)) (q := ((4294967296 * r + l1 : Nat) : Int))) <| s_y (y_pkF (v := .bool (decide (((4294967296 * r + l1 : Nat) : Int) < ((q * e : Nat) : Int))))) <| s_nil <| q_join ⟨rfl, rfl, rfl, rfl, rfl, rfl, rfl, rfl, rfl, by rw [show decide (4294967296 ≤ q ∨ 4294967296 * r + l1 < q * e) = decide (((4294967296 * r + l1 : Nat) : Int) < ((q * e : Nat) : Int)) from decide_eq_decide.2 ⟨fun h9 => by omega, fun h9 => .inr (by omega)⟩]; rfl, trivial⟩ (List.Sublist.refl _)
    · refine c_ifd (fun h3 => ?_) (fun h3 => ?_)
      · have hlt := kn_true huY hYe hq h3 hl1B
        rw [← hQ1] at hlt
        have hq1 : (q - 1) * h + (r + h) = u := by
          have : q * h = (q - 1) * h + h := by rw [← Nat.succ_mul]; congr 1; omega
          omega
        refine c_skip <| q_then <| c_block <| c_seq <| c_reg <| s_y y_mv <| s_y (y_sub64 (p := q) (q := 1)) <| s_y y_as <| s_nil <| q_then <| c_seq <| c_reg <| s_y y_mv <| s_y y_mv <| s_y (y_add64 (p := r) (q := h)) <| s_y y_as <| s_nil <| q_then <| c_seq <| c_reg <| s_y y_mv <| s_y (y_geq (p := ((r + h : Nat) : Int)) (q := 4294967296)) <| s_nil <| q_then <| c_ifd (fun h4 => ?_) (fun h4 => ?_)
        · have hqe := kn_small (q := q - 1) (e := e) (by omega) he
          have hle := kn_le (d := l1) (by omega) hYe hq1 (by omega)
          rw [← hQ1] at hle
          have hqQ : q - 1 = Q1 := by omega
          rw [hqQ]
          refine c_exit <| q_exn rfl <| q_ex <| q_exb <| q_join ⟨rfl, rfl, rfl, rfl, rfl, rfl, rfl, rfl, trivial⟩ (List.Sublist.refl _)
        · refine c_skip <| q_nb <| q_round2 (y := r) (q - 1) (r + h) ⟨hq1, by omega, by omega, by omega⟩ (by omega) ⟨rfl, rfl, rfl, rfl, rfl, rfl, rfl, rfl, rfl, trivial⟩ (List.Sublist.refl _)
      · have hle := kn_le (d := l1) (by omega) hYe hq (by omega)
        rw [← hQ1] at hle
        have hqQ : q = Q1 := by omega
        subst hqQ
        refine c_exit <| q_ex <| q_ex <| q_exb <| q_join ⟨rfl, rfl, rfl, rfl, rfl, rfl, rfl, rfl, trivial⟩ (List.Sublist.refl _)
  refine c_seq <| c_reg <| s_y y_mv <| s_y (y_mulW (p := u) (q := 4294967296)) <| s_y y_mv <| s_y (y_addW (p := u * 4294967296 % 18446744073709551616) (q := l1)) <| s_y y_mv <| s_y y_mv <| s_y (y_mulW (p := Q1) (q := Y)) <| s_y (y_subW (p := (u * 4294967296 % 18446744073709551616 + l1) % 18446744073709551616) (q := Q1 * Y % 18446744073709551616)) <| ?_
  rw [wrapsub (R := R1) hdm1.symm (by omega)]
  refine s_y y_as <| s_nil <| q_then <| c_seq <| c_reg <| s_y y_mv <| s_y y_mv <| s_y (y_quo64 (p := R1) (q := h)) <| s_y y_as <| s_nil <| q_then <| c_seq <| c_reg <| s_y y_mv <| s_y y_mv <| s_y y_mv <| s_y (y_mul64 (p := R1 / h) (q := h)) <| s_y (y_sub64 (p := R1) (q := R1 / h * h)) <| s_y y_as <| s_nil <| q_then <| ?_
  refine c_join [(18, U Q0), (2, U Y), (8, U s), (9, U h), (10, U e), (14, U l0), (15, U Q1), (17, U R1)] [] ?_ ?_
  · have htop := kn_top hR1Y hYe he hh
    have hge := kn_ge (u := R1) (y := Y) (h := h) (e := e) (d := l0) hYe (by omega) hl0B
    have hdm := Nat.div_add_mod R1 h
    have hml := Nat.mod_lt R1 (show 0 < h by omega)
    rw [← hQ0] at hge
    have hcm : R1 / h * h = h * (R1 / h) := Nat.mul_comm _ _
    refine c_block <| c_loop2 (fun q r => [(18, U q), (16, U r), (2, U Y), (8, U s), (9, U h), (10, U e), (14, U l0), (15, U Q1), (17, U R1)]) (fun _ _ => []) (fun q r => q * h + r = R1 ∧ r < 4294967296 ∧ Q0 ≤ q ∧ q ≤ 4294967297) (fun q _ => q) (R1 / h) (R1 - R1 / h * h) ⟨by omega, by omega, hge, htop⟩ ⟨rfl, rfl, rfl, rfl, rfl, rfl, rfl, rfl, rfl, trivial⟩ (List.Sublist.refl _) ?_
    intro q r ⟨hq, hr, hQq, hqt⟩
    refine c_seq <| c_join ([(18, U q), (16, U r), (2, U Y), (8, U s), (9, U h), (10, U e), (14, U l0), (15, U Q1), (17, U R1), (113, .bool (decide (4294967296 ≤ q ∨ 4294967296 * r + l0 < q * e)))]) [] ?_ ?_
    · refine c_reg <| s_y y_mv <| s_ifd (y_geq (p := q) (q := 4294967296)) (fun h1 => ?_) (fun h1 => ?_)
      · have h2 : 4294967296 ≤ q ∨ 4294967296 * r + l0 < q * e := .inl (by omega)
        refine s_y y_mv <| s_no <| s_no <| s_no <| s_no <| s_no <| s_no <| s_no <| s_no <| s_y (y_pkT (v := .bool true)) <| s_nil <| q_join ⟨rfl, rfl, rfl, rfl, rfl, rfl, rfl, rfl, rfl, by rw [decide_eq_true h2]; rfl, trivial⟩ (List.Sublist.refl _)
      · have hqe := kn_small (q := q) (e := e) (by omega) he
        refine s_y y_mv <| s_y y_mv <| s_y y_mv <| s_y (y_mul64 (p := q) (q := e)) <| s_y y_mv <| s_y (y_mul64 (p := 4294967296) (q := r)) <| s_y y_mv <| s_y (y_add64 (p := 4294967296 * r) (q := l0)) <| s_y (y_gtr (p := ((q * e : Nat) : Int)) (q := ((4294967296 * r + l0 : Nat) : Int))) <| s_y (y_pkF (v := .bool (decide (((4294967296 * r + l0 : Nat) : Int) < ((q * e : Nat) : Int))))) <| s_nil <| q_join ⟨rfl, rfl, rfl, rfl, rfl, rfl, rfl, rfl, rfl, by rw [show decide (4294967296 ≤ q ∨ 4294967296 * r + l0 < q * e) = decide (((4294967296 * r + l0 : Nat) : Int) < ((q * e : Nat) : Int)) from decide_eq_decide.2 ⟨fun h9 => by omega, fun h9 => .inr (by omega)⟩]; rfl, trivial⟩ (List.Sublist.refl _)
    · refine c_ifd (fun h3 => ?_) (fun h3 => ?_)
      · have hlt := kn_true hR1Y hYe hq h3 hl0B
        rw [← hQ0] at hlt
        have hq1 : (q - 1) * h + (r + h) = R1 := by
          have : q * h = (q - 1) * h + h := by rw [← Nat.succ_mul]; congr 1; omega
          omega
        refine c_skip <| q_then <| c_block <| c_seq <| c_reg <| s_y y_mv <| s_y (y_sub64 (p := q) (q := 1)) <| s_y y_as <| s_nil <| q_then <| c_seq <| c_reg <| s_y y_mv <| s_y y_mv <| s_y (y_add64 (p := r) (q := h)) <| s_y y_as <| s_nil <| q_then <| c_seq <| c_reg <| s_y y_mv <| s_y (y_geq (p := ((r + h : Nat) : Int)) (q := 4294967296)) <| s_nil <| q_then <| c_ifd (fun h4 => ?_) (fun h4 => ?_)
        · have hqe := kn_small (q := q - 1) (e := e) (by omega) he
          have hle := kn_le (d := l0) (by omega) hYe hq1 (by omega)
          rw [← hQ0] at hle
          have hqQ : q - 1 = Q0 := by omega
          rw [hqQ]
          refine c_exit <| q_exn rfl <| q_ex <| q_exb <| q_join ⟨rfl, rfl, rfl, rfl, rfl, rfl, rfl, rfl, trivial⟩ (List.Sublist.refl _)
        · refine c_skip <| q_nb <| q_round2 (y := r) (q - 1) (r + h) ⟨hq1, by omega, by omega, by omega⟩ (by omega) ⟨rfl, rfl, rfl, rfl, rfl, rfl, rfl, rfl, rfl, trivial⟩ (List.Sublist.refl _)
      · have hle := kn_le (d := l0) (by omega) hYe hq (by omega)
        rw [← hQ0] at hle
        have hqQ : q = Q0 := by omega
        subst hqQ
        refine c_exit <| q_ex <| q_ex <| q_exb <| q_join ⟨rfl, rfl, rfl, rfl, rfl, rfl, rfl, rfl, trivial⟩ (List.Sublist.refl _)
  refine c_seq <| c_reg <| s_y y_mv <| s_y (y_mul64 (p := Q1) (q := 4294967296) (hp := mulA hQ1B)) <| s_y y_mv <| s_y (y_add64 (p := Q1 * 4294967296) (q := Q0) (hp := addA hQ1B hQ0B)) <| s_y y_mv <| s_y (y_mulW (p := R1) (q := 4294967296)) <| s_y y_mv <| s_y (y_addW (p := R1 * 4294967296 % 18446744073709551616) (q := l0)) <| s_y y_mv <| s_y y_mv <| s_y (y_mulW (p := Q0) (q := Y)) <| s_y (y_subW (p := (R1 * 4294967296 % 18446744073709551616 + l0) % 18446744073709551616) (q := Q0 * Y % 18446744073709551616)) <| ?_
  rw [wrapsub (R := R0) hdm0.symm (by omega)]
  refine s_y y_mv <| s_y (y_shrW s) <| s_y y_as <| s_y y_as <| s_nil <| q_then <| c_ret <| ?_
  exact ret2 Tryd.results62 rv_t rv_t fun w' hw => ⟨rfl, hw⟩
end Go.Proofs.YtjfiggbgpplopaaDoor
