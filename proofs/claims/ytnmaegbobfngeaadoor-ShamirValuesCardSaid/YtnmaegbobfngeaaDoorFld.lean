/- The field, in the program and in the reference. -/
import Derived.Test.YtnmaegbobfngeaaDoorGrp
namespace Go.Proofs.YtnmaegbobfngeaaDoor
open Go Eng Gf Dv

theorem Qmod (a b : Nat) : a * b % 2305843009213688669 < 2305843009213688669 := Nat.mod_lt _ (by decide)
theorem f_product_ok (w : World) (x y : Nat) (hx : x < 2305843009213688669) (hy : y < 2305843009213688669) :
    Pure Tryd.prog 41 [I x, I y] w (I (x * y % 2305843009213688669 : Nat)) := by
  have hd := Nat.div_add_mod (x * y) 18446744073709551616
  have hp := prod_lt hx hy (by decide)
  have hml := Qmod x y
  refine enter Tryd.func41 Tryd.ntmps41 ?_
  refine c_seq <| c_reg <| s_y y_as <| s_nil <| q_then <| c_seq <| c_reg <| s_y y_mv <| s_y (y_cvn (k := .u64) (p := (x : Int)) (hw := wrap_u64 (by omega) (by omega))) <| s_y y_mv <| s_y (y_cvn (k := .u64) (p := (y : Int)) (hw := wrap_u64 (by omega) (by omega))) <| s_pure (fun w' hw => bits_Mul64_ok w' x y (Nat.lt_trans hx (by decide)) (Nat.lt_trans hy (by decide))) <| s_y y_mv <| s_y y_ext <| s_y y_ext <| s_y y_as <| s_y y_as <| s_nil <| q_then <| c_seq <| c_reg <| s_y y_mv <| s_y y_mv <| s_pure (fun w' hw => bits_Div64_ok w' (x * y / 18446744073709551616) (x * y % 18446744073709551616) 2305843009213688669 hp (Nat.mod_lt _ (by decide)) (by decide)) <| ?_
  rw [Nat.mul_comm (x * y / 18446744073709551616), hd]
  refine s_y y_mv <| s_y y_ext <| s_y y_ext <| s_y y_as <| s_y y_as <| s_nil <| q_then <| c_seq <| c_reg <| s_y y_mv <| s_y (y_cvn (k := .i64) (p := ((x * y % 2305843009213688669 : Nat) : Int)) (hw := wrap_i64 (by unfold R64; omega))) <| s_y y_as <| s_nil <| q_then <| c_ret <| ?_
  exact ret1 Tryd.results41 rv_t fun w' hw => ⟨rfl, hw⟩
theorem r3_sum_ok (w : World) (a b : Nat) (ha : a < 2305843009213688669) (hb : b < 2305843009213688669) : Pure Tryd.prog 54 [I a, I b] w (I ((a + b) % 2305843009213688669 : Nat)) := by
  refine enter Tryd.func54 Tryd.ntmps54 ?_
  refine c_seq <| c_reg <| s_y y_as <| s_nil <| q_then <| c_seq <| c_reg <| s_y y_mv <| s_y y_mv <| s_y (y_add (p := a) (q := b)) <| s_y (y_rem (p := (a : Int) + b) (q := 2305843009213688669)) <| s_y y_as <| s_nil <| q_then <| c_ret <| ?_
  exact ret1 Tryd.results54 rv_t fun w' hw => ⟨by rw [show ((a : Int) + b) % 2305843009213688669 = (((a + b) % 2305843009213688669 : Nat) : Int) by omega], hw⟩
theorem r3_product_ok (w : World) (a b : Nat) (ha : a < 2305843009213688669) (hb : b < 4611686018427387904) : Pure Tryd.prog 72 [I a, I b] w (I (a * b % 2305843009213688669 : Nat)) := by
  refine enter Tryd.func72 Tryd.ntmps72 ?_
  refine c_seq <| c_reg <| s_y y_as <| s_nil <| q_then <| c_seq <| c_reg <| s_y y_as <| s_nil <| q_then <| c_seq <| c_block <| ?_
  refine c_loop3 (fun (a' b' c' : Nat) => [(0, I a'), (1, I b'), (5, I c')]) (fun _ _ _ => []) (fun a' b' c' => (c' + a' * b') % 2305843009213688669 = a * b % 2305843009213688669 ∧ a' < 2305843009213688669 ∧ c' < 2305843009213688669 ∧ b' < 4611686018427387904) (fun _ b' _ => b') a b 0 ⟨by rw [Nat.zero_add], ha, by omega, hb⟩ ⟨rfl, rfl, rfl, trivial⟩ (List.Sublist.refl _) ?_
  intro a' b' c' ⟨h1, h2, h3, h4⟩
  refine c_seq <| c_seq <| c_reg <| s_y y_mv <| s_y (y_gtr (p := b') (q := 0)) <| s_nil <| q_then <| c_ifd (fun h9 => ?_) (fun h9 => ?_)
  · refine c_skip <| q_then <| c_block <| c_seq <| c_seq <| c_reg <| s_y y_mv <| s_y (y_rem (p := b') (q := 2)) <| s_y (y_eql (p := (b' : Int) % 2) (q := 1)) <| s_nil <| q_then <| c_ifd (fun h12 => ?_) (fun h12 => ?_)
    · have h5 := prod_odd (a := a') (b := b') (c := c') (m := 2305843009213688669) (by omega)
      refine c_reg <| s_y y_mv <| s_y y_mv <| s_pure (fun w' hw => r3_sum_ok w' c' a' h3 h2) <| s_y y_as <| s_nil <| q_then <| c_seq <| c_reg <| s_y y_mv <| s_y y_mv <| s_pure (fun w' hw => r3_sum_ok w' a' a' h2 h2) <| s_y y_as <| s_nil <| q_then <| c_reg <| s_y y_mv <| s_y (y_quo (p := b') (q := 2)) <| ?_
      rw [show (b' : Int) / 2 = ((b' / 2 : Nat) : Int) by omega]
      refine s_y y_as <| s_nil <| q_nb <| q_round3 (x := a') (y := b') (z := c') ((a' + a') % 2305843009213688669) (b' / 2) ((c' + a') % 2305843009213688669) ⟨by rw [h5]; exact h1, Nat.mod_lt _ (by omega), Nat.mod_lt _ (by omega), by omega⟩ (by omega) ⟨rfl, rfl, rfl, trivial⟩ (List.Sublist.refl _)
    · have h5 := prod_even (a := a') (b := b') (c := c') (m := 2305843009213688669) (by omega)
      refine c_skip <| q_then <| c_seq <| c_reg <| s_y y_mv <| s_y y_mv <| s_pure (fun w' hw => r3_sum_ok w' a' a' h2 h2) <| s_y y_as <| s_nil <| q_then <| c_reg <| s_y y_mv <| s_y (y_quo (p := b') (q := 2)) <| ?_
      rw [show (b' : Int) / 2 = ((b' / 2 : Nat) : Int) by omega]
      refine s_y y_as <| s_nil <| q_nb <| q_round3 (x := a') (y := b') (z := c') ((a' + a') % 2305843009213688669) (b' / 2) c' ⟨by rw [h5]; exact h1, Nat.mod_lt _ (by omega), h3, by omega⟩ (by omega) ⟨rfl, rfl, rfl, trivial⟩ (List.Sublist.refl _)
  · have hb0 : b' = 0 := by omega
    subst hb0
    rw [Nat.mul_zero, Nat.add_zero, Nat.mod_eq_of_lt h3] at h1
    refine c_exit <| q_ex <| q_ex <| q_exb <| q_then <| c_seq <| c_reg <| s_y y_mv <| s_y y_as <| s_nil <| q_then <| c_ret <| ?_
    exact ret1 Tryd.results72 rv_t fun w' hw => ⟨by rw [h1], hw⟩
theorem r3_pow_ok (w : World) (b e : Nat) (hb : b < 2305843009213688669) (he : e < 9223372036854775808) : Pure Tryd.prog 71 [I b, I e] w (I (qq b e : Nat)) := by
  rw [qq_def]
  refine enter Tryd.func71 Tryd.ntmps71 ?_
  refine c_seq <| c_reg <| s_y y_as <| s_nil <| q_then <| c_seq <| c_reg <| s_y y_as <| s_nil <| q_then <| c_seq <| c_block <| ?_
  refine c_loop3 (fun (a k c : Nat) => [(0, I a), (1, I k), (5, I c)]) (fun _ _ _ => []) (fun a k c => c * a ^ k % 2305843009213688669 = b ^ e % 2305843009213688669 ∧ a < 2305843009213688669 ∧ c < 2305843009213688669 ∧ k < 9223372036854775808) (fun _ k _ => k) b e 1 ⟨by rw [Nat.one_mul], hb, by decide, he⟩ ⟨rfl, rfl, rfl, trivial⟩ (List.Sublist.refl _) ?_
  intro a k c ⟨h1, h2, h3, h4⟩
  refine c_seq <| c_seq <| c_reg <| s_y y_mv <| s_y (y_gtr (p := k) (q := 0)) <| s_nil <| q_then <| c_ifd (fun h7 => ?_) (fun h7 => ?_)
  · have hlt : ∀ u v : Nat, u * v % 2305843009213688669 < 2305843009213688669 := fun _ _ => Nat.mod_lt _ (by decide)
    refine c_skip <| q_then <| c_block <| c_seq <| c_seq <| c_reg <| s_y y_mv <| s_y (y_rem (p := k) (q := 2)) <| s_y (y_eql (p := (k : Int) % 2) (q := 1)) <| s_nil <| q_then <| c_ifd (fun h10 => ?_) (fun h10 => ?_)
    · have h5 := pow_odd (a := a) (k := k) (c := c) (m := 2305843009213688669) (by omega)
      refine c_reg <| s_y y_mv <| s_y y_mv <| s_pure (fun w' hw => r3_product_ok w' c a h3 (by omega)) <| s_y y_as <| s_nil <| q_then <| c_seq <| c_reg <| s_y y_mv <| s_y y_mv <| s_pure (fun w' hw => r3_product_ok w' a a h2 (by omega)) <| s_y y_as <| s_nil <| q_then <| c_reg <| s_y y_mv <| s_y (y_quo (p := k) (q := 2)) <| ?_
      rw [show (k : Int) / 2 = ((k / 2 : Nat) : Int) by omega]
      refine s_y y_as <| s_nil <| q_nb <| q_round3 (x := a) (y := k) (z := c) (a * a % 2305843009213688669) (k / 2) (c * a % 2305843009213688669) ⟨by rw [h5]; exact h1, hlt _ _, hlt _ _, by omega⟩ (by omega) ⟨rfl, rfl, rfl, trivial⟩ (List.Sublist.refl _)
    · have h5 := pow_even (a := a) (k := k) (c := c) (m := 2305843009213688669) (by omega)
      refine c_skip <| q_then <| c_seq <| c_reg <| s_y y_mv <| s_y y_mv <| s_pure (fun w' hw => r3_product_ok w' a a h2 (by omega)) <| s_y y_as <| s_nil <| q_then <| c_reg <| s_y y_mv <| s_y (y_quo (p := k) (q := 2)) <| ?_
      rw [show (k : Int) / 2 = ((k / 2 : Nat) : Int) by omega]
      refine s_y y_as <| s_nil <| q_nb <| q_round3 (x := a) (y := k) (z := c) (a * a % 2305843009213688669) (k / 2) c ⟨by rw [h5]; exact h1, hlt _ _, h3, by omega⟩ (by omega) ⟨rfl, rfl, rfl, trivial⟩ (List.Sublist.refl _)
  · have hk0 : k = 0 := by omega
    subst hk0
    rw [Nat.pow_zero, Nat.mul_one, Nat.mod_eq_of_lt h3] at h1
    refine c_exit <| q_ex <| q_ex <| q_exb <| q_then <| c_seq <| c_reg <| s_y y_mv <| s_y y_as <| s_nil <| q_then <| c_ret <| ?_
    exact ret1 Tryd.results71 rv_t fun w' hw => ⟨by rw [h1], hw⟩

theorem bits_Len_ok (p : Nat) (hp : p < 18446744073709551616) : ∃ len : Nat, len ≤ 64 ∧ p < 2 ^ len ∧ ∀ w : World, Pure Tryd.prog 75 [U p] w (I len) := by
  obtain ⟨len, h1, h2, _, hu⟩ := bits_Len64_ok p hp
  refine ⟨len, h1, h2, fun w => ?_⟩
  refine enter Tryd.func75 Tryd.ntmps75 ?_
  refine c_seq <| c_reg <| s_y y_as <| s_nil <| q_then <| c_seq <| c_f <| c_skip <| q_then <| c_seq <| c_reg <| s_y y_mv <| s_pure (fun w' _ => hu w') <| s_y y_as <| s_nil <| q_then <| c_ret <| ?_
  exact ret1 Tryd.results75 rv_t fun w' hw => ⟨rfl, hw⟩
theorem f_binary_ok (w : World) (e : Nat) : Gives Tryd.prog 59 [I e] w [] (fun b : Nat => .func (.func 74) #[] #[.pointer (some ⟨b, 0, none⟩)]) (fun b => [.blk b (.cells #[I e] 3 (0, 0))]) (fun _ => True) := by
  refine enter Tryd.func59 Tryd.ntmps59 ?_
  refine c_seq <| c_reg <| s_box rfl fun b1 => s_y y_as <| s_nil <| q_then <| c_seq <| c_reg <| s_y y_func <| s_y y_as <| s_nil <| q_then <| c_ret <| ?_
  exact ret1 Tryd.results59 rv_t fun w' hw => ⟨b1, trivial, rfl, hw⟩
theorem f_power1_ok (w : World) (b5 acc z : Nat) (hp : (Res.blk b5 (.cells #[I acc] 3 (0, 0))).holds w) (ha : acc < 2305843009213688669) (hz : z < 2305843009213688669) :
    Gives Tryd.prog 58 [I z, .pointer (some ⟨b5, 0, none⟩)] w (keys [.blk b5 (.cells #[I acc] 3 (0, 0))]) (fun _ : Unit => .tuple #[]) (fun _ => [.blk b5 (.cells #[I (acc * z % 2305843009213688669 : Nat)] 3 (0, 0))]) (fun _ => True) := by
  refine enterR Tryd.func58 Tryd.ntmps58 hp ?_
  refine c_reg <| s_y (y_ld (v := I acc)) <| s_y y_mv <| s_pure (fun w' hw => f_product_ok w' acc z ha hz) <| s_st (v := I (acc * z % 2305843009213688669 : Nat)) (cs := #[I acc]) (hl := Nat.zero_lt_one) ?_
  refine s_nil <| ?_
  exact ret0 Tryd.results58 (fun w' hw => ⟨(), trivial, rfl, hw⟩) _ (.inr rfl)

abbrev fpF (b5 : Nat) : Value := .func (.func 58) #[] #[.pointer (some ⟨b5, 0, none⟩)]
def fpM (L Dk : Nat) (rc : Loop) (b6 b5 b2 b1 e b acc : Nat) : SH :=
  [.blk L (.loop rc), .blk Dk (.deferred (some [])), .blk b1 (.cells #[I e] 3 (0, 0)), .blk b6 (.cells #[fpF b5] 91 (0, 0)), .blk b5 (.cells #[I acc] 3 (0, 0)), .blk b2 (.cells #[I b] 3 (0, 0))]
theorem binary1_ok (w' : World) (rc : Loop) (L Dk b6 b5 b2 b1 e b p : Nat) (he : e < 9223372036854775808) (hp : 1 < p)
    (hs : ∀ q ∈ fpM L Dk rc b6 b5 b2 b1 e b 1, q.holds w') (hnd : (keys (fpM L Dk rc b6 b5 b2 b1 e b 1)).Nodup) (hpz : rc.params.size = 1)
    (hround : ∀ (i : Nat) (w2 : World), St w' (keys (fpM L Dk rc b6 b5 b2 b1 e b 1)) w2 (fpM L Dk rc b6 b5 b2 b1 e b (b ^ (e / 2 ^ (i + 1)) % p)) →
      RoundIn (Fw none) 0 Tryd.prog L rc.fn ((rc.params.zip #[.bool (decide (e / 2 ^ i % 2 = 1))]).foldl (fun tmps (t, a) => tmps.setIfInBounds t a) rc.tmps) rc.assign rc.body w2 fun e' w3 => ∃ _ : Unit, True ∧ e' = .returned (.bool true) ∧ St w' (keys (fpM L Dk rc b6 b5 b2 b1 e b 1)) w3 (fpM L Dk { rc with state := .ready, pending := none } b6 b5 b2 b1 e b (b ^ (e / 2 ^ i) % p)))
    (hrdy : rc = { rc with state := .ready, pending := none } := by rfl) :
    Calls Tryd.prog 74 #[.func (.yield L) #[] #[], .pointer (some ⟨b1, 0, none⟩)] w' fun e' w2 => (∃ v, e' = .returned v) ∧ St w' (keys (fpM L Dk rc b6 b5 b2 b1 e b 1)) w2 (fpM L Dk rc b6 b5 b2 b1 e b (b ^ e % p)) := by
  obtain ⟨len, hlen, hl1, hlz⟩ := bits_Len_ok e (by omega)
  refine enterL (args := [.func (.yield L) #[] #[], .pointer (some ⟨b1, 0, none⟩)]) Tryd.func74 Tryd.ntmps74 hs hnd ?_
  obtain ⟨bo, hbo⟩ : ∃ bo, bo = keys (fpM L Dk rc b6 b5 b2 b1 e b 1) := ⟨_, rfl⟩
  rw [← hbo] at hround ⊢
  have h1p : b ^ (e / 2 ^ len) % p = 1 := by rw [Nat.div_eq_of_lt hl1, Nat.pow_zero, Nat.mod_eq_of_lt hp]
  refine c_seq <| c_reg <| s_y (y_ld (b := b1) (v := I e)) <| s_y (y_cvn (k := .u64) (p := (e : Int)) (hw := wrap_u64 (by omega) (by omega))) <| s_pure (fun w2 _ => hlz w2) <| s_y (y_sub (p := len) (q := 1)) <| s_y y_as <| s_nil <| q_then <| c_block <| ?_
  refine c_loop (fun j : Nat => [(0, .func (.yield L) #[] #[]), (1, .pointer (some ⟨b1, 0, none⟩)), (3, I ((j : Int) - 1))]) (fun j => fpM L Dk rc b6 b5 b2 b1 e b (b ^ (e / 2 ^ j) % p)) (fun j => j ≤ 64) (fun j => j) len hlen ⟨rfl, rfl, rfl, trivial⟩ (by rw [h1p]; exact .refl _) ?_
  intro j hj
  refine c_seq <| c_seq <| c_reg <| s_y y_mv <| s_y (y_geq (p := (j : Int) - 1) (q := 0)) <| s_nil <| q_then <| c_ifd (fun h8 => ?_) (fun h8 => ?_)
  · obtain ⟨i, rfl⟩ : ∃ i, j = i + 1 := ⟨j - 1, by omega⟩
    rw [show ((i + 1 : Nat) : Int) - 1 = (i : Int) by omega]
    refine c_skip <| q_then <| c_seq <| c_block <| c_seq <| c_reg <| s_y y_mv <| s_y (y_ld (b := b1) (v := I e)) <| s_y y_mv <| s_y (y_shr (p := e) (q := (i : Int))) <| ?_
    rw [Int.toNat_natCast]
    have hdl : e / 2 ^ i < 9223372036854775808 := Nat.lt_of_le_of_lt (Nat.div_le_self _ _) he
    refine s_y (y_mask (p := e / 2 ^ i) 1) <| s_y (y_eql (p := ((e / 2 ^ i % 2 ^ 1 : Nat) : Int)) (q := 1)) <| ?_
    rw [show decide (((e / 2 ^ i % 2 ^ 1 : Nat) : Int) = 1) = decide (e / 2 ^ i % 2 = 1) from decide_eq_decide.2 ⟨fun h => by omega, fun h => by omega⟩]
    refine s_yield (L := L) (rc := rc) (σ := Unit) (fun _ => .bool true) (fun _ => fpM L Dk { rc with state := .ready, pending := none } b6 b5 b2 b1 e b (b ^ (e / 2 ^ i) % p)) (fun _ => True) (.head _) hpz (fun w2 h2 => hround i w2 h2) (fun _ _ => ?_)
    rw [← hrdy]
    refine s_y (v := .bool false) (y_not (b := true)) <| s_nil <| q_then <| c_f <| c_skip <| q_nb <| q_then <| c_reg <| s_y y_mv <| s_y (y_sub (p := (i : Int)) (q := 1)) <| s_y y_as <| s_nil <| q_round i (by omega) (by omega) ⟨rfl, rfl, rfl, trivial⟩ (.refl _)
  · obtain rfl : j = 0 := by omega
    rw [Nat.pow_zero, Nat.div_one]
    refine c_exit <| q_ex <| q_ex <| q_exb <| ?_
    exact ret0 Tryd.results74 (fun w2 h2 => ⟨⟨_, rfl⟩, h2⟩) _ (.inr rfl)

theorem f_power_ok (w : World) (b e : Nat) (hb : b < 2305843009213688669) (he : e < 9223372036854775808) :
    Pure Tryd.prog 40 [I b, I e] w (I (qq b e : Nat)) := by
  rw [qq_def]
  refine enterM Tryd.func40 Tryd.ntmps40 ?_
  refine c_seq <| c_reg <| s_box rfl fun b2 => s_y y_as <| s_nil <| q_then <| c_seq <| c_reg <| s_alloc fun b5 => s_st (b := b5) (v := I 1) (cs := #[I 0]) (hl := Nat.zero_lt_one) ?_
  refine s_nil <| q_then <| c_seq <| c_reg <| s_y y_func <| s_alloc fun b6 => s_st (b := b6) (v := fpF b5) (cs := #[.nilFunc]) (hl := Nat.zero_lt_one) ?_
  refine s_nil <| q_then <| c_seq <| c_seq <| c_reg <| s_y y_mv <| s_gives (fun w' hw => f_binary_ok w' e) fun b1 _ => s_nil <| q_then <| c_block <| ?_
  refine c_rangeN (σ := Unit) (fun _ => [.blk b1 (.cells #[I e] 3 (0, 0)), .blk b6 (.cells #[fpF b5] 91 (0, 0)), .blk b5 (.cells #[I (b ^ e % 2305843009213688669 : Nat)] 3 (0, 0)), .blk b2 (.cells #[I b] 3 (0, 0))]) (fun _ => True) (fun fn tm Dk L hfr w' hw' => ?_) (fun Dk _ _ => ?_)
  rotate_left
  · refine q_nb <| q_then <| c_seq <| c_reg <| s_y (y_ld (b := b5) (v := I (b ^ e % 2305843009213688669 : Nat))) <| s_y y_as <| s_nil <| q_then <| c_ret <| ?_
    exact ret1E Tryd.results40 (.head _) rv_t fun w' hw => ⟨rfl, hw.sub (List.nil_sublist _)⟩
  · have hps := (show St w [] w' (fpM L Dk _ b6 b5 b2 b1 e b 1 ++ []) by rw [List.append_nil]; exact hw').has
    refine (binary1_ok w' _ L Dk b6 b5 b2 b1 e b 2305843009213688669 he (by decide) hps.1 hps.2 rfl (fun i w2 h2 => ?_)).mono fun e' w2 ⟨hv, h2⟩ => ⟨hv, (), trivial, by have h9 := hw'.transL (l2 := []) (by rw [List.append_nil]; exact .refl _) h2; rw [List.append_nil] at h9; exact h9⟩
    have hf9 := (hfr []).put 11 (.bool (decide (e / 2 ^ i % 2 = 1))) rfl
    have hst := pow_step b e i 2305843009213688669
    dsimp only at hst
    obtain ⟨a, ha⟩ : ∃ a, b ^ (e / 2 ^ (i + 1)) % 2305843009213688669 = a := ⟨_, rfl⟩
    have hal : a < 2305843009213688669 := by rw [← ha]; exact Nat.mod_lt _ (by decide)
    rw [ha] at hst h2
    refine round_ok (F1 := [(2, .pointer (some ⟨b2, 0, none⟩)), (5, .pointer (some ⟨b5, 0, none⟩)), (6, .pointer (some ⟨b6, 0, none⟩)), (7, .bool (decide (e / 2 ^ i % 2 = 1)))]) h2 hf9 (by simp [Act.put]) (by rfl) (.head _) (l1 := fpM L Dk _ b6 b5 b2 b1 e b a) ?_ ?_
    · refine c_reg <| s_y y_as <| s_nil <| q_join ⟨rfl, rfl, rfl, rfl, trivial⟩ (List.Sublist.refl _)
    · refine c_block <| c_seq <| c_reg <| s_y (y_ld (b := b6) (v := fpF b5)) <| s_y (y_ld (b := b5) (v := I a)) <| s_upd (fs := []) (cs := [.pointer (some ⟨b5, 0, none⟩)]) (lx := fun _ => []) (fun w3 h3 => f_power1_ok w3 b5 a a (h3.own _ (.tail _ (.tail _ (.tail _ (.tail _ (.head _)))))).1 hal hal) (fun _ => .tail _ (.tail _ (.tail _ (.tail _ (.head _))))) (fun _ _ => ?_)
      refine s_nil <| q_then <| c_seq <| c_reg <| s_y y_mv <| s_nil <| q_then <| c_ifd (fun h13 => ?_) (fun h13 => ?_)
      · rw [if_pos h13] at hst
        refine c_reg <| s_y (y_ld (b := b6) (v := fpF b5)) <| s_y (y_ld (b := b2) (v := I b)) <| s_upd (fs := []) (cs := [.pointer (some ⟨b5, 0, none⟩)]) (lx := fun _ => []) (fun w3 h3 => f_power1_ok w3 b5 (a * a % 2305843009213688669) b (h3.own _ (.tail _ (.tail _ (.tail _ (.tail _ (.head _)))))).1 (Nat.mod_lt _ (by decide)) hb) (fun _ => .tail _ (.tail _ (.tail _ (.tail _ (.head _))))) (fun _ _ => ?_)
        refine s_nil <| q_nb <| q_rn (.head _) fun w3 h3 => ⟨(), trivial, rfl, ?_⟩
        rw [hst]; exact h3
      · rw [if_neg h13] at hst
        refine c_skip <| q_nb <| q_rn (.head _) fun w3 h3 => ⟨(), trivial, rfl, ?_⟩
        rw [hst]; exact h3

theorem f_outside1_lo (w : World) (a : Int) (h : a < 0) : Pure Tryd.prog 57 [I a] w (.bool true) := by
  refine enter Tryd.func57 Tryd.ntmps57 ?_
  refine c_seq <| c_reg <| s_y y_as <| s_nil <| q_then <| c_seq <| c_reg <| s_y y_mv <| s_kt (y_lss (p := a) (q := 0)) h <| s_y y_mv <| s_no <| s_no <| s_y y_pk <| s_y y_as <| s_nil <| q_then <| c_ret <| ?_
  exact ret1 Tryd.results57 rv_t fun w' hw => ⟨rfl, hw.sub (List.nil_sublist _)⟩

theorem f_outside1_hi (w : World) (a : Int) (h : 2305843009213688669 ≤ a) : Pure Tryd.prog 57 [I a] w (.bool true) := by
  refine enter Tryd.func57 Tryd.ntmps57 ?_
  refine c_seq <| c_reg <| s_y y_as <| s_nil <| q_then <| c_seq <| c_reg <| s_y y_mv <| s_kf (y_lss (p := a) (q := 0)) (by omega) <| s_y y_mv <| s_y y_mv <| s_kt (y_geq (p := a) (q := 2305843009213688669)) h <| s_y y_pk <| s_y y_as <| s_nil <| q_then <| c_ret <| ?_
  exact ret1 Tryd.results57 rv_t fun w' hw => ⟨rfl, hw.sub (List.nil_sublist _)⟩

theorem f_outside1_in (w : World) (x : Nat) (h : x < 2305843009213688669) : Pure Tryd.prog 57 [I x] w (.bool false) := by
  refine enter Tryd.func57 Tryd.ntmps57 ?_
  refine c_seq <| c_reg <| s_y y_as <| s_nil <| q_then <| c_seq <| c_reg <| s_y y_mv <| s_kf (y_lss (p := (x : Int)) (q := 0)) (by omega) <| s_y y_mv <| s_y y_mv <| s_kf (y_geq (p := (x : Int)) (q := 2305843009213688669)) (by omega) <| s_y y_pk <| s_y y_as <| s_nil <| q_then <| c_ret <| ?_
  exact ret1 Tryd.results57 rv_t fun w' hw => ⟨rfl, hw.sub (List.nil_sublist _)⟩
theorem f_outside1_ok (w : World) (a : Int) : Pure Tryd.prog 57 [I a] w (.bool (!sc a)) := by
  by_cases h1 : a < 0
  · rw [sc_lo h1]; exact f_outside1_lo w a h1
  by_cases h2 : 2305843009213688669 ≤ a
  · rw [sc_hi h2]; exact f_outside1_hi w a h2
  obtain ⟨x, rfl⟩ : ∃ x : Nat, a = (x : Int) := ⟨a.toNat, by omega⟩
  rw [sc_of (by omega)]
  exact f_outside1_in w x (by omega)
theorem IndexFunc_sc_ok (w : World) (a : Option Addr) (c : Nat) (q : List Int) (hr : Rd w a (is q)) (hl : q.length ≤ 1000000000000000000) :
    Pure Tryd.prog 73 [.slice a q.length c, .func (.func 57) #[] #[]] w (I (fidx (fun n => !sc n) q)) := by
  refine enter Tryd.func73 Tryd.ntmps73 ?_
  refine c_seq <| c_reg <| s_y y_as <| s_nil <| q_then <| c_seq <| c_seq <| c_reg <| s_y y_mv <| s_y y_len <| s_y y_mv <| s_nil <| q_then <| c_block <| ?_
  refine c_loop (fun i : Nat => [(0, .slice a q.length c), (1, .func (.func 57) #[] #[]), (7, I q.length), (8, I i)]) (fun _ => []) (fun i => i ≤ q.length ∧ ∀ j, j < i → (!sc (q.getD j 0)) = false) (fun i => q.length - i) 0 ⟨by omega, fun _ h => by omega⟩ ⟨rfl, rfl, rfl, rfl, trivial⟩ (List.Sublist.refl _) ?_
  intro i ⟨hi, hj⟩
  refine c_seq <| c_reg <| s_y (y_lss (p := i) (q := q.length)) <| s_nil <| q_then <| c_seq <| c_ifd (fun h9 => ?_) (fun h9 => ?_)
  · have hiq : i < q.length := by omega
    refine c_skip <| q_then <| c_seq <| c_block <| c_seq <| c_reg <| s_y y_mv <| s_y y_as <| s_nil <| q_then <| c_seq <| c_reg <| s_y y_mv <| s_y y_mv <| s_y y_mv <| s_y (y_ixs1 (i := i) (xs := is q)) <| s_y (y_ldi (i := i) (q := q)) <| s_pure (fun w' hw => f_outside1_ok w' (q.getD i 0)) <| s_nil <| q_then <| c_if rfl (fun h16 => ?_) (fun h16 => ?_)
    · rw [fidx_hit (d := 0) hiq hj h16]
      refine c_seq <| c_reg <| s_y y_mv <| s_y y_as <| s_nil <| q_then <| c_ret <| q_retb <| q_ret <| q_ret <| q_retb <| q_ret <| ?_
      exact ret1 Tryd.results73 rv_t fun w' hw => ⟨rfl, hw⟩
    · refine c_skip <| q_nb <| q_then <| c_reg <| s_y (y_add (p := i) (q := 1)) <| s_y y_mv <| s_nil <| q_round (i + 1) ⟨by omega, fun j h => (Nat.lt_or_ge j i).elim (hj j) fun h8 => by obtain rfl : j = i := (by omega); exact h16⟩ (by omega) ⟨rfl, rfl, rfl, rfl, trivial⟩ (List.Sublist.refl _)
  · rw [fidx_none (d := 0) (p := fun n => !sc n) (l := q) fun j h => hj j (by omega)]
    refine c_exit <| q_ex <| q_ex <| q_exb <| q_then <| c_seq <| c_reg <| s_y y_as <| s_nil <| q_then <| c_ret <| ?_
    exact ret1 Tryd.results73 rv_t fun w' hw => ⟨rfl, hw⟩
theorem ContainsFunc_sc_ok (w : World) (a : Option Addr) (c : Nat) (q : List Int) (hr : Rd w a (is q)) (hl : q.length ≤ 1000000000000000000) :
    Pure Tryd.prog 56 [.slice a q.length c, .func (.func 57) #[] #[]] w (.bool (q.any fun n => !sc n)) := by
  rw [← fidx_any]
  refine enter Tryd.func56 Tryd.ntmps56 ?_
  refine c_seq <| c_reg <| s_y y_as <| s_nil <| q_then <| c_seq <| c_reg <| s_y y_mv <| s_y y_mv <| s_pure (fun w' hw => IndexFunc_sc_ok w' a c q (hr.st hw) hl) <| s_y (y_geq (p := fidx (fun n => !sc n) q) (q := 0)) <| s_y y_as <| s_nil <| q_then <| c_ret <| ?_
  exact ret1 Tryd.results56 rv_t fun w' hw => ⟨rfl, hw⟩
theorem f_outside_ok (w : World) (a : Option Addr) (c : Nat) (q : List Int) (hr : Rd w a (is q)) (hl : q.length ≤ 1000000000000000000) :
    Pure Tryd.prog 39 [.slice a q.length c] w (.bool (q.any fun n => !sc n)) := by
  refine enter Tryd.func39 Tryd.ntmps39 ?_
  refine c_seq <| c_reg <| s_y y_as <| s_nil <| q_then <| c_seq <| c_reg <| s_y y_mv <| s_pure (fun w' hw => ContainsFunc_sc_ok w' a c q (hr.st hw) hl) <| s_y y_as <| s_nil <| q_then <| c_ret <| ?_
  exact ret1 Tryd.results39 rv_t fun w' hw => ⟨rfl, hw⟩
theorem f_Mul_bad1 (w : World) (a b : Int) (h : sc a = false) : Pure Tryd.prog 24 [I a, I b] w (.tuple #[I 0, I 1]) := by
  refine enter Tryd.func24 Tryd.ntmps24 ?_
  refine c_seq <| c_reg <| s_y y_as <| s_y y_as <| s_nil <| q_then <| c_seq <| c_seq <| c_reg <| s_y y_mv <| s_y y_mv <| s_bslr (cs := is [a, b]) fun b8 => s_pure (fun w' hw => (by have h9 := f_outside_ok w' (some ⟨b8, 0, none⟩) 2 [a, b] (rdR (.head _) w' hw) (by simp); rw [show ([a, b].any fun n => !sc n) = true by simp [h]] at h9; exact h9)) <| s_nil <| q_then <| c_t <| c_seq <| c_reg <| s_y y_as <| s_y y_as <| s_nil <| q_then <| c_ret <| q_ret <| ?_
  exact ret2 Tryd.results24 rv_t rv_t fun w' hw => ⟨rfl, hw.sub (List.nil_sublist _)⟩

theorem f_Mul_bad2 (w : World) (x : Nat) (b : Int) (hx : x < 2305843009213688669) (h : sc b = false) : Pure Tryd.prog 24 [I x, I b] w (.tuple #[I 0, I 1]) := by
  refine enter Tryd.func24 Tryd.ntmps24 ?_
  refine c_seq <| c_reg <| s_y y_as <| s_y y_as <| s_nil <| q_then <| c_seq <| c_seq <| c_reg <| s_y y_mv <| s_y y_mv <| s_bslr (cs := is [(x : Int), b]) fun b8 => s_pure (fun w' hw => (by have h9 := f_outside_ok w' (some ⟨b8, 0, none⟩) 2 [(x : Int), b] (rdR (.head _) w' hw) (by simp); rw [show ([(x : Int), b].any fun n => !sc n) = true by simp [h]] at h9; exact h9)) <| s_nil <| q_then <| c_t <| c_seq <| c_reg <| s_y y_as <| s_y y_as <| s_nil <| q_then <| c_ret <| q_ret <| ?_
  exact ret2 Tryd.results24 rv_t rv_t fun w' hw => ⟨rfl, hw.sub (List.nil_sublist _)⟩

theorem f_Mul_yes (w : World) (x y : Nat) (hx : x < 2305843009213688669) (hy : y < 2305843009213688669) : Pure Tryd.prog 24 [I x, I y] w (.tuple #[I (x * y % 2305843009213688669 : Nat), I 0]) := by
  refine enter Tryd.func24 Tryd.ntmps24 ?_
  refine c_seq <| c_reg <| s_y y_as <| s_y y_as <| s_nil <| q_then <| c_seq <| c_seq <| c_reg <| s_y y_mv <| s_y y_mv <| s_bslr (cs := is [(x : Int), (y : Int)]) fun b8 => s_pure (fun w' hw => (by have h9 := f_outside_ok w' (some ⟨b8, 0, none⟩) 2 [(x : Int), (y : Int)] (rdR (.head _) w' hw) (by simp); rw [show ([(x : Int), (y : Int)].any fun n => !sc n) = false by simp [sc_of hx, sc_of hy]] at h9; exact h9)) <| s_nil <| q_then <| c_f <| c_skip <| q_then <| c_seq <| c_reg <| s_y y_mv <| s_y y_mv <| s_pure (fun w' hw => f_product_ok w' x y (by omega) (by omega)) <| s_y y_as <| s_y y_as <| s_nil <| q_then <| c_ret <| ?_
  exact ret2 Tryd.results24 rv_t rv_t fun w' hw => ⟨rfl, hw.sub (List.nil_sublist _)⟩

theorem f_Mul_ok (w : World) (a b : Int) : Pure Tryd.prog 24 [I a, I b] w (.tuple #[I (fmV a b), I (fmE a b)]) := by
  cases h : sc a with
  | false => rw [fmV, fmE, h]; exact f_Mul_bad1 w a b h
  | true =>
    obtain ⟨x, rfl, hx⟩ := sc_nat h
    cases h' : sc b with
    | false => rw [fmV, fmE, h, h']; exact f_Mul_bad2 w x b hx h'
    | true =>
      obtain ⟨y, rfl, hy⟩ := sc_nat h'
      rw [fmV, fmE, h, h', Int.toNat_natCast, Int.toNat_natCast]
      exact f_Mul_yes w x y hx hy

theorem r3_Mul_bad1 (w : World) (a b : Int) (h : sc a = false) : Pure Tryd.prog 52 [I a, I b] w (.tuple #[I 0, I 1]) := by
  refine enter Tryd.func52 Tryd.ntmps52 ?_
  refine c_seq <| c_reg <| s_y y_as <| s_y y_as <| s_nil <| q_then <| c_seq <| c_seq <| c_reg <| s_y y_mv <| s_pure (fun w' hw => (by have h9 := r3Scalar_ok w' a; rw [h] at h9; exact h9)) <| s_y (v := .bool true) (y_not (b := false)) <| s_y y_mv <| s_no <| s_no <| s_no <| s_y y_pk <| s_nil <| q_then <| c_t <| c_seq <| c_reg <| s_y y_as <| s_y y_as <| s_nil <| q_then <| c_ret <| q_ret <| ?_
  exact ret2 Tryd.results52 rv_t rv_t fun w' hw => ⟨rfl, hw.sub (List.nil_sublist _)⟩

theorem r3_Mul_bad2 (w : World) (x : Nat) (b : Int) (hx : x < 2305843009213688669) (h : sc b = false) : Pure Tryd.prog 52 [I x, I b] w (.tuple #[I 0, I 1]) := by
  refine enter Tryd.func52 Tryd.ntmps52 ?_
  refine c_seq <| c_reg <| s_y y_as <| s_y y_as <| s_nil <| q_then <| c_seq <| c_seq <| c_reg <| s_y y_mv <| s_pure (fun w' hw => (by have h9 := r3Scalar_ok w' (x : Int); rw [sc_of hx] at h9; exact h9)) <| s_y (v := .bool false) (y_not (b := true)) <| s_y y_mv <| s_y y_mv <| s_pure (fun w' hw => (by have h9 := r3Scalar_ok w' b; rw [h] at h9; exact h9)) <| s_y (v := .bool true) (y_not (b := false)) <| s_y y_pk <| s_nil <| q_then <| c_t <| c_seq <| c_reg <| s_y y_as <| s_y y_as <| s_nil <| q_then <| c_ret <| q_ret <| ?_
  exact ret2 Tryd.results52 rv_t rv_t fun w' hw => ⟨rfl, hw.sub (List.nil_sublist _)⟩

theorem r3_Mul_yes (w : World) (x y : Nat) (hx : x < 2305843009213688669) (hy : y < 2305843009213688669) : Pure Tryd.prog 52 [I x, I y] w (.tuple #[I (x * y % 2305843009213688669 : Nat), I 0]) := by
  refine enter Tryd.func52 Tryd.ntmps52 ?_
  refine c_seq <| c_reg <| s_y y_as <| s_y y_as <| s_nil <| q_then <| c_seq <| c_seq <| c_reg <| s_y y_mv <| s_pure (fun w' hw => (by have h9 := r3Scalar_ok w' (x : Int); rw [sc_of hx] at h9; exact h9)) <| s_y (v := .bool false) (y_not (b := true)) <| s_y y_mv <| s_y y_mv <| s_pure (fun w' hw => (by have h9 := r3Scalar_ok w' (y : Int); rw [sc_of hy] at h9; exact h9)) <| s_y (v := .bool false) (y_not (b := true)) <| s_y y_pk <| s_nil <| q_then <| c_f <| c_skip <| q_then <| c_seq <| c_reg <| s_y y_mv <| s_y y_mv <| s_pure (fun w' hw => r3_product_ok w' x y (by omega) (by omega)) <| s_y y_as <| s_y y_as <| s_nil <| q_then <| c_ret <| ?_
  exact ret2 Tryd.results52 rv_t rv_t fun w' hw => ⟨rfl, hw.sub (List.nil_sublist _)⟩

theorem r3_Mul_ok (w : World) (a b : Int) : Pure Tryd.prog 52 [I a, I b] w (.tuple #[I (fmV a b), I (fmE a b)]) := by
  cases h : sc a with
  | false => rw [fmV, fmE, h]; exact r3_Mul_bad1 w a b h
  | true =>
    obtain ⟨x, rfl, hx⟩ := sc_nat h
    cases h' : sc b with
    | false => rw [fmV, fmE, h, h']; exact r3_Mul_bad2 w x b hx h'
    | true =>
      obtain ⟨y, rfl, hy⟩ := sc_nat h'
      rw [fmV, fmE, h, h', Int.toNat_natCast, Int.toNat_natCast]
      exact r3_Mul_yes w x y hx hy

theorem f_Inv_bad (w : World) (a : Int) (h : sc a = false) : Pure Tryd.prog 23 [I a] w (.tuple #[I 0, I 1]) := by
  refine enter Tryd.func23 Tryd.ntmps23 ?_
  refine c_seq <| c_reg <| s_y y_as <| s_y y_as <| s_nil <| q_then <| c_seq <| c_block <| c_seq <| c_reg <| s_y y_mv <| s_bslr (cs := is [a]) fun b6 => s_pure (fun w' hw => (by have h9 := f_outside_ok w' (some ⟨b6, 0, none⟩) 1 [a] (rdR (.head _) w' hw) (by simp); rw [show ([a].any fun n => !sc n) = true by simp [h]] at h9; exact h9)) <| s_y y_as <| s_nil <| q_then <| c_t <| c_seq <| c_reg <| s_y y_as <| s_y y_as <| s_nil <| q_then <| c_ret <| q_retb <| q_ret <| ?_
  exact ret2 Tryd.results23 rv_t rv_t fun w' hw => ⟨rfl, hw.sub (List.nil_sublist _)⟩

theorem f_Inv_zero (w : World) : Pure Tryd.prog 23 [I 0] w (.tuple #[I 0, I 30]) := by
  refine enter Tryd.func23 Tryd.ntmps23 ?_
  refine c_seq <| c_reg <| s_y y_as <| s_y y_as <| s_nil <| q_then <| c_seq <| c_block <| c_seq <| c_reg <| s_y y_mv <| s_bslr (cs := is [0]) fun b6 => s_pure (fun w' hw => (by have h9 := f_outside_ok w' (some ⟨b6, 0, none⟩) 1 [0] (rdR (.head _) w' hw) (by simp); rw [show ([0].any fun n => !sc n) = false by rfl] at h9; exact h9)) <| s_y y_as <| s_nil <| q_then <| c_f <| c_seq <| c_reg <| s_y y_mv <| s_kt (y_eql (p := 0) (q := 0)) (by omega) <| s_y y_as <| s_nil <| q_then <| c_t <| c_seq <| c_reg <| s_y y_as <| s_y y_as <| s_nil <| q_then <| c_ret <| q_retb <| q_ret <| ?_
  exact ret2 Tryd.results23 rv_t rv_t fun w' hw => ⟨rfl, hw.sub (List.nil_sublist _)⟩

theorem f_Inv_yes (w : World) (x : Nat) (h0 : 0 < x) (hx : x < 2305843009213688669) : Pure Tryd.prog 23 [I x] w (.tuple #[I (qq x 2305843009213688667 : Nat), I 0]) := by
  refine enter Tryd.func23 Tryd.ntmps23 ?_
  refine c_seq <| c_reg <| s_y y_as <| s_y y_as <| s_nil <| q_then <| c_seq <| c_block <| c_seq <| c_reg <| s_y y_mv <| s_bslr (cs := is [(x : Int)]) fun b6 => s_pure (fun w' hw => (by have h9 := f_outside_ok w' (some ⟨b6, 0, none⟩) 1 [(x : Int)] (rdR (.head _) w' hw) (by simp); rw [show ([(x : Int)].any fun n => !sc n) = false by simp [sc_of hx]] at h9; exact h9)) <| s_y y_as <| s_nil <| q_then <| c_f <| c_seq <| c_reg <| s_y y_mv <| s_kf (y_eql (p := (x : Int)) (q := 0)) (by omega) <| s_y y_as <| s_nil <| q_then <| c_f <| c_skip <| q_nb <| q_then <| c_seq <| c_reg <| s_y y_mv <| s_pure (fun w' hw => f_power_ok w' x 2305843009213688667 (by omega) (by decide)) <| s_y y_as <| s_y y_as <| s_nil <| q_then <| c_ret <| ?_
  exact ret2 Tryd.results23 rv_t rv_t fun w' hw => ⟨rfl, hw.sub (List.nil_sublist _)⟩

theorem f_Inv_ok (w : World) (a : Int) : Pure Tryd.prog 23 [I a] w (.tuple #[I (fiV a), I (fiE a)]) := by
  cases h : sc a with
  | false => rw [fiV, fiE, h]; exact f_Inv_bad w a h
  | true =>
    obtain ⟨x, rfl, hx⟩ := sc_nat h
    rcases Nat.eq_zero_or_pos x with h0 | h0
    · subst h0
      rw [fiV, fiE, h]; exact f_Inv_zero w
    · rw [fiV, fiE, h, decide_eq_false (show ¬ (x : Int) = 0 by omega), Int.toNat_natCast]
      exact f_Inv_yes w x h0 hx

theorem r3_Inv_bad (w : World) (a : Int) (h : sc a = false) : Pure Tryd.prog 51 [I a] w (.tuple #[I 0, I 1]) := by
  refine enter Tryd.func51 Tryd.ntmps51 ?_
  refine c_seq <| c_reg <| s_y y_as <| s_y y_as <| s_nil <| q_then <| c_seq <| c_seq <| c_reg <| s_y y_mv <| s_pure (fun w' hw => (by have h9 := r3Scalar_ok w' a; rw [h] at h9; exact h9)) <| s_y (v := .bool true) (y_not (b := false)) <| s_nil <| q_then <| c_t <| c_seq <| c_reg <| s_y y_as <| s_y y_as <| s_nil <| q_then <| c_ret <| q_ret <| ?_
  exact ret2 Tryd.results51 rv_t rv_t fun w' hw => ⟨rfl, hw.sub (List.nil_sublist _)⟩

theorem r3_Inv_zero (w : World) : Pure Tryd.prog 51 [I 0] w (.tuple #[I 0, I 30]) := by
  refine enter Tryd.func51 Tryd.ntmps51 ?_
  refine c_seq <| c_reg <| s_y y_as <| s_y y_as <| s_nil <| q_then <| c_seq <| c_seq <| c_reg <| s_y y_mv <| s_pure (fun w' hw => (by have h9 := r3Scalar_ok w' 0; rw [show sc 0 = true from rfl] at h9; exact h9)) <| s_y (v := .bool false) (y_not (b := true)) <| s_nil <| q_then <| c_f <| c_skip <| q_then <| c_seq <| c_seq <| c_reg <| s_y y_mv <| s_kt (y_eql (p := 0) (q := 0)) (by omega) <| s_nil <| q_then <| c_t <| c_seq <| c_reg <| s_y y_as <| s_y y_as <| s_nil <| q_then <| c_ret <| q_ret <| ?_
  exact ret2 Tryd.results51 rv_t rv_t fun w' hw => ⟨rfl, hw.sub (List.nil_sublist _)⟩

theorem r3_Inv_yes (w : World) (x : Nat) (h0 : 0 < x) (hx : x < 2305843009213688669) : Pure Tryd.prog 51 [I x] w (.tuple #[I (qq x 2305843009213688667 : Nat), I 0]) := by
  refine enter Tryd.func51 Tryd.ntmps51 ?_
  refine c_seq <| c_reg <| s_y y_as <| s_y y_as <| s_nil <| q_then <| c_seq <| c_seq <| c_reg <| s_y y_mv <| s_pure (fun w' hw => (by have h9 := r3Scalar_ok w' (x : Int); rw [sc_of hx] at h9; exact h9)) <| s_y (v := .bool false) (y_not (b := true)) <| s_nil <| q_then <| c_f <| c_skip <| q_then <| c_seq <| c_seq <| c_reg <| s_y y_mv <| s_kf (y_eql (p := (x : Int)) (q := 0)) (by omega) <| s_nil <| q_then <| c_f <| c_skip <| q_then <| c_seq <| c_reg <| s_y y_mv <| s_pure (fun w' hw => r3_pow_ok w' x 2305843009213688667 (by omega) (by decide)) <| s_y y_as <| s_y y_as <| s_nil <| q_then <| c_ret <| ?_
  exact ret2 Tryd.results51 rv_t rv_t fun w' hw => ⟨rfl, hw.sub (List.nil_sublist _)⟩

theorem r3_Inv_ok (w : World) (a : Int) : Pure Tryd.prog 51 [I a] w (.tuple #[I (fiV a), I (fiE a)]) := by
  cases h : sc a with
  | false => rw [fiV, fiE, h]; exact r3_Inv_bad w a h
  | true =>
    obtain ⟨x, rfl, hx⟩ := sc_nat h
    rcases Nat.eq_zero_or_pos x with h0 | h0
    · subst h0
      rw [fiV, fiE, h]; exact r3_Inv_zero w
    · rw [fiV, fiE, h, decide_eq_false (show ¬ (x : Int) = 0 by omega), Int.toNat_natCast]
      exact r3_Inv_yes w x h0 hx
end Go.Proofs.YtnmaegbobfngeaaDoor
