/- Joined texts. -/
import Derived.Test.YtchpcabehchfjaaDoorDivX
/- Scalars: the group and the reference. -/
namespace Dv
/-- the rest of a number in bytes -/
def rst (y : Nat) (l : List UInt8) : Nat := l.foldl (fun r b => (r * 256 + b.toNat) % y) 0
theorem rst_fold {y : Nat} (hy : 0 < y) : ∀ (l : List UInt8) (r : Nat), r < y → l.foldl (fun r b => (r * 256 + b.toNat) % y) r < y
  | [], _, h => h
  | _ :: l, _, _ => rst_fold hy l _ (Nat.mod_lt _ hy)
theorem rst_lt {y : Nat} (hy : 0 < y) (l : List UInt8) : rst y l < y := rst_fold hy l 0 hy
theorem rst_take (y : Nat) (l : List UInt8) (i : Nat) (h : i < l.length) : rst y (l.take (i + 1)) = (rst y (l.take i) * 256 + (l[i]).toNat) % y := by
  unfold rst
  rw [List.take_add_one, List.getElem?_eq_getElem h, List.foldl_append]; rfl
theorem orb {r b : Nat} (hb : b < 256) : r * 2 ^ 8 % 18446744073709551616 ||| b = 256 * (r % 72057594037927936) + b := by
  have e : r * 2 ^ 8 % 18446744073709551616 = 2 ^ 8 * (r % 72057594037927936) := by omega
  rw [e, ← Nat.two_pow_add_eq_or_of_lt (i := 8) (by simpa using hb)]
theorem hilo {r b : Nat} : r / 2 ^ 56 * 18446744073709551616 + (256 * (r % 72057594037927936) + b) = r * 256 + b := by omega
/-- a step of a product -/
theorem prod_odd {a b c m : Nat} (h : b % 2 = 1) : ((c + a) % m + (a + a) % m * (b / 2)) % m = (c + a * b) % m := by
  have e : c + a * b = c + a + (a + a) * (b / 2) := by
    have : b = 1 + 2 * (b / 2) := by omega
    generalize b / 2 = k at *
    subst this
    rw [Nat.mul_add, Nat.mul_one, ← Nat.mul_assoc, Nat.mul_two, Nat.add_assoc]
  rw [e, Nat.add_mod (c + a), Nat.add_mod ((c + a) % m), Nat.mod_mod, Nat.mul_mod, Nat.mod_mod, ← Nat.mul_mod]
theorem prod_even {a b c m : Nat} (h : b % 2 = 0) : (c + (a + a) % m * (b / 2)) % m = (c + a * b) % m := by
  have e : c + a * b = c + (a + a) * (b / 2) := by
    have : b = 2 * (b / 2) := by omega
    generalize b / 2 = k at *
    subst this
    rw [← Nat.mul_assoc, Nat.mul_two]
  rw [e, Nat.add_mod c, Nat.mul_mod, Nat.mod_mod, ← Nat.mul_mod, ← Nat.add_mod]
end Dv
namespace Go.Proofs.YtchpcabehchfjaaDoor
open Go Eng Sha Cod Dv

theorem rest_1_ok (w : World) (b4 b3 : Nat) (b : UInt8) (r y : Nat) (hp : (Res.blk b4 (.cells #[U r] 60 (0, 0))).holds w) (hy : Rd w (some ⟨b3, 0, none⟩) [U y]) (hne : b3 ≠ b4) (hr : r < y) (hyM : y < 18446744073709551616) :
    Gives Tryd.prog 76 [B b, .pointer (some ⟨b4, 0, none⟩), .pointer (some ⟨b3, 0, none⟩)] w (keys [.blk b4 (.cells #[U r] 60 (0, 0))]) (fun _ : Unit => .tuple #[]) (fun _ => [.blk b4 (.cells #[U ((r * 256 + b.toNat) % y)] 60 (0, 0))]) (fun _ => True) := by
  have hb := b.toNat_lt
  have hap : ∀ b' ∈ keys [Res.blk b4 (.cells #[U r] 60 (0, 0))], (some (⟨b3, 0, none⟩ : Addr)).map (·.block) ≠ some b' := fun b' hb' e => by
    obtain ⟨q', hq', hk⟩ := mem_keys.1 hb'
    rw [List.mem_singleton] at hq'
    subst hq'
    cases hk; cases e; exact hne rfl
  refine enterR Tryd.func76 Tryd.ntmps76 hp ?_
  refine c_reg <| s_y (y_ld (v := U r)) <| s_y (y_shrW 56) <| s_y (y_ld (v := U r)) <| s_y (y_shlW 8) <| s_y y_mv <| s_y (y_cvn (k := .u64) (p := (b.toNat : Int)) (hw := wrap_u64 (by omega) (by omega))) <| s_y (y_orU (p := r * 2 ^ 8 % 18446744073709551616) (q := b.toNat)) <| ?_
  rw [orb (by omega)]
  refine s_y (y_ldr (a := some ⟨b3, 0, none⟩) (i := 0) (xs := [U y]) (v := U y) rfl (hr := rdW hy hap)) <| s_pure (fun w' hw => bits_Div64_ok w' (r / 2 ^ 56) (256 * (r % 72057594037927936) + b.toNat) y (by omega) (by omega) hyM) <| ?_
  rw [hilo]
  refine s_y y_mv <| s_y y_ext <| s_y y_ext <| s_st (v := U ((r * 256 + b.toNat) % y)) (cs := #[U r]) (hl := Nat.zero_lt_one) ?_
  refine s_nil <| ?_
  exact ret0 Tryd.results76 (fun w' hw => ⟨(), trivial, rfl, hw⟩) _ (.inr rfl)

theorem nd2 {a b : Nat} {x y : Obj} (h : (keys [.blk a x, .blk b y]).Nodup) : b ≠ a := fun e => by
  have h9 : keys [.blk a x, .blk b y] = [a, b] := rfl
  rw [h9, e] at h
  simp at h

theorem group_rest_ok (w : World) (q : List UInt8) (y : Nat) (hq : q.length = 32) (hy : 0 < y) (hyM : y < 18446744073709551616) :
    Pure Tryd.prog 58 [.agg (bs q).toArray, U y] w (U (rst y q)) := by
  have hs32 : (bs q).toArray.size = 32 := by simp [bs_length, hq]
  refine enter Tryd.func58 Tryd.ntmps58 ?_
  refine c_seq <| c_reg <| s_box rfl fun b2 => s_box rfl fun b3 => s_alloc fun b4 => s_nil <| q_then <| c_seq <| c_reg <| s_y y_func <| s_y y_as <| s_nil <| q_then <| c_seq <| c_seq <| c_reg <| s_y (y_lda (cs := (bs q).toArray) (hl := hs32)) <| s_y y_mv <| s_nil <| q_then <| c_block <| ?_
  refine c_loop (fun i : Nat => [(4, .pointer (some ⟨b4, 0, none⟩)), (5, .func (.func 76) #[] #[.pointer (some ⟨b4, 0, none⟩), .pointer (some ⟨b3, 0, none⟩)]), (9, .agg (bs q).toArray), (10, I i)]) (fun i => [.blk b4 (.cells #[U (rst y (q.take i))] 60 (0, 0)), .blk b3 (.cells #[U y] 60 (0, 0))]) (fun i => i ≤ 32) (fun i => 32 - i) 0 (by omega) ⟨rfl, rfl, rfl, rfl, trivial⟩ (.cons_cons _ (.cons_cons _ (List.nil_sublist _))) ?_
  intro i hi
  refine c_seq <| c_reg <| s_y y_lss <| s_nil <| q_then <| c_seq <| c_ifd (fun h11 => ?_) (fun h11 => ?_)
  · have hil : i < q.length := by omega
    refine c_skip <| q_then <| c_seq <| c_block <| c_seq <| c_reg <| s_y (y_ixv (v := B q[i]) i (by rw [List.getElem?_toArray]; have := bs_get hil; rw [this]; simp [List.getD_eq_getElem?_getD, List.getElem?_eq_getElem hil])) <| s_y y_as <| s_nil <| q_then <| c_reg <| s_y y_mv <| s_y y_mv <| ?_
    have hcall : ∀ w', St w [] w' [.blk b4 (.cells #[U (rst y (q.take i))] 60 (0, 0)), .blk b3 (.cells #[U y] 60 (0, 0))] → Gives Tryd.prog 76 [B q[i], .pointer (some ⟨b4, 0, none⟩), .pointer (some ⟨b3, 0, none⟩)] w' (keys [.blk b4 (.cells #[U (rst y (q.take i))] 60 (0, 0))]) (fun _ : Unit => .tuple #[]) (fun _ => [.blk b4 (.cells #[U ((rst y (q.take i) * 256 + (q[i]).toNat) % y)] 60 (0, 0))]) (fun _ => True) := fun w' hw => by
      have h1 : (Res.blk b4 (.cells #[U (rst y (q.take i))] 60 (0, 0))).holds w' := (hw.own _ (.head _)).1
      have h2 : Rd w' (some ⟨b3, 0, none⟩) [U y] := rdB (.tail _ (.head _)) (fun i v h => by rw [Nat.zero_add]; simpa using h) w' hw
      have h3 := nd2 hw.nd
      have h4 := rst_lt hy (q.take i)
      exact rest_1_ok w' b4 b3 q[i] (rst y (q.take i)) y h1 h2 h3 h4 hyM
    refine s_upd (fs := []) (cs := [.pointer (some ⟨b4, 0, none⟩), .pointer (some ⟨b3, 0, none⟩)]) (lx := fun _ => []) hcall (fun _ => .head _) (fun _ _ => ?_)
    rw [← rst_take y q i hil]
    refine s_nil <| q_nb <| q_then <| c_reg <| s_y y_add <| s_y y_mv <| s_nil <| q_round (i + 1) (by omega) (by omega) ⟨rfl, rfl, rfl, rfl, trivial⟩ (List.Sublist.refl _)
  · have h32 : q.take i = q := List.take_of_length_le (by omega)
    rw [h32]
    refine c_exit <| q_ex <| q_ex <| q_exb <| q_then <| c_seq <| c_reg <| s_y (y_ld (v := U (rst y q))) <| s_st (v := U (rst y q)) (hl := Nat.zero_lt_one) ?_
    refine s_nil <| q_then <| c_ret <| ?_
    exact ret1 Tryd.results58 (rv_cf (v := U (rst y q))) fun w' hw => ⟨rfl, hw.sub (List.nil_sublist _)⟩

def scal (t q : List UInt8) : Nat := 1 + rst 2305843009213688668 (tagged t q)
theorem scal_lt (t q : List UInt8) : 0 < scal t q ∧ scal t q < 2305843009213688669 := by
  have := rst_lt (y := 2305843009213688668) (by decide) (tagged t q)
  unfold scal; omega

theorem group_Scalar_ok (w : World) (t : List UInt8) (a : Option Addr) (c : Nat) (q : List UInt8) (hg : LS w) (ht : t.length < 1152921504606846976) (hr : Rd w a (bs q)) (hl : q.length ≤ 140737488355000) :
    Pure Tryd.prog 39 [.string (sb t), .slice a q.length c] w (I (scal t q)) := by
  have hlt := rst_lt (y := 2305843009213688668) (by decide) (tagged t q)
  refine enter Tryd.func39 Tryd.ntmps39 ?_
  refine c_seq <| c_reg <| s_y y_as <| s_nil <| q_then <| c_seq <| c_reg <| s_y y_mv <| s_y y_mv <| s_pure (fun w' hw => digest_Tagged_ok w' t a c q (hg.st hw) ht (hr.st hw) hl) <| s_pure (fun w' hw => group_rest_ok w' (tagged t q) 2305843009213688668 (tagged_length _ _) (by decide) (by decide)) <| s_y (y_cvn (k := .i64) (p := (rst 2305843009213688668 (tagged t q) : Int))) <| s_y (y_add (p := 1) (q := (rst 2305843009213688668 (tagged t q) : Int))) <| ?_
  rw [show (1 : Int) + (rst 2305843009213688668 (tagged t q) : Int) = (scal t q : Int) by unfold scal; omega]
  refine s_y y_as <| s_nil <| q_then <| c_ret <| ?_
  exact ret1 Tryd.results39 rv_t fun w' hw => ⟨rfl, hw⟩

theorem ref04_sum_ok (w : World) (a b m : Nat) (ha : a < m) (hb : b < m) (hm : m < 4611686018427387904) : Pure Tryd.prog 87 [I a, I b, I m] w (I ((a + b) % m : Nat)) := by
  refine enter Tryd.func87 Tryd.ntmps87 ?_
  refine c_seq <| c_reg <| s_y y_as <| s_nil <| q_then <| c_seq <| c_reg <| s_y y_mv <| s_y y_mv <| s_y (y_add (p := a) (q := b)) <| s_y y_as <| s_nil <| q_then <| c_seq <| c_seq <| c_reg <| s_y y_mv <| s_y y_mv <| s_y (y_geq (p := (a : Int) + b) (q := m)) <| s_nil <| q_then <| c_ifd (fun h13 => ?_) (fun h13 => ?_)
  · have e : (a + b) % m = a + b - m := by rw [Nat.mod_eq_sub_mod (by omega), Nat.mod_eq_of_lt (by omega)]
    refine c_seq <| c_reg <| s_y y_mv <| s_y y_mv <| s_y (y_sub (p := (a : Int) + b) (q := m)) <| s_y y_as <| s_nil <| q_then <| c_ret <| q_ret <| ?_
    refine ret1 Tryd.results87 rv_t fun w' hw => ⟨?_, hw⟩
    rw [e, show (a : Int) + b - m = ((a + b - m : Nat) : Int) by omega]
  · have e : (a + b) % m = a + b := Nat.mod_eq_of_lt (by omega)
    refine c_skip <| q_then <| c_seq <| c_reg <| s_y y_mv <| s_y y_as <| s_nil <| q_then <| c_ret <| ?_
    refine ret1 Tryd.results87 rv_t fun w' hw => ⟨?_, hw⟩
    rw [e, show (a : Int) + b = ((a + b : Nat) : Int) by omega]

theorem ref04_Product_ok (w : World) (a b m : Nat) (ha : a < m) (hb : b < 4611686018427387904) (hm : m < 4611686018427387904) : Pure Tryd.prog 68 [I a, I b, I m] w (I (a * b % m : Nat)) := by
  refine enter Tryd.func68 Tryd.ntmps68 ?_
  refine c_seq <| c_reg <| s_y y_as <| s_nil <| q_then <| c_seq <| c_reg <| s_y y_as <| s_nil <| q_then <| c_seq <| c_block <| ?_
  refine c_loop3 (fun (a' b' c' : Nat) => [(0, I a'), (1, I b'), (2, I m), (7, I c')]) (fun _ _ _ => []) (fun a' b' c' => (c' + a' * b') % m = a * b % m ∧ a' < m ∧ c' < m ∧ b' < 4611686018427387904) (fun _ b' _ => b') a b 0 ⟨by rw [Nat.zero_add], ha, by omega, hb⟩ ⟨rfl, rfl, rfl, rfl, trivial⟩ (List.Sublist.refl _) ?_
  intro a' b' c' ⟨h1, h2, h3, h4⟩
  refine c_seq <| c_seq <| c_reg <| s_y y_mv <| s_y (y_gtr (p := b') (q := 0)) <| s_nil <| q_then <| c_ifd (fun h9 => ?_) (fun h9 => ?_)
  · refine c_skip <| q_then <| c_block <| c_seq <| c_seq <| c_reg <| s_y y_mv <| s_y (y_rem (p := b') (q := 2)) <| s_y (y_eql (p := (b' : Int) % 2) (q := 1)) <| s_nil <| q_then <| c_ifd (fun h12 => ?_) (fun h12 => ?_)
    · have h5 := prod_odd (a := a') (b := b') (c := c') (m := m) (by omega)
      refine c_reg <| s_y y_mv <| s_y y_mv <| s_y y_mv <| s_pure (fun w' hw => ref04_sum_ok w' c' a' m h3 h2 hm) <| s_y y_as <| s_nil <| q_then <| c_seq <| c_reg <| s_y y_mv <| s_y y_mv <| s_y y_mv <| s_pure (fun w' hw => ref04_sum_ok w' a' a' m h2 h2 hm) <| s_y y_as <| s_nil <| q_then <| c_reg <| s_y y_mv <| s_y (y_quo (p := b') (q := 2)) <| ?_
      rw [show (b' : Int) / 2 = ((b' / 2 : Nat) : Int) by omega]
      refine s_y y_as <| s_nil <| q_nb <| q_round3 (x := a') (y := b') (z := c') ((a' + a') % m) (b' / 2) ((c' + a') % m) ⟨by rw [h5]; exact h1, Nat.mod_lt _ (by omega), Nat.mod_lt _ (by omega), by omega⟩ (by omega) ⟨rfl, rfl, rfl, rfl, trivial⟩ (List.Sublist.refl _)
    · have h5 := prod_even (a := a') (b := b') (c := c') (m := m) (by omega)
      refine c_skip <| q_then <| c_seq <| c_reg <| s_y y_mv <| s_y y_mv <| s_y y_mv <| s_pure (fun w' hw => ref04_sum_ok w' a' a' m h2 h2 hm) <| s_y y_as <| s_nil <| q_then <| c_reg <| s_y y_mv <| s_y (y_quo (p := b') (q := 2)) <| ?_
      rw [show (b' : Int) / 2 = ((b' / 2 : Nat) : Int) by omega]
      refine s_y y_as <| s_nil <| q_nb <| q_round3 (x := a') (y := b') (z := c') ((a' + a') % m) (b' / 2) c' ⟨by rw [h5]; exact h1, Nat.mod_lt _ (by omega), h3, by omega⟩ (by omega) ⟨rfl, rfl, rfl, rfl, trivial⟩ (List.Sublist.refl _)
  · have hb0 : b' = 0 := by omega
    subst hb0
    rw [Nat.mul_zero, Nat.add_zero, Nat.mod_eq_of_lt h3] at h1
    refine c_exit <| q_ex <| q_ex <| q_exb <| q_then <| c_seq <| c_reg <| s_y y_mv <| s_y y_as <| s_nil <| q_then <| c_ret <| ?_
    exact ret1 Tryd.results68 rv_t fun w' hw => ⟨by rw [h1], hw⟩
end Go.Proofs.YtchpcabehchfjaaDoor
/- Scalars of keys. -/
namespace Go.Proofs.YtchpcabehchfjaaDoor
open Go Eng Sha Cod Dv

/-- Scalar -/
def dscal (k t : List UInt8) : Nat := scal scalarS (expand k t [])
theorem derive_Scalar_ok (w : World) (k t : List UInt8) (hg : LS w) (hk : k.length = 32) (ht : t.length ≤ 1000000) :
    Pure Tryd.prog 17 [.agg (bs k).toArray, .string (sb t)] w (I (dscal k t)) := by
  have hs32 : (bs k).toArray.size = 32 := by simp [bs_length, hk]
  have hel := expand_length k t []
  have hs33 : (bs (expand k t [])).toArray.size = 32 := by simp [bs_length, expand_length]
  refine enter Tryd.func17 Tryd.ntmps17 ?_
  refine c_seq <| c_reg <| s_box rfl fun b2 => s_y y_as <| s_nil <| q_then <| c_seq <| c_reg <| s_y (y_lda (cs := (bs k).toArray) (hl := hs32)) <| s_y y_mv <| s_pure (fun w' hw => derive_Expand_ok w' k t none 0 [] (hg.st hw) hk (Rd.nil _ _) (by simp) ht (by simp)) <| s_alloc fun b5 => s_sta (vs := (bs (expand k t [])).toArray) (cs := (List.replicate 32 (.int .u8 0)).toArray) (h1 := fun v hv => bs_one (by simpa using hv)) (hl := by rw [hs33]; rfl) (hs1 := hs33) ?_
  have hgs : ∀ w', St w [] w' [.blk b5 (.cells (bs (expand k t [])).toArray 32 (0, 0)), .blk b2 (.cells (bs k).toArray 32 (0, 0))] → Pure Tryd.prog 39 [.string (sb scalarS), .slice (some ⟨b5, 0, none⟩) 32 32] w' (I (dscal k t)) := fun w' hw => by
    have := group_Scalar_ok w' scalarS (some ⟨b5, 0, none⟩) 32 (expand k t []) (hg.st hw) (by decide) (rd_blkB (e := 32) (.head _) w' hw) (by omega)
    rwa [hel] at this
  refine s_nil <| q_then <| c_seq <| c_reg <| s_y y_sla <| s_pure hgs <| s_y y_as <| s_nil <| q_then <| c_ret <| ?_
  exact ret1 Tryd.results17 rv_t fun w' hw => ⟨rfl, hw.sub (List.nil_sublist _)⟩

end Go.Proofs.YtchpcabehchfjaaDoor
