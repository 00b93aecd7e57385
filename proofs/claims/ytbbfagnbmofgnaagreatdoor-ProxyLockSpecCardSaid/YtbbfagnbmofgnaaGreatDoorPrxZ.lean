/- The proxy's reference; capsules compared; what both compute. -/
import Derived.Test.YtbbfagnbmofgnaaGreatDoorGfP
namespace Go.Proofs.YtbbfagnbmofgnaaGreatDoor
open Go Eng Gf Sha Cod
set_option maxRecDepth 100000

/-- a number that is not negative, and the low bits of any int -/
theorem maskI (p : Int) (m : Nat) (h : m ≤ 62) : ((BitVec.ofInt 64 p &&& BitVec.ofInt 64 ((2 ^ m - 1 : Nat) : Int)).toNat : Int) = p % 2 ^ m := by
  have h1 : (2 ^ m : Nat) ≤ 2 ^ 62 := Nat.pow_le_pow_right (by decide) h
  rw [BitVec.toNat_and, show (BitVec.ofInt 64 ((2 ^ m - 1 : Nat) : Int)).toNat = 2 ^ m - 1 from bitsn (k := .i64) (by simp only [IntKind.bits]; omega), Nat.and_two_pow_sub_one_eq_mod, BitVec.toNat_ofInt]
  have h2 : (2 : Int) ^ m ∣ 2 ^ 64 := ⟨2 ^ (64 - m), by rw [← Int.pow_add]; congr 1; omega⟩
  have h3 : p % ((2 ^ 64 : Nat) : Int) % 2 ^ m = p % 2 ^ m := by rw [show ((2 ^ 64 : Nat) : Int) = (2 : Int) ^ 64 by norm_cast]; exact Int.emod_emod_of_dvd p h2
  rw [Int.natCast_emod, Int.toNat_of_nonneg (Int.emod_nonneg _ (by decide)), Int.natCast_pow]
  exact h3
theorem y_maski (m : Nat) {n : Nat} {D : List Deferred} {W : World} {Bo : List Nat} {F : List (Nat × Value)} {l : SH} {d : Option Tmp} {ty : TypeId} {ps : String} {af : Array Edge} {g : Option (Nat × Bool)} {x y : Operand} {ta tb : TypeId} {P : Program} {p : Int}
    (hx : evO F x = some (I p) := by rfl) (hy : evO F y = some (I ((2 ^ m - 1 : Nat) : Int)) := by rfl) (h : m ≤ 62 := by decide) : Y P n D W Bo ⟨d, .binOp .and ta x y tb, ty, ps, af, g⟩ F l (I (p % 2 ^ m)) :=
  .mk (by simp) fun a w ha _ => by
    have h1 : (2 : Int) ^ m ≤ 2 ^ 62 := by
      have : (2 ^ m : Nat) ≤ 2 ^ 62 := Nat.pow_le_pow_right (by decide) h
      exact_mod_cast this
    have h0 : (0 : Int) < 2 ^ m := by
      have : 0 < (2 ^ m : Nat) := Nat.two_pow_pos m
      exact_mod_cast this
    have h2 := Int.emod_nonneg p (show (2 : Int) ^ m ≠ 0 by omega)
    have h3 := Int.emod_lt_of_pos p h0
    refine exec_bin P w w _ _ _ _ _ _ _ _ _ _ _ _ ⟨by simp, by simp⟩ ?_
    rw [ha.eval hx, ha.eval hy]
    simp only [binOp, ne_eq, not_true_eq_false, if_false, Op.intBits, Sem.run_pure]
    rw [show IntKind.i64.bits = 64 from rfl, maskI p m h, wrap_i64 (by unfold R64; omega)]
theorem masked_ok (w : World) (k : List UInt8) (m : Int) (hk : k.length = 32) (hm : R64 m) : Pure Tryz.prog 29 [.agg (bs k).toArray, I m] w (.agg (bs (xr k (msk m))).toArray) := by
  have h8 := be8_length m
  have hml := msk_length m
  have hkd : k.length = (msk m).length := by rw [hk, msk_length]
  refine enter Tryz.func29 Tryz.ntmps29 ?_
  refine c_seq <| c_reg <| s_box rfl fun b2 => s_alloc fun b4 => s_nil <| q_then <| c_seq <| c_reg <| s_bsl0 fun b9 => s_y y_as <| s_nil <| q_then <| c_seq <| c_seq <| c_reg <| s_y y_as <| s_nil <| q_then <| c_block <| ?_
  refine c_loop3 (fun (j : Nat) (a : Option Addr) (c : Nat) => [(1, I m), (2, .pointer (some ⟨b2, 0, none⟩)), (4, .pointer (some ⟨b4, 0, none⟩)), (5, .slice a j c), (6, I (7 - (j : Int)))]) (fun j a c => [.row a c 5 1 j (bs ((be8 m).take j)), .blk b4 (.cells (List.replicate 32 (.int .u8 0)).toArray 23 (0, 0)), .blk b2 (.cells (bs k).toArray 23 (0, 0))]) (fun j _ _ => j ≤ 8) (fun j _ _ => 8 - j) 0 (some ⟨b9, 0, none⟩) 0 (by omega) ⟨rfl, rfl, rfl, rfl, rfl, trivial⟩ (.refl _) ?_
  intro j a c hj
  refine c_seq <| c_seq <| c_reg <| s_y y_mv <| s_y (y_geq (p := 7 - (j : Int)) (q := 0)) <| s_nil <| q_then <| c_ifd (fun h11 => ?_) (fun h11 => ?_)
  · have hj8 : j < 8 := by omega
    refine c_skip <| q_then <| c_seq <| c_block <| c_reg <| s_y y_mv <| s_y y_mv <| s_y y_mv <| s_y (y_mul (p := 8) (q := 7 - (j : Int))) <| ?_
    rw [show (8 : Int) * (7 - (j : Int)) = ((56 - 8 * j : Nat) : Int) by omega]
    refine s_y (y_sar (p := m) (q := ((56 - 8 * j : Nat) : Int))) <| ?_
    rw [Int.toNat_natCast]
    refine s_y y_cv8 <| s_bslr (cs := bs [UInt8.ofNat ((m / 2 ^ (56 - 8 * j)) % 256).toNat]) fun b20 => s_app (m := 1) (srcB (q := [UInt8.ofNat ((m / 2 ^ (56 - 8 * j)) % 256).toNat]) (rdR (.head _)) rfl) (h1 := fun v hv => bs_one hv) (hm := .tail _ (.head _)) (hrep := fun _ _ => .tail _ (.head _)) fun a21 c21 h21 => ?_
    rw [← bs_append, ← be8_get m hj8, ← take_snoc (be8 m) j 0 (by omega)]
    refine s_y y_as <| s_nil <| q_nb <| q_then <| c_reg <| s_y y_mv <| s_y (y_sub (p := 7 - (j : Int)) (q := 1)) <| ?_
    rw [show (7 : Int) - (j : Int) - 1 = 7 - ((j + 1 : Nat) : Int) by omega]
    refine s_y y_as <| s_nil <| q_round3 (x := j) (y := a) (z := c) (j + 1) a21 c21 (by omega) (by omega) ⟨rfl, rfl, rfl, rfl, rfl, trivial⟩ (.cons _ (.refl _))
  · obtain rfl : j = 8 := by omega
    rw [show (be8 m).take 8 = be8 m from List.take_of_length_le (by omega)]
    refine c_exit <| q_ex <| q_ex <| q_exb <| q_then <| c_seq <| c_reg <| s_y y_mv <| s_pure (fun w' hw => by have h9 := ref02_Tagged_ok w' lbPad a c (be8 m) (by decide) (rdR (.head _) w' hw) (by omega); rw [h8] at h9; exact h9) <| s_alloc fun b7 => s_sta (b := b7) (vs := (bs (msk m)).toArray) (cs := (List.replicate 32 (.int .u8 0)).toArray) (h1 := hone32 _) (hl := by rw [hz32 hml]; rfl) (hs1 := hz32 hml) ?_
    refine s_nil <| q_then <| c_seq <| c_seq <| c_reg <| s_y y_as <| s_nil <| q_then <| c_block <| ?_
    refine c_loop (fun i : Nat => [(2, .pointer (some ⟨b2, 0, none⟩)), (4, .pointer (some ⟨b4, 0, none⟩)), (7, .pointer (some ⟨b7, 0, none⟩)), (8, I i)]) (fun i => [.blk b7 (.cells (bs (msk m)).toArray 59 (0, 0)), .blk b4 (.cells (List.replicate 32 (.int .u8 0)).toArray 23 (0, 0)), .blk b2 (.cells (bs ((xr k (msk m)).take i ++ k.drop i)).toArray 23 (0, 0))]) (fun i => i ≤ 32) (fun i => 32 - i) 0 (by omega) ⟨rfl, rfl, rfl, rfl, trivial⟩ (by rw [List.take_zero, List.nil_append, List.drop_zero]; exact .cons_cons _ (.cons _ (.refl _))) ?_
    intro i hi
    refine c_seq <| c_seq <| c_reg <| s_y y_mv <| s_y (y_lss (p := i) (q := 32)) <| s_nil <| q_then <| c_ifd (fun h25 => ?_) (fun h25 => ?_)
    · have hik : i < k.length := by omega
      have hcl : ((xr k (msk m)).take i ++ k.drop i).length = 32 := by simp [cmb_length hk m]; omega
      refine c_skip <| q_then <| c_seq <| c_block <| c_regF 9 <| f_y 0 rfl y_mv <| f_y 1 rfl y_mv <| f_y 2 rfl (y_ixa1 (i := i)) <| f_y 3 rfl (y_ldbb (b := b2) (off := 0 + i) (q := (xr k (msk m)).take i ++ k.drop i) (hi := by omega)) <| ?_
      rw [Nat.zero_add i, xr_at hik hkd]
      refine f_y 4 rfl y_mv <| f_y 5 rfl (y_ixa1 (i := i)) <| f_y 6 rfl (y_ldbb (b := b7) (off := 0 + i) (q := msk m) (hi := by omega)) <| ?_
      rw [Nat.zero_add i]
      refine f_y 7 rfl (y_xor8 (p := k.getD i 0) (q := (msk m).getD i 0)) <| f_y 8 rfl (y_ixa1 (i := i)) <| f_w 9 rfl <| s_stb (b := b2) (off := 0 + i) (q := (xr k (msk m)).take i ++ k.drop i) (p := k.getD i 0 ^^^ (msk m).getD i 0) (hl := by omega) ?_
      rw [Nat.zero_add i, xr_step hik hkd]
      refine f_z <| q_nb <| q_then <| c_reg <| s_y y_mv <| s_y (y_add (p := i) (q := 1)) <| s_y y_as <| s_nil <| q_round (i + 1) (by omega) (by omega) ⟨rfl, rfl, rfl, rfl, trivial⟩ (List.Sublist.refl _)
    · obtain rfl : i = 32 := by omega
      rw [show (xr k (msk m)).take 32 ++ k.drop 32 = xr k (msk m) by rw [List.take_of_length_le (by rw [cmb_length hk]; exact Nat.le_refl _), List.drop_eq_nil_of_le (by omega), List.append_nil]]
      refine c_exit <| q_ex <| q_ex <| q_exb <| q_then <| c_seq <| c_reg <| s_y (y_lda (b := b2) (cs := (bs (xr k (msk m))).toArray) (hl := hz32 (cmb_length hk m))) <| s_sta (b := b4) (vs := (bs (xr k (msk m))).toArray) (cs := (List.replicate 32 (.int .u8 0)).toArray) (h1 := hone32 _) (hl := by rw [hz32 (cmb_length hk m)]; rfl) (hs1 := hz32 (cmb_length hk m)) ?_
      refine s_nil <| q_then <| c_ret <| ?_
      exact ret1 Tryz.results29 (rv_ca (hl := hz32 (cmb_length hk m))) fun w' hw => ⟨rfl, hw.sub (List.nil_sublist _)⟩
theorem r11_Open_no1 (w : World) (a : Int) (b c : Int) (p : List UInt8) (hp : p.length = 32) (hn : prv a = false) : Pure Tryz.prog 8 [I a, .agg (I b :: I c :: bs p).toArray] w (.tuple #[.agg (bs (List.replicate 32 0)).toArray, I 50]) := by
  refine enter Tryz.func8 Tryz.ntmps8 ?_
  refine c_seq <| c_reg <| s_box rfl fun b3 => s_alloc fun b4 => s_y y_as <| s_nil <| q_then <| c_seq <| c_seq <| c_reg <| s_y y_mv <| s_pure (fun w' hw => (by have h9 := r11_Private_ok w' a; rw [hn] at h9; exact h9)) <| s_y (v := .bool true) (y_not (b := false)) <| s_nil <| q_then <| c_t <| c_seq <| c_reg <| s_y (y_blda (cs := bs (List.replicate 32 0))) <| s_sta (b := b4) (vs := (bs (List.replicate 32 0)).toArray) (cs := (bs (List.replicate 32 0)).toArray) (h1 := fun v hv => bs_one (by simpa using hv)) (hl := ((hz32 List.length_replicate)).trans ((hz32 List.length_replicate)).symm) (hs1 := (hz32 List.length_replicate)) ?_
  refine s_y y_as <| s_nil <| q_then <| c_ret <| q_ret <| ?_
  exact ret2 Tryz.results8 (rv_ca (hl := (hz32 List.length_replicate))) rv_t fun w' hw => ⟨rfl, hw.sub (List.nil_sublist _)⟩

theorem r11_Open_no2 (w : World) (x : Nat) (b c : Int) (p : List UInt8) (hp : p.length = 32) (hx0 : 0 < x) (hx : x < 2305843009213688669) (hc : (el b && el c) = false) : Pure Tryz.prog 8 [I x, .agg (I b :: I c :: bs p).toArray] w (.tuple #[.agg (bs (List.replicate 32 0)).toArray, I 110]) := by
  refine enter Tryz.func8 Tryz.ntmps8 ?_
  refine c_seq <| c_reg <| s_box rfl fun b3 => s_alloc fun b4 => s_y y_as <| s_nil <| q_then <| c_seq <| c_seq <| c_reg <| s_y y_mv <| s_pure (fun w' hw => r11_Private_yes w' x hx0 hx) <| s_y (v := .bool false) (y_not (b := true)) <| s_nil <| q_then <| c_f <| c_skip <| q_then <| c_seq <| c_reg <| s_y (y_lda (b := b3) (cs := (I b :: I c :: bs p).toArray) (hl := (by simp [bs_length, hp]))) <| s_pure (fun w' hw => r11_Check_no w' b c p hp hc) <| s_y y_as <| s_nil <| q_then <| c_seq <| c_seq <| c_reg <| s_y y_mv <| s_nt (y_neq (p := 110) (q := 0)) (by omega) <| s_nil <| q_then <| c_t <| c_seq <| c_reg <| s_y (y_blda (cs := bs (List.replicate 32 0))) <| s_y y_mv <| s_sta (b := b4) (vs := (bs (List.replicate 32 0)).toArray) (cs := (bs (List.replicate 32 0)).toArray) (h1 := fun v hv => bs_one (by simpa using hv)) (hl := ((hz32 List.length_replicate)).trans ((hz32 List.length_replicate)).symm) (hs1 := (hz32 List.length_replicate)) ?_
  refine s_y y_as <| s_nil <| q_then <| c_ret <| q_ret <| ?_
  exact ret2 Tryz.results8 (rv_ca (hl := (hz32 List.length_replicate))) rv_t fun w' hw => ⟨rfl, hw.sub (List.nil_sublist _)⟩

theorem r11_Open_yes (w : World) (x : Nat) (u v : Nat) (p : List UInt8) (hu : El u) (hv : El v) (hp : p.length = 32) (hx0 : 0 < x) (hx : x < 2305843009213688669) : Pure Tryz.prog 8 [I x, .agg (I u :: I v :: bs p).toArray] w (.tuple #[.agg (bs (xr p (msk (v * pp (pp u (qq x 2305843009213688667)) 2305843009213688668 % 4611686018427377339 : Nat)))).toArray, I 0]) := by
  refine enter Tryz.func8 Tryz.ntmps8 ?_
  refine c_seq <| c_reg <| s_box rfl fun b3 => s_alloc fun b4 => s_y y_as <| s_nil <| q_then <| c_seq <| c_seq <| c_reg <| s_y y_mv <| s_pure (fun w' hw => r11_Private_yes w' x hx0 hx) <| s_y (v := .bool false) (y_not (b := true)) <| s_nil <| q_then <| c_f <| c_skip <| q_then <| c_seq <| c_reg <| s_y (y_lda (b := b3) (cs := (I (u : Int) :: I (v : Int) :: bs p).toArray) (hl := (by simp [bs_length, hp]))) <| s_pure (fun w' hw => r11_Check_yes w' u v p hu hv hp) <| s_y y_as <| s_nil <| q_then <| c_seq <| c_seq <| c_reg <| s_y y_mv <| s_nf (y_neq (p := 0) (q := 0)) (by omega) <| s_nil <| q_then <| c_f <| c_skip <| q_then <| c_seq <| c_reg <| s_y y_mv <| s_pure (fun w' hw => r3_Inv_yes w' x hx0 hx) <| s_y y_mv <| s_y y_ext <| s_y y_ext <| s_y y_as <| s_y y_as <| s_nil <| q_then <| c_seq <| c_reg <| s_y y_fa <| s_y (y_ld (b := b3) (v := I (u : Int))) <| s_y y_mv <| s_pure (fun w' hw => rExp_yes w' u (qq x 2305843009213688667) hu (qq_lt _ _)) <| s_y y_mv <| s_y y_ext <| s_y y_ext <| s_y y_as <| s_y y_as <| s_nil <| q_then <| c_seq <| c_reg <| s_y y_mv <| s_pure (fun w' hw => (by have h9 := rInv_ok w' ((pp u (qq x 2305843009213688667) : Nat) : Int); rw [inv_V ((hu).pow _), inv_E ((hu).pow _)] at h9; exact h9)) <| s_y y_mv <| s_y y_ext <| s_y y_ext <| s_y y_as <| s_nil <| q_then <| c_seq <| c_reg <| s_y y_fa <| s_y (y_ld (b := b3) (v := I (v : Int))) <| s_y y_mv <| s_pure (fun w' hw => (by have h9 := rMul_ok w' (v : Int) ((pp (pp u (qq x 2305843009213688667)) 2305843009213688668 : Nat) : Int); rw [mul_V hv ((((hu).pow _)).pow _), mul_E hv ((((hu).pow _)).pow _)] at h9; exact h9)) <| s_y y_mv <| s_y y_ext <| s_y y_ext <| s_y y_as <| s_y y_as <| s_nil <| q_then <| c_seq <| c_reg <| s_y y_fa <| s_y (y_ldin (b := b3) (off := 2) (cs := (I (u : Int) :: I (v : Int) :: bs p).toArray) (ys := bs p) (hl := (by rw [bs_length, hp])) (hv := fun j v h => by rw [List.getElem?_toArray, Nat.add_comm]; exact h)) <| s_y y_mv <| s_pure (fun w' hw => masked_ok w' p ((v * (pp (pp u (qq x 2305843009213688667)) 2305843009213688668) % 4611686018427377339 : Nat) : Int) hp (((hv).mul ((((hu).pow _)).pow _)).r64)) <| s_sta (b := b4) (vs := (bs (xr p (msk ((v * (pp (pp u (qq x 2305843009213688667)) 2305843009213688668) % 4611686018427377339 : Nat) : Int)))).toArray) (cs := (bs (List.replicate 32 0)).toArray) (h1 := fun v hv => bs_one (by simpa using hv)) (hl := ((hz32 (cmb_length hp _))).trans ((hz32 List.length_replicate)).symm) (hs1 := (hz32 (cmb_length hp _))) ?_
  refine s_y y_as <| s_nil <| q_then <| c_ret <| ?_
  exact ret2 Tryz.results8 (rv_ca (hl := (hz32 (cmb_length hp _)))) rv_t fun w' hw => ⟨rfl, hw.sub (List.nil_sublist _)⟩

theorem r11_Lock_no (w : World) (a : Int) (k s : List UInt8) (hk : k.length = 32) (hs : s.length = 32) (ha : el a = false) : Pure Tryz.prog 6 [I a, .agg (bs k).toArray, .agg (bs s).toArray] w (.tuple #[.agg (I 0 :: I 0 :: bs (List.replicate 32 0)).toArray, I 40]) := by
  refine enter Tryz.func6 Tryz.ntmps6 ?_
  refine c_seq <| c_reg <| s_box rfl fun b4 => s_box rfl fun b5 => s_alloc fun b6 => s_y y_as <| s_nil <| q_then <| c_seq <| c_reg <| s_y y_mv <| s_pure (fun w' hw => rCheck_no w' a ha) <| s_y y_as <| s_nil <| q_then <| c_seq <| c_seq <| c_reg <| s_y y_mv <| s_nt (y_neq (p := 40) (q := 0)) (by omega) <| s_nil <| q_then <| c_t <| c_seq <| c_reg <| s_y (y_bcap (cs := (I 0 :: I 0 :: bs (List.replicate 32 0)))) <| s_y y_mv <| s_sta (b := b6) (vs := (I 0 :: I 0 :: bs (List.replicate 32 0)).toArray) (cs := (I 0 :: I 0 :: bs (List.replicate 32 0)).toArray) (h1 := one_cap) (hl := by simp [bs_length, List.length_replicate]) (hs1 := (by simp [bs_length, List.length_replicate])) ?_
  refine s_y y_as <| s_nil <| q_then <| c_ret <| q_ret <| ?_
  exact ret2 Tryz.results6 (rv_ca (hl := (by simp [bs_length, List.length_replicate]))) rv_t fun w' hw => ⟨rfl, hw.sub (List.nil_sublist _)⟩

theorem r11_Lock_yes (w : World) (y : Nat) (k s : List UInt8) (hk : k.length = 32) (hs : s.length = 32) (hy : El y) : Pure Tryz.prog 6 [I y, .agg (bs k).toArray, .agg (bs s).toArray] w (.tuple #[.agg (I (pp y (dscal s lbLock) : Nat) :: I (pp 4 (dscal s lbMask) * pp 4 (dscal s lbLock) % 4611686018427377339 : Nat) :: bs (xr k (msk (pp 4 (dscal s lbMask) : Nat)))).toArray, I 0]) := by
  refine enter Tryz.func6 Tryz.ntmps6 ?_
  refine c_seq <| c_reg <| s_box rfl fun b4 => s_box rfl fun b5 => s_alloc fun b6 => s_y y_as <| s_nil <| q_then <| c_seq <| c_reg <| s_y y_mv <| s_pure (fun w' hw => rCheck_yes w' y hy) <| s_y y_as <| s_nil <| q_then <| c_seq <| c_seq <| c_reg <| s_y y_mv <| s_nf (y_neq (p := 0) (q := 0)) (by omega) <| s_nil <| q_then <| c_f <| c_skip <| q_then <| c_seq <| c_reg <| s_y (y_lda (b := b5) (cs := (bs s).toArray) (hl := (hz32 hs))) <| s_pure (fun w' hw => ref07_Scalar_ok w' s lbLock hs (by decide)) <| s_y y_as <| s_nil <| q_then <| c_seq <| c_reg <| s_y (y_lda (b := b5) (cs := (bs s).toArray) (hl := (hz32 hs))) <| s_pure (fun w' hw => ref07_Scalar_ok w' s lbMask hs (by decide)) <| s_pure (fun w' hw => (by have h9 := rBase_ok w' ((dscal s lbMask : Nat) : Int); rw [base_V (k := dscal s lbMask) ((scal_lt _ _).2), base_E (k := dscal s lbMask) ((scal_lt _ _).2)] at h9; exact h9)) <| s_y y_mv <| s_y y_ext <| s_y y_ext <| s_y y_as <| s_y y_as <| s_nil <| q_then <| c_seq <| c_reg <| s_y y_mv <| s_y y_mv <| s_pure (fun w' hw => rExp_yes w' y (dscal s lbLock) hy ((scal_lt _ _).2)) <| s_y y_mv <| s_y y_ext <| s_y y_ext <| s_y y_as <| s_y y_as <| s_nil <| q_then <| c_seq <| c_reg <| s_y y_mv <| s_pure (fun w' hw => (by have h9 := rBase_ok w' ((dscal s lbLock : Nat) : Int); rw [base_V (k := dscal s lbLock) ((scal_lt _ _).2), base_E (k := dscal s lbLock) ((scal_lt _ _).2)] at h9; exact h9)) <| s_y y_mv <| s_y y_ext <| s_y y_ext <| s_y y_as <| s_y y_as <| s_nil <| q_then <| c_seq <| c_reg <| s_y y_mv <| s_y y_mv <| s_pure (fun w' hw => (by have h9 := rMul_ok w' ((pp 4 (dscal s lbMask) : Nat) : Int) ((pp 4 (dscal s lbLock) : Nat) : Int); rw [mul_V (El.four.pow _) (El.four.pow _), mul_E (El.four.pow _) (El.four.pow _)] at h9; exact h9)) <| s_y y_mv <| s_y y_ext <| s_y y_ext <| s_y y_as <| s_y y_as <| s_nil <| q_then <| c_seq <| c_reg <| s_y y_mv <| s_y y_mv <| s_y (y_lda (b := b4) (cs := (bs k).toArray) (hl := (hz32 hk))) <| s_y y_mv <| s_pure (fun w' hw => masked_ok w' k ((pp 4 (dscal s lbMask) : Nat) : Int) hk ((El.four.pow _).r64)) <| s_y (y_bcap (cs := I ((pp y (dscal s lbLock) : Nat) : Int) :: I (((pp 4 (dscal s lbMask)) * (pp 4 (dscal s lbLock)) % 4611686018427377339 : Nat) : Int) :: bs (xr k (msk ((pp 4 (dscal s lbMask) : Nat) : Int)))) (hf := fillC (cmb_length hk _))) <| s_sta (b := b6) (vs := (I ((pp y (dscal s lbLock) : Nat) : Int) :: I (((pp 4 (dscal s lbMask)) * (pp 4 (dscal s lbLock)) % 4611686018427377339 : Nat) : Int) :: bs (xr k (msk ((pp 4 (dscal s lbMask) : Nat) : Int)))).toArray) (cs := (I 0 :: I 0 :: bs (List.replicate 32 0)).toArray) (h1 := one_cap) (hl := by simp [bs_length, List.length_replicate, cmb_length hk _]) (hs1 := (by simp [bs_length, cmb_length hk _])) ?_
  refine s_y y_as <| s_nil <| q_then <| c_ret <| ?_
  exact ret2 Tryz.results6 (rv_ca (hl := (by simp [bs_length, cmb_length hk _]))) rv_t fun w' hw => ⟨rfl, hw.sub (List.nil_sublist _)⟩

def zcs : List Value := I 0 :: I 0 :: bs (List.replicate 32 0)
noncomputable def fcE (a b : Int) : Int := bif prv a && prv b then 0 else 50
noncomputable def fcV (a b : Int) : Int := bif prv a && prv b then ((fac a.toNat b.toNat : Nat) : Int) else 0
noncomputable def tuE (n a b : Int) : Int := bif prv n then (bif el a && el b then 0 else 110) else 50
noncomputable def tuA (n a b : Int) : Int := bif prv n && (el a && el b) then ((pp a.toNat n.toNat : Nat) : Int) else 0
noncomputable def tuB (n a b : Int) : Int := bif prv n && (el a && el b) then b else 0
noncomputable def tuP (n a b : Int) (p : List UInt8) : List UInt8 := bif prv n && (el a && el b) then p else List.replicate 32 0
theorem tuP_length (n a b : Int) {p : List UInt8} (h : p.length = 32) : (tuP n a b p).length = 32 := by
  unfold tuP
  cases (prv n && (el a && el b)) with
  | true => exact h
  | false => exact List.length_replicate
theorem Factor_ok (w : World) (a b : Int) : Pure Tryz.prog 12 [I a, I b] w (.tuple #[I (fcV a b), I (fcE a b)]) := by
  cases h : prv a with
  | false => rw [fcV, fcE, h]; exact Factor_no1 w a b h
  | true =>
    obtain ⟨x, rfl, hx0, hx⟩ := prv_nat h
    cases h' : prv b with
    | false => rw [fcV, fcE, h, h']; exact Factor_no2 w x b hx0 hx h'
    | true =>
      obtain ⟨y, rfl, hy0, hy⟩ := prv_nat h'
      rw [fcV, fcE, h, h', Int.toNat_natCast, Int.toNat_natCast, fac]
      exact Factor_yes w x y hx0 hx hy0 hy
theorem Turn_ok (w : World) (n a b : Int) (p : List UInt8) (hp : p.length = 32) : Pure Tryz.prog 13 [I n, .agg (I a :: I b :: bs p).toArray] w (.tuple #[.agg (I (tuA n a b) :: I (tuB n a b) :: bs (tuP n a b p)).toArray, I (tuE n a b)]) := by
  cases h : prv n with
  | false => rw [tuA, tuB, tuP, tuE, h]; exact Turn_no1 w n a b p hp h
  | true =>
    obtain ⟨x, rfl, hx0, hx⟩ := prv_nat h
    cases h' : (el a && el b) with
    | false => rw [tuA, tuB, tuP, tuE, h, h']; exact Turn_no2 w x a b p hp hx0 hx h'
    | true =>
      have h3 : el a = true ∧ el b = true := by simpa using h'
      obtain ⟨u, rfl, e1, e2, e3⟩ := el_nat h3.1
      obtain ⟨v, rfl, e4, e5, e6⟩ := el_nat h3.2
      rw [tuA, tuB, tuP, tuE, h, h', Int.toNat_natCast, Int.toNat_natCast]
      exact Turn_yes w x u v p ⟨e1, e2, e3⟩ ⟨e4, e5, e6⟩ hp hx0 hx
noncomputable def opE (n a b : Int) : Int := bif prv n then (bif el a && el b then 0 else 110) else 50
noncomputable def opK (n a b : Int) (p : List UInt8) : List UInt8 := bif prv n && (el a && el b) then xr p (msk (opM n.toNat a.toNat b.toNat : Nat)) else List.replicate 32 0
theorem opK_length (n a b : Int) {p : List UInt8} (h : p.length = 32) : (opK n a b p).length = 32 := by
  unfold opK
  cases (prv n && (el a && el b)) with
  | true => exact cmb_length h _
  | false => exact List.length_replicate
noncomputable def lkE (y : Int) : Int := bif el y then 0 else 40
noncomputable def lkA (y : Int) (s : List UInt8) : Int := bif el y then ((pp y.toNat (dscal s lbLock) : Nat) : Int) else 0
noncomputable def lkB (y : Int) (s : List UInt8) : Int := bif el y then ((pp 4 (dscal s lbMask) * pp 4 (dscal s lbLock) % 4611686018427377339 : Nat) : Int) else 0
noncomputable def lkP (y : Int) (k s : List UInt8) : List UInt8 := bif el y then xr k (msk (pp 4 (dscal s lbMask) : Nat)) else List.replicate 32 0
theorem lkP_length (y : Int) {k : List UInt8} (s : List UInt8) (h : k.length = 32) : (lkP y k s).length = 32 := by
  unfold lkP
  cases el y with
  | true => exact cmb_length h _
  | false => exact List.length_replicate
noncomputable def ckE (a b : Int) : Int := bif el a && el b then 0 else 110
theorem Open_ok (w : World) (n a b : Int) (p : List UInt8) (hp : p.length = 32) (hg : LS w) : Pure Tryz.prog 7 [I n, .agg (I a :: I b :: bs p).toArray] w (.tuple #[.agg (bs (opK n a b p)).toArray, I (opE n a b)]) := by
  cases h : prv n with
  | false => rw [opK, opE, h]; exact Open_no1 w n a b p hp h
  | true =>
    obtain ⟨x, rfl, hx0, hx⟩ := prv_nat h
    cases h' : (el a && el b) with
    | false => rw [opK, opE, h, h']; exact Open_no2 w x a b p hp hx0 hx h'
    | true =>
      have h3 : el a = true ∧ el b = true := by simpa using h'
      obtain ⟨u, rfl, e1, e2, e3⟩ := el_nat h3.1
      obtain ⟨v, rfl, e4, e5, e6⟩ := el_nat h3.2
      rw [opK, opE, h, h', Int.toNat_natCast, Int.toNat_natCast, Int.toNat_natCast]
      exact Open_yes w x u v p ⟨e1, e2, e3⟩ ⟨e4, e5, e6⟩ hp hx0 hx hg
theorem Lock_ok (w : World) (y : Int) (k s : List UInt8) (hk : k.length = 32) (hs : s.length = 32) (hg : LS w) : Pure Tryz.prog 5 [I y, .agg (bs k).toArray, .agg (bs s).toArray] w (.tuple #[.agg (I (lkA y s) :: I (lkB y s) :: bs (lkP y k s)).toArray, I (lkE y)]) := by
  cases h : el y with
  | false => rw [lkA, lkB, lkP, lkE, h]; exact Lock_no w y k s hk hs h
  | true =>
    obtain ⟨z, rfl, e1, e2, e3⟩ := el_nat h
    have h9 := Lock_yes w z k s hk hs ⟨e1, e2, e3⟩ hg
    rw [show pp 4 (dscal s lbMask) * 1 % 4611686018427377339 = pp 4 (dscal s lbMask) by rw [Nat.mul_one, Nat.mod_eq_of_lt (pp_lt _ _)]] at h9; rw [lkA, lkB, lkP, lkE, h, Int.toNat_natCast]
    exact h9
theorem capCheck_ok (w : World) (a b : Int) (p : List UInt8) (hp : p.length = 32) : Pure Tryz.prog 9 [.agg (I a :: I b :: bs p).toArray] w (I (ckE a b)) := by
  cases h' : (el a && el b) with
  | false => rw [ckE, h']; exact capCheck_no w a b p hp h'
  | true =>
    have h3 : el a = true ∧ el b = true := by simpa using h'
    obtain ⟨u, rfl, e1, e2, e3⟩ := el_nat h3.1
    obtain ⟨v, rfl, e4, e5, e6⟩ := el_nat h3.2
    rw [ckE, h']
    exact capCheck_yes w u v p ⟨e1, e2, e3⟩ ⟨e4, e5, e6⟩ hp
theorem r11_Open_ok (w : World) (n a b : Int) (p : List UInt8) (hp : p.length = 32) (hg : LS w) : Pure Tryz.prog 8 [I n, .agg (I a :: I b :: bs p).toArray] w (.tuple #[.agg (bs (opK n a b p)).toArray, I (opE n a b)]) := by
  cases h : prv n with
  | false => rw [opK, opE, h]; exact r11_Open_no1 w n a b p hp h
  | true =>
    obtain ⟨x, rfl, hx0, hx⟩ := prv_nat h
    cases h' : (el a && el b) with
    | false => rw [opK, opE, h, h']; exact r11_Open_no2 w x a b p hp hx0 hx h'
    | true =>
      have h3 : el a = true ∧ el b = true := by simpa using h'
      obtain ⟨u, rfl, e1, e2, e3⟩ := el_nat h3.1
      obtain ⟨v, rfl, e4, e5, e6⟩ := el_nat h3.2
      rw [opK, opE, h, h', Int.toNat_natCast, Int.toNat_natCast, Int.toNat_natCast]
      exact r11_Open_yes w x u v p ⟨e1, e2, e3⟩ ⟨e4, e5, e6⟩ hp hx0 hx
theorem r11_Lock_ok (w : World) (y : Int) (k s : List UInt8) (hk : k.length = 32) (hs : s.length = 32) (hg : LS w) : Pure Tryz.prog 6 [I y, .agg (bs k).toArray, .agg (bs s).toArray] w (.tuple #[.agg (I (lkA y s) :: I (lkB y s) :: bs (lkP y k s)).toArray, I (lkE y)]) := by
  cases h : el y with
  | false => rw [lkA, lkB, lkP, lkE, h]; exact r11_Lock_no w y k s hk hs h
  | true =>
    obtain ⟨z, rfl, e1, e2, e3⟩ := el_nat h
    have h9 := r11_Lock_yes w z k s hk hs ⟨e1, e2, e3⟩
    rw [lkA, lkB, lkP, lkE, h, Int.toNat_natCast]
    exact h9
theorem r11_Check_ok (w : World) (a b : Int) (p : List UInt8) (hp : p.length = 32) : Pure Tryz.prog 10 [.agg (I a :: I b :: bs p).toArray] w (I (ckE a b)) := by
  cases h' : (el a && el b) with
  | false => rw [ckE, h']; exact r11_Check_no w a b p hp h'
  | true =>
    have h3 : el a = true ∧ el b = true := by simpa using h'
    obtain ⟨u, rfl, e1, e2, e3⟩ := el_nat h3.1
    obtain ⟨v, rfl, e4, e5, e6⟩ := el_nat h3.2
    rw [ckE, h']
    exact r11_Check_yes w u v p ⟨e1, e2, e3⟩ ⟨e4, e5, e6⟩ hp
end Go.Proofs.YtbbfagnbmofgnaaGreatDoor
