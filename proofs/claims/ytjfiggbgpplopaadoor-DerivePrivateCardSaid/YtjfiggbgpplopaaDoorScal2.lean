/- Scalars of keys. -/
import Derived.Test.YtjfiggbgpplopaaDoorScal
namespace Go.Proofs.YtjfiggbgpplopaaDoor
open Go Eng Sha Cod Dv

theorem ref04_Rest_ok (w : World) (q : List UInt8) (y : Nat) (hq : q.length = 32) (hy : 256 < y) (hyM : y < 4611686018427387904) :
    Pure Tryd.prog 50 [.agg (bs q).toArray, I y] w (I (rst y q)) := by
  refine enter Tryd.func50 Tryd.ntmps50 ?_
  refine c_seq <| c_reg <| s_box rfl fun b2 => s_y y_as <| s_nil <| q_then <| c_seq <| c_reg <| s_y y_as <| s_nil <| q_then <| c_seq <| c_seq <| c_reg <| s_y y_as <| s_nil <| q_then <| c_block <| ?_
  refine c_loop (fun i : Nat => [(1, I y), (2, .pointer (some ⟨b2, 0, none⟩)), (5, I (rst y (q.take i))), (6, I i)]) (fun _ => [.blk b2 (.cells (bs q).toArray 38 (0, 0))]) (fun i => i ≤ 32) (fun i => 32 - i) 0 (by omega) ⟨rfl, rfl, rfl, rfl, trivial⟩ (List.Sublist.refl _) ?_
  intro i hi
  refine c_seq <| c_seq <| c_reg <| s_y y_mv <| s_y y_lss <| s_nil <| q_then <| c_ifd (fun h8 => ?_) (fun h8 => ?_)
  · have hil : i < q.length := by omega
    obtain ⟨r, hr⟩ : ∃ r, rst y (q.take i) = r := ⟨_, rfl⟩
    have hlt : r < y := by rw [← hr]; exact rst_lt (by omega) _
    have htk := rst_take y q i hil
    rw [hr] at htk
    obtain ⟨b, hb⟩ : ∃ b, q[i] = b := ⟨_, rfl⟩
    rw [hb] at htk
    have hbl := b.toNat_lt
    obtain ⟨z, hz⟩ : ∃ z, 256 * r % y = z := ⟨_, rfl⟩
    have hzy : z < y := by rw [← hz]; exact Nat.mod_lt _ (by omega)
    rw [hr]
    refine c_skip <| q_then <| c_seq <| c_block <| c_regd <| d_y y_mv <| d_y y_mv <| d_pure (fun w' hw => ref04_Product_ok w' 256 r y hy (by omega) hyM) <| ?_
    rw [hz]
    refine d_y y_mv <| d_y (y_ixa1 (i := i)) <| d_y (y_ld (v := B b) (hv := by rw [List.getElem?_toArray, Nat.zero_add, Int.toNat_natCast, bs_get hil, ← hb]; simp [List.getD_eq_getElem?_getD, List.getElem?_eq_getElem hil])) <| d_y y_cvb <| d_y (y_add (p := z) (q := b.toNat)) <| d_y y_mv <| d_y (y_rem (p := (z : Int) + b.toNat) (q := y)) <| ?_
    rw [← Int.natCast_add, ← Int.natCast_emod, show (z + b.toNat) % y = rst y (q.take (i + 1)) by rw [htk, ← hz, Nat.mod_add_mod, Nat.mul_comm]]
    refine d_y y_as <| d_nil <| q_nb <| q_then <| c_reg <| s_y y_mv <| s_y y_add <| s_y y_as <| s_nil <| q_round (i + 1) (by omega) (by omega) ⟨rfl, rfl, rfl, rfl, trivial⟩ (List.Sublist.refl _)
  · have h32 : q.take i = q := List.take_of_length_le (by omega)
    rw [h32]
    refine c_exit <| q_ex <| q_ex <| q_exb <| q_then <| c_seq <| c_reg <| s_y y_mv <| s_y y_as <| s_nil <| q_then <| c_ret <| ?_
    exact ret1 Tryd.results50 rv_t fun w' hw => ⟨rfl, hw.sub (List.nil_sublist _)⟩

theorem ref04_Scalar_ok (w : World) (t : List UInt8) (a : Option Addr) (c : Nat) (q : List UInt8) (ht : t.length ≤ 140737488355000) (hr : Rd w a (bs q)) (hl : q.length ≤ 140737488354000) :
    Pure Tryd.prog 30 [.string (sb t), .slice a q.length c] w (I (scal t q)) := by
  have hlt := rst_lt (y := 2305843009213688668) (by decide) (tagged t q)
  refine enter Tryd.func30 Tryd.ntmps30 ?_
  refine c_seq <| c_reg <| s_y y_as <| s_nil <| q_then <| c_seq <| c_reg <| s_y y_mv <| s_y y_mv <| s_pure (fun w' hw => ref02_Tagged_ok w' t a c q ht (hr.st hw) hl) <| s_pure (fun w' hw => ref04_Rest_ok w' (tagged t q) 2305843009213688668 (tagged_length _ _) (by decide) (by decide)) <| s_y (y_add (p := 1) (q := (rst 2305843009213688668 (tagged t q) : Int))) <| ?_
  rw [show (1 : Int) + (rst 2305843009213688668 (tagged t q) : Int) = (scal t q : Int) by unfold scal; omega]
  refine s_y y_as <| s_nil <| q_then <| c_ret <| ?_
  exact ret1 Tryd.results30 rv_t fun w' hw => ⟨rfl, hw⟩

/-- Scalar -/
def dscal (k t : List UInt8) : Nat := scal scalarS (expand k t [])
theorem derive_Scalar_ok (w : World) (k t : List UInt8) (hg : LS w) (hk : k.length = 32) (ht : t.length ≤ 1000000) :
    Pure Tryd.prog 13 [.agg (bs k).toArray, .string (sb t)] w (I (dscal k t)) := by
  have hs32 : (bs k).toArray.size = 32 := by simp [bs_length, hk]
  have hel := expand_length k t []
  have hs33 : (bs (expand k t [])).toArray.size = 32 := by simp [bs_length, expand_length]
  refine enter Tryd.func13 Tryd.ntmps13 ?_
  refine c_seq <| c_reg <| s_box rfl fun b2 => s_y y_as <| s_nil <| q_then <| c_seq <| c_reg <| s_y (y_lda (cs := (bs k).toArray) (hl := hs32)) <| s_y y_mv <| s_pure (fun w' hw => derive_Expand_ok w' k t none 0 [] (hg.st hw) hk (Rd.nil _ _) (by simp) ht (by simp)) <| s_alloc fun b5 => s_sta (vs := (bs (expand k t [])).toArray) (cs := (List.replicate 32 (.int .u8 0)).toArray) (h1 := fun v hv => bs_one (by simpa using hv)) (hl := by rw [hs33]; rfl) (hs1 := hs33) ?_
  have hgs : ∀ w', St w [] w' [.blk b5 (.cells (bs (expand k t [])).toArray 23 (0, 0)), .blk b2 (.cells (bs k).toArray 23 (0, 0))] → Pure Tryd.prog 24 [.string (sb scalarS), .slice (some ⟨b5, 0, none⟩) 32 32] w' (I (dscal k t)) := fun w' hw => by
    have := group_Scalar_ok w' scalarS (some ⟨b5, 0, none⟩) 32 (expand k t []) (hg.st hw) (by decide) (rd_blkB (e := 23) (.head _) w' hw) (by omega)
    rwa [hel] at this
  refine s_nil <| q_then <| c_seq <| c_reg <| s_y y_sla <| s_pure hgs <| s_y y_as <| s_nil <| q_then <| c_ret <| ?_
  exact ret1 Tryd.results13 rv_t fun w' hw => ⟨rfl, hw.sub (List.nil_sublist _)⟩

theorem ref07_Scalar_ok (w : World) (k t : List UInt8) (hk : k.length = 32) (ht : t.length ≤ 1000000) :
    Pure Tryd.prog 14 [.agg (bs k).toArray, .string (sb t)] w (I (dscal k t)) := by
  have hs32 : (bs k).toArray.size = 32 := by simp [bs_length, hk]
  have hel := expand_length k t []
  have hs33 : (bs (expand k t [])).toArray.size = 32 := by simp [bs_length, expand_length]
  refine enter Tryd.func14 Tryd.ntmps14 ?_
  refine c_seq <| c_reg <| s_box rfl fun b2 => s_y y_as <| s_nil <| q_then <| c_seq <| c_reg <| s_y (y_lda (cs := (bs k).toArray) (hl := hs32)) <| s_y y_mv <| s_pure (fun w' hw => ref07_Expand_ok w' k t none 0 [] hk (Rd.nil _ _) (by simp) ht (by simp)) <| s_alloc fun b5 => s_sta (vs := (bs (expand k t [])).toArray) (cs := (List.replicate 32 (.int .u8 0)).toArray) (h1 := fun v hv => bs_one (by simpa using hv)) (hl := by rw [hs33]; rfl) (hs1 := hs33) ?_
  have hgs : ∀ w', St w [] w' [.blk b5 (.cells (bs (expand k t [])).toArray 23 (0, 0)), .blk b2 (.cells (bs k).toArray 23 (0, 0))] → Pure Tryd.prog 30 [.string (sb scalarS), .slice (some ⟨b5, 0, none⟩) 32 32] w' (I (dscal k t)) := fun w' hw => by
    have := ref04_Scalar_ok w' scalarS (some ⟨b5, 0, none⟩) 32 (expand k t []) (by decide) (rd_blkB (e := 23) (.head _) w' hw) (by omega)
    rwa [hel] at this
  refine s_nil <| q_then <| c_seq <| c_reg <| s_y y_sla <| s_pure hgs <| s_y y_as <| s_nil <| q_then <| c_ret <| ?_
  exact ret1 Tryd.results14 rv_t fun w' hw => ⟨rfl, hw.sub (List.nil_sublist _)⟩

theorem ref07_Step_ok (w : World) (k : List UInt8) (n : Int) (hk : k.length = 32) (hn : R64 n) :
    Pure Tryd.prog 12 [.agg (bs k).toArray, I n] w (if n < 0 then .tuple #[.agg (List.replicate 32 (.int .u8 0)).toArray, I 1] else if 65536 < n then .tuple #[.agg (List.replicate 32 (.int .u8 0)).toArray, I 2] else .tuple #[.agg (bs (stepN k n.toNat)).toArray, I 0]) := by
  refine enter Tryd.func12 Tryd.ntmps12 ?_
  refine c_seq <| c_reg <| s_box rfl fun b2 => s_alloc fun b4 => s_y y_as <| s_nil <| q_then <| c_seq <| c_seq <| c_reg <| s_y y_mv <| s_y y_lss <| s_nil <| q_then <| c_ifd (fun h8 => ?_) (fun h8 => ?_)
  · rw [if_pos h8]
    refine c_seq <| c_reg <| s_y (y_blda (cs := List.replicate 32 (.int .u8 0))) <| s_sta (vs := (List.replicate 32 (.int .u8 0)).toArray) (cs := (List.replicate 32 (.int .u8 0)).toArray) (h1 := by intro u hu; simp at hu; subst hu; rfl) (hl := by rfl) (hs1 := by rfl) ?_
    refine s_y y_as <| s_nil <| q_then <| c_ret <| q_ret <| ?_
    exact ret2 Tryd.results12 (rv_ca (cs := (List.replicate 32 (.int .u8 0)).toArray)) rv_t fun w' hw => ⟨rfl, hw.sub (List.nil_sublist _)⟩
  rw [if_neg h8]
  refine c_skip <| q_then <| c_seq <| c_seq <| c_reg <| s_y y_mv <| s_y y_gtr <| s_nil <| q_then <| c_ifd (fun h11 => ?_) (fun h11 => ?_)
  · rw [if_pos h11]
    refine c_seq <| c_reg <| s_y (y_blda (cs := List.replicate 32 (.int .u8 0))) <| s_sta (vs := (List.replicate 32 (.int .u8 0)).toArray) (cs := (List.replicate 32 (.int .u8 0)).toArray) (h1 := by intro u hu; simp at hu; subst hu; rfl) (hl := by rfl) (hs1 := by rfl) ?_
    refine s_y y_as <| s_nil <| q_then <| c_ret <| q_ret <| ?_
    exact ret2 Tryd.results12 (rv_ca (cs := (List.replicate 32 (.int .u8 0)).toArray)) rv_t fun w' hw => ⟨rfl, hw.sub (List.nil_sublist _)⟩
  rw [if_neg h11]
  obtain ⟨m, rfl⟩ : ∃ m : Nat, n = (m : Int) := ⟨n.toNat, by omega⟩
  rw [Int.toNat_natCast]
  refine c_skip <| q_then <| c_seq <| c_seq <| c_reg <| s_y y_as <| s_nil <| q_then <| c_block <| ?_
  refine c_loop (fun i : Nat => [(1, I m), (2, .pointer (some ⟨b2, 0, none⟩)), (4, .pointer (some ⟨b4, 0, none⟩)), (6, I i)]) (fun i => [.blk b4 (.cells (List.replicate 32 (.int .u8 0)).toArray 23 (0, 0)), .blk b2 (.cells (bs (stepN k i)).toArray 23 (0, 0))]) (fun i => i ≤ m) (fun i => m - i) 0 (by omega) ⟨rfl, rfl, rfl, rfl, trivial⟩ (.cons_cons _ (.cons_cons _ (List.nil_sublist _))) ?_
  intro i hi
  have hsi : (bs (stepN k i)).toArray.size = 32 := by simp [bs_length, stepN_length hk]
  have hsj : (bs (stepN k (i + 1))).toArray.size = 32 := by simp [bs_length, stepN_length hk]
  refine c_seq <| c_seq <| c_reg <| s_y y_mv <| s_y y_mv <| s_y y_lss <| s_nil <| q_then <| c_ifd (fun h15 => ?_) (fun h15 => ?_)
  · refine c_skip <| q_then <| c_seq <| c_block <| c_reg <| s_y (y_lda (cs := (bs (stepN k i)).toArray) (hl := hsi)) <| s_pure (fun w' hw => ref07_Expand_ok w' (stepN k i) stepS none 0 [] (stepN_length hk i) (Rd.nil _ _) (by simp) (by decide) (by simp)) <| s_sta (vs := (bs (stepN k (i + 1))).toArray) (cs := (bs (stepN k i)).toArray) (h1 := fun v hv => bs_one (by simpa using hv)) (hl := by rw [hsj, hsi]) (hs1 := hsj) ?_
    refine s_nil <| q_nb <| q_then <| c_reg <| s_y y_mv <| s_y y_add <| s_y y_as <| s_nil <| q_round (i + 1) (by omega) (by omega) ⟨rfl, rfl, rfl, rfl, trivial⟩ (List.Sublist.refl _)
  · obtain rfl : i = m := by omega
    refine c_exit <| q_ex <| q_ex <| q_exb <| q_then <| c_seq <| c_reg <| s_y (y_lda (b := b2) (cs := (bs (stepN k i)).toArray) (hl := hsi)) <| s_sta (b := b4) (vs := (bs (stepN k i)).toArray) (cs := (List.replicate 32 (.int .u8 0)).toArray) (h1 := fun v hv => bs_one (by simpa using hv)) (hl := by rw [hsi]; rfl) (hs1 := hsi) ?_
    refine s_y y_as <| s_nil <| q_then <| c_ret <| ?_
    exact ret2 Tryd.results12 (rv_ca (b := b4) (cs := (bs (stepN k i)).toArray) (hl := hsi)) rv_t fun w' hw => ⟨rfl, hw.sub (List.nil_sublist _)⟩
end Go.Proofs.YtjfiggbgpplopaaDoor
