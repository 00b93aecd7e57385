/- The law on derived private numbers. -/
import Derived.Test.YtjfiggbgpplopaaDoorLawB07
import Derived.Test.YtjfiggbgpplopaaDoorPow
import Derived.Test.YtjfiggbgpplopaaDoorNum
namespace Go.Proofs.YtjfiggbgpplopaaDoor
open Go Eng Sha Cod Dv

theorem four_Q : 4 ^ Num.Q % 4611686018427377339 = 1 := by
  have h := Num.four.1
  rw [show Num.P = 4611686018427377339 from rfl, show 1 % 4611686018427377339 = 1 from rfl] at h
  exact h
theorem four_ne (i : Nat) (h0 : 0 < i) (h1 : i < 2305843009213688669) : 4 ^ i % 4611686018427377339 ≠ 1 := fun h => by
  have h2 := Num.four.2 i h0 h1
  rw [show Num.P = 4611686018427377339 from rfl, show 1 % 4611686018427377339 = 1 from rfl] at h2
  exact h2 h
theorem pub_Q (s : Nat) : (4 ^ s % 4611686018427377339) ^ Num.Q % 4611686018427377339 = 1 := by
  rw [← Nat.pow_mod, ← Nat.pow_mul, Nat.mul_comm]
  exact (Num.pow_mul_one (g := 4) (o := Num.Q) (n := 4611686018427377339) four_Q s)
theorem pub_pos (s : Nat) : 0 < 4 ^ s % 4611686018427377339 := by
  rcases Nat.eq_zero_or_pos (4 ^ s % 4611686018427377339) with h | h
  · have h1 := pub_Q s
    have hq0 : 0 < Num.Q := (show 0 < 2305843009213688669 by decide)
    rw [h, Nat.zero_pow hq0] at h1
    exact absurd h1 (by decide)
  · exact h

theorem group_Check_ok (w : World) (x : Nat) (h0 : 0 < x) (hx : x < 4611686018427377339) (hp : x ^ Num.Q % 4611686018427377339 = 1) : Pure Tryd.prog 25 [I x] w (I 0) := by
  have hpw : ∀ w' : World, Pure Tryd.prog 42 [U x, U 2305843009213688669] w' (U 1) := fun w' => by
    have h := group_power_ok w' x Num.Q hx (show 2305843009213688669 < 18446744073709551616 by decide)
    rw [hp] at h
    exact h
  refine enter Tryd.func25 Tryd.ntmps25 ?_
  refine c_seq <| c_reg <| s_y y_as <| s_nil <| q_then <| c_seq <| c_seq <| c_reg <| s_y y_mv <| s_kf (y_lss (p := x) (q := 1)) (by omega) <| s_y y_mv <| s_y y_mv <| s_kf (y_geq (p := x) (q := 4611686018427377339)) (by omega) <| s_y y_pk <| s_y y_mv <| s_y y_mv <| s_y (y_cvn (k := .u64) (p := (x : Int))) <| s_pure (fun w' _ => hpw w') <| ?_
  refine s_nf (y_neq (p := 1) (q := 1)) (by omega) <| s_y y_pk <| s_nil <| q_then <| c_f <| c_skip <| q_then <| c_seq <| c_reg <| s_y y_as <| s_nil <| q_then <| c_ret <| ?_
  exact ret1 Tryd.results25 rv_t fun w' hw => ⟨rfl, hw⟩

theorem group_Base_ok (w : World) (s : Nat) (hs : s < 2305843009213688669) : Pure Tryd.prog 23 [I s] w (.tuple #[I (4 ^ s % 4611686018427377339 : Nat), I 0]) := by
  have hexp : ∀ w : World, Pure Tryd.prog 40 [I 4, I s] w (.tuple #[I (4 ^ s % 4611686018427377339 : Nat), I 0]) := fun w => by
    obtain ⟨r, hr⟩ : ∃ r, 4 ^ s % 4611686018427377339 = r := ⟨_, rfl⟩
    have hrl : r < 4611686018427377339 := by rw [← hr]; exact Nat.mod_lt _ (by decide)
    refine enter Tryd.func40 Tryd.ntmps40 ?_
    refine c_seq <| c_reg <| s_y y_as <| s_y y_as <| s_nil <| q_then <| c_seq <| c_seq <| c_reg <| s_y y_mv <| s_pure (fun w' hw => group_Check_ok w' 4 (by decide) (by decide) four_Q) <| s_y y_as <| s_nil <| q_then <| c_seq <| c_reg <| s_y y_mv <| s_nf (y_neq (p := 0) (q := 0)) (by omega) <| s_nil <| q_then <| c_f <| c_skip <| q_then <| c_seq <| c_seq <| c_reg <| s_y y_mv <| s_kf (y_lss (p := s) (q := 0)) (by omega) <| s_y y_mv <| s_y y_mv <| s_kf (y_geq (p := s) (q := 2305843009213688669)) (by omega) <| s_y y_pk <| s_nil <| q_then <| c_f <| c_skip <| q_then <| c_seq <| c_reg <| s_y y_mv <| s_y (y_cvn (k := .u64) (p := 4)) <| s_y y_mv <| s_y (y_cvn (k := .u64) (p := (s : Int))) <| s_pure (fun w' hw => group_power_ok w' 4 s (by decide) (by omega)) <| ?_
    rw [hr]
    refine s_y (y_cvn (k := .i64) (p := (r : Int))) <| s_y y_as <| s_y y_as <| s_nil <| q_then <| c_ret <| ?_
    exact ret2 Tryd.results40 rv_t rv_t fun w' hw => ⟨rfl, hw⟩
  refine enter Tryd.func23 Tryd.ntmps23 ?_
  refine c_seq <| c_reg <| s_y y_as <| s_y y_as <| s_nil <| q_then <| c_seq <| c_reg <| s_y y_mv <| s_pure (fun w' hw => hexp w') <| s_y y_ext <| s_y y_ext <| s_y y_as <| s_y y_as <| s_nil <| q_then <| c_ret <| ?_
  exact ret2 Tryd.results23 rv_t rv_t fun w' hw => ⟨rfl, hw⟩

theorem law_Private_ok (w : World) (k t : List UInt8) (hg : LS w) (hk : k.length = 32) : Pure Tryd.prog 8 [.agg (bs k).toArray, .string (sb t)] w (.bool true) := by
  have hsc := scal_lt scalarS (expand k t [])
  rw [show scal scalarS (expand k t []) = dscal k t from rfl] at hsc
  have hel := expand_length k t []
  refine enter Tryd.func8 Tryd.ntmps8 ?_
  refine c_seq <| c_reg <| s_box rfl fun b2 => s_y y_as <| s_nil <| q_then <| c_seq <| c_seq <| c_reg <| s_pure (fun w' hw => sane_ok w' (hg.st hw)) <| s_y (v := .bool false) (y_not (b := true)) <| s_nil <| q_then <| c_f <| c_skip <| q_then <| c_seq <| c_seq <| c_reg <| s_y y_mv <| s_y y_lens <| ?_
  rw [sb_size]
  refine s_y (y_gtr (p := t.length) (q := 500)) <| s_nil <| q_then <| c_ifd (fun h13 => ?_) (fun h13 => ?_)
  · refine c_seq <| c_reg <| s_y y_as <| s_nil <| q_then <| c_ret <| q_ret <| ?_
    exact ret1 Tryd.results8 rv_t fun w' hw => ⟨rfl, hw.sub (List.nil_sublist _)⟩
  have ht : t.length ≤ 1000000 := by omega
  have hpp := pub_pos (dscal k t)
  have hpl : 4 ^ dscal k t % 4611686018427377339 < 4611686018427377339 := Nat.mod_lt _ (by decide)
  have hpq := pub_Q (dscal k t)
  have hp1 := four_ne (dscal k t) hsc.1 hsc.2
  obtain ⟨r, hr⟩ : ∃ r, 4 ^ dscal k t % 4611686018427377339 = r := ⟨_, rfl⟩
  rw [hr] at hpp hpl hpq hp1
  refine c_skip <| q_then <| c_seq <| c_reg <| s_y (y_lda (cs := (bs k).toArray) (hl := hz32 hk)) <| s_y y_mv <| s_pure (fun w' hw => derive_Expand_ok w' k t none 0 [] (hg.st hw) hk (Rd.nil _ _) (by simp) ht (by simp)) <| s_alloc fun b5 => s_sta (b := b5) (vs := (bs (expand k t [])).toArray) (cs := zk) (h1 := hone32 _) (hl := by rw [hz32 hel]; rfl) (hs1 := hz32 hel) ?_
  have hgs : ∀ w', St w [] w' [.blk b5 (.cells (bs (expand k t [])).toArray 23 (0, 0)), .blk b2 (.cells (bs k).toArray 23 (0, 0))] → Pure Tryd.prog 24 [.string (sb scalarS), .slice (some ⟨b5, 0, none⟩) 32 32] w' (I (dscal k t)) := fun w' hw => by
    have := group_Scalar_ok w' scalarS (some ⟨b5, 0, none⟩) 32 (expand k t []) (hg.st hw) (by decide) (rd_blkB (e := 23) (.head _) w' hw) (by omega)
    rwa [hel] at this
  refine s_nil <| q_then <| c_seq <| c_reg <| s_y (y_lda (b := b2) (cs := (bs k).toArray) (hl := hz32 hk)) <| s_y y_mv <| s_pure (fun w' hw => derive_Scalar_ok w' k t (hg.st hw) hk ht) <| s_y y_as <| s_nil <| q_then <| c_seq <| c_reg <| s_y y_mv <| s_pure (fun w' hw => group_Base_ok w' (dscal k t) hsc.2) <| ?_
  rw [hr]
  refine s_y y_mv <| s_y y_ext <| s_y y_ext <| s_y y_as <| s_y y_as <| s_nil <| q_then <| c_seq <| c_reg <| s_y y_mv <| s_y y_sla <| s_pure hgs <| s_kt (y_eql (p := dscal k t) (q := dscal k t)) (by trivial) <| s_y y_mv <| s_y y_mv <| s_kt (y_eql (p := 0) (q := 0)) (by trivial) <| s_y y_pk <| s_y y_mv <| s_y y_mv <| s_pure (fun w' hw => group_Check_ok w' r hpp hpl hpq) <| s_kt (y_eql (p := 0) (q := 0)) (by trivial) <| s_y y_pk <| s_y y_mv <| s_y y_mv <| s_nt (y_neq (p := r) (q := 1)) (by omega) <| s_y y_pk <| s_y y_as <| s_nil <| q_then <| c_ret <| ?_
  exact ret1 Tryd.results8 rv_t fun w' hw => ⟨rfl, hw.sub (List.nil_sublist _)⟩
end Go.Proofs.YtjfiggbgpplopaaDoor
