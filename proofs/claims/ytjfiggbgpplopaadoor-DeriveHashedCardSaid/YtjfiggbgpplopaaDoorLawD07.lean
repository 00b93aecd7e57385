/- The law on derived private numbers. -/
import Derived.Test.YtjfiggbgpplopaaDoorLawB07
import Derived.Test.YtjfiggbgpplopaaDoorPowX
namespace Go.Proofs.YtjfiggbgpplopaaDoor
open Go Eng Sha Cod Dv

theorem law_Private_ok (w : World) (k t : List UInt8) (hg : LS w) (hk : k.length = 32) : Pure Tryd.prog 8 [.agg (bs k).toArray, .string (sb t)] w (.bool true) := by
  have hsc := scal_lt scalarS (expand k t [])
  rw [show scal scalarS (expand k t []) = dscal k t from rfl] at hsc
  have hel := expand_length k t []
  refine enter Tryd.func8 Tryd.ntmps8 ?_
  refine c_seq <| c_reg <| s_box rfl fun b2 => s_y y_as <| s_nil <| q_then <| c_seq <| c_seq <| c_reg <| s_pure (fun w' hw => sane_ok w' (hg.st hw)) <| s_y (v := .bool false) (y_not (b := true)) <| s_nil <| q_then <| c_f <| c_skip <| q_then <| c_seq <| c_seq <| c_reg <| s_y y_mv <| s_y y_lens <| ?_
  rw [sb_size]
  refine s_y (y_gtr (p := t.length) (q := 500)) <| s_nil <| q_then <| c_ifd (fun h13 => ?_) (fun h13 => ?_)
  · refine c_seq <| c_reg <| s_y y_as <| s_nil <| q_then <| c_ret <| q_ret <| ?_
    exact ret1 Tryd.results8 rv_t fun w' hw => ⟨rfl, hw.sub (List.nil_sublist _)⟩
  have ht : t.length ≤ 1000000 := by omega
  have hpp := pub_pos (dscal k t)
  have hpl : 4 ^ dscal k t % 4611686018427377339 < 4611686018427377339 := Nat.mod_lt _ (by decide)
  have hpq := pub_Q (dscal k t)
  have hp1 := four_ne (dscal k t) hsc.1 hsc.2
  obtain ⟨r, hr⟩ : ∃ r, 4 ^ dscal k t % 4611686018427377339 = r := ⟨_, rfl⟩
  rw [hr] at hpp hpl hpq hp1
  refine c_skip <| q_then <| c_seq <| c_reg <| s_y (y_lda (cs := (bs k).toArray) (hl := hz32 hk)) <| s_y y_mv <| s_pure (fun w' hw => derive_Expand_ok w' k t none 0 [] (hg.st hw) hk (Rd.nil _ _) (by simp) ht (by simp)) <| s_alloc fun b5 => s_sta (b := b5) (vs := (bs (expand k t [])).toArray) (cs := zk) (h1 := hone32 _) (hl := by rw [hz32 hel]; rfl) (hs1 := hz32 hel) ?_
  have hgs : ∀ w', St w [] w' [.blk b5 (.cells (bs (expand k t [])).toArray 23 (0, 0)), .blk b2 (.cells (bs k).toArray 23 (0, 0))] → Pure Tryd.prog 24 [.string (sb scalarS), .slice (some ⟨b5, 0, none⟩) 32 32] w' (I (dscal k t)) := fun w' hw => by
    have := group_Scalar_ok w' scalarS (some ⟨b5, 0, none⟩) 32 (expand k t []) (hg.st hw) (by decide) (rd_blkB (e := 23) (.head _) w' hw) (by omega)
    rwa [hel] at this
  refine s_nil <| q_then <| c_seq <| c_reg <| s_y (y_lda (b := b2) (cs := (bs k).toArray) (hl := hz32 hk)) <| s_y y_mv <| s_pure (fun w' hw => derive_Scalar_ok w' k t (hg.st hw) hk ht) <| s_y y_as <| s_nil <| q_then <| c_seq <| c_reg <| s_y y_mv <| s_pure (fun w' hw => group_Base_ok w' (dscal k t) hsc.2) <| ?_
  rw [hr]
  refine s_y y_mv <| s_y y_ext <| s_y y_ext <| s_y y_as <| s_y y_as <| s_nil <| q_then <| c_seq <| c_reg <| s_y y_mv <| s_y y_sla <| s_pure hgs <| s_kt (y_eql (p := dscal k t) (q := dscal k t)) (by trivial) <| s_y y_mv <| s_y y_mv <| s_kt (y_eql (p := 0) (q := 0)) (by trivial) <| s_y y_pk <| s_y y_mv <| s_y y_mv <| s_pure (fun w' hw => group_Check_ok w' r hpp hpl hpq) <| s_kt (y_eql (p := 0) (q := 0)) (by trivial) <| s_y y_pk <| s_y y_mv <| s_y y_mv <| s_nt (y_neq (p := r) (q := 1)) (by omega) <| s_y y_pk <| s_y y_as <| s_nil <| q_then <| c_ret <| ?_
  exact ret1 Tryd.results8 rv_t fun w' hw => ⟨rfl, hw.sub (List.nil_sublist _)⟩
end Go.Proofs.YtjfiggbgpplopaaDoor
