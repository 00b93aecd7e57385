/- The laws on derive: five of them. -/
import Derived.Test.YtjfiggbgpplopaaDoorLaw07
namespace Eng
open Go Go.RowKit
theorem y_rem8 {P : Program} {n : Nat} {D : List Deferred} {W : World} {Bo : List Nat} {F : List (Nat × Value)} {l : SH} {d : Option Tmp} {ty : TypeId} {ps : String} {af : Array Edge} {g : Option (Nat × Bool)} {x y : Operand} {ta tb : TypeId}
    {p q : UInt8} (hx : evO F x = some (B p) := by rfl) (hy : evO F y = some (B q) := by rfl) (h1 : 0 < q.toNat := by decide) : Y P n D W Bo ⟨d, .binOp .rem ta x y tb, ty, ps, af, g⟩ F l (B (p % q)) :=
  .mk (by simp) fun a w ha _ => by
    have h5 : q.toNat ≠ 0 := by omega
    simp [execOp, ha.eval hx, ha.eval hy, eqGuard, binOp, Op.intDiv, h5, Int.tmod_eq_emod_of_nonneg]
end Eng
namespace Go.Proofs.YtjfiggbgpplopaaDoor
open Go Eng Sha Cod

theorem hz32 {k : List UInt8} (h : k.length = 32) : (bs k).toArray.size = 32 := by simp [bs_length, h]
theorem hone32 (k : List UInt8) : ∀ u ∈ (bs k).toArray.toList, u.oneCell' = true := fun v hv => bs_one (by simpa using hv)

theorem law_StepSpec_ok (w : World) (k : List UInt8) (n : Int) (hg : LS w) (hk : k.length = 32) (hn : R64 n) : Pure Tryd.prog 3 [.agg (bs k).toArray, I n] w (.bool true) := by
  refine enter Tryd.func3 Tryd.ntmps3 ?_
  refine c_seq <| c_reg <| s_box rfl fun b2 => s_y y_as <| s_nil <| q_then <| c_seq <| c_seq <| c_reg <| s_pure (fun w' hw => sane_ok w' (hg.st hw)) <| s_y (v := .bool false) (y_not (b := true)) <| s_nil <| q_then <| c_f <| c_skip <| q_then <| c_seq <| c_join [(1, I n), (2, .pointer (some ⟨b2, 0, none⟩)), (16, .bool (decide (60 < n ∧ n ≤ 65536)))] [.blk b2 (.cells (bs k).toArray 23 (0, 0))] ?_ ?_
  · refine c_reg <| s_y y_mv <| s_ifd (y_gtr (p := n) (q := 60)) (fun h12 => ?_) (fun h12 => ?_)
    · refine s_y y_mv <| s_y y_mv <| s_y (y_leq (p := n) (q := 65536)) <| s_y y_pk <| s_nil <| q_join ⟨rfl, rfl, by rw [show decide (60 < n ∧ n ≤ 65536) = decide (n ≤ 65536) from decide_eq_decide.2 ⟨fun h => h.2, fun h => ⟨h12, h⟩⟩]; rfl, trivial⟩ (List.Sublist.refl _)
    · refine s_y y_mv <| s_no <| s_no <| s_y y_pk <| s_nil <| q_join ⟨rfl, rfl, by rw [decide_eq_false (show ¬ (60 < n ∧ n ≤ 65536) from fun h => h12 h.1)]; rfl, trivial⟩ (List.Sublist.refl _)
  refine c_ifd (fun h16 => ?_) (fun h16 => ?_)
  · refine c_seq <| c_reg <| s_y y_as <| s_nil <| q_then <| c_ret <| q_ret <| ?_
    exact ret1 Tryd.results3 rv_t fun w' hw => ⟨rfl, hw.sub (List.nil_sublist _)⟩
  refine c_skip <| q_then <| c_seq <| c_reg <| s_y (y_lda (cs := (bs k).toArray) (hl := hz32 hk)) <| s_y y_mv <| s_pure (fun w' hw => Step_ok w' k n (hg.st hw) hk hn) <| s_y y_mv <| s_y y_ext <| s_y y_ext <| s_alloc fun b5 => s_sta (b := b5) (vs := (bs (stepK k n)).toArray) (cs := zk) (h1 := hone32 _) (hl := by rw [hz32 (stepK_length hk n)]; rfl) (hs1 := hz32 (stepK_length hk n)) ?_
  refine s_y y_as <| s_nil <| q_then <| c_seq <| c_reg <| s_y (y_lda (b := b2) (cs := (bs k).toArray) (hl := hz32 hk)) <| s_y y_mv <| s_pure (fun w' hw => refStep_ok w' k n hk hn) <| s_y y_mv <| s_y y_ext <| s_y y_ext <| s_alloc fun b7 => s_sta (b := b7) (vs := (bs (stepK k n)).toArray) (cs := zk) (h1 := hone32 _) (hl := by rw [hz32 (stepK_length hk n)]; rfl) (hs1 := hz32 (stepK_length hk n)) ?_
  refine s_y y_as <| s_nil <| q_then <| c_seq <| c_reg <| s_y (y_lda (b := b5) (cs := (bs (stepK k n)).toArray) (hl := hz32 (stepK_length hk n))) <| s_y (y_lda (b := b7) (cs := (bs (stepK k n)).toArray) (hl := hz32 (stepK_length hk n))) <| s_kt (y_eqla (p := stepK k n) (q := stepK k n) (stepK_length hk n) (stepK_length hk n) hgk) (by trivial) <| s_y y_mv <| s_y y_mv <| s_y y_mv <| s_kt (y_eql (p := stepC n) (q := stepC n)) (by trivial) <| s_y y_pk <| s_y y_as <| s_nil <| q_then <| c_ret <| ?_
  exact ret1 Tryd.results3 rv_t fun w' hw => ⟨rfl, hw.sub (List.nil_sublist _)⟩

theorem law_ScalarSpec_ok (w : World) (k t : List UInt8) (hg : LS w) (hk : k.length = 32) : Pure Tryd.prog 4 [.agg (bs k).toArray, .string (sb t)] w (.bool true) := by
  have hsc := scal_lt scalarS (expand k t [])
  rw [show scal scalarS (expand k t []) = dscal k t from rfl] at hsc
  refine enter Tryd.func4 Tryd.ntmps4 ?_
  refine c_seq <| c_reg <| s_box rfl fun b2 => s_y y_as <| s_nil <| q_then <| c_seq <| c_seq <| c_reg <| s_pure (fun w' hw => sane_ok w' (hg.st hw)) <| s_y (v := .bool false) (y_not (b := true)) <| s_nil <| q_then <| c_f <| c_skip <| q_then <| c_seq <| c_seq <| c_reg <| s_y y_mv <| s_y y_lens <| ?_
  rw [sb_size]
  refine s_y (y_gtr (p := t.length) (q := 500)) <| s_nil <| q_then <| c_ifd (fun h10 => ?_) (fun h10 => ?_)
  · refine c_seq <| c_reg <| s_y y_as <| s_nil <| q_then <| c_ret <| q_ret <| ?_
    exact ret1 Tryd.results4 rv_t fun w' hw => ⟨rfl, hw.sub (List.nil_sublist _)⟩
  · refine c_skip <| q_then <| c_seq <| c_reg <| s_y (y_lda (cs := (bs k).toArray) (hl := hz32 hk)) <| s_y y_mv <| s_pure (fun w' hw => derive_Scalar_ok w' k t (hg.st hw) hk (by omega)) <| s_y y_as <| s_nil <| q_then <| c_seq <| c_reg <| s_y y_mv <| s_y (y_lda (cs := (bs k).toArray) (hl := hz32 hk)) <| s_y y_mv <| s_pure (fun w' hw => ref07_Scalar_ok w' k t hk (by omega)) <| s_kt (y_eql (p := dscal k t) (q := dscal k t)) (by trivial) <| s_y y_mv <| s_y y_mv <| s_kt (y_gtr (p := dscal k t) (q := 0)) (by omega) <| s_y y_pk <| s_y y_mv <| s_y y_mv <| s_kt (y_lss (p := dscal k t) (q := 2305843009213688669)) (by omega) <| s_y y_pk <| s_y y_as <| s_nil <| q_then <| c_ret <| ?_
    exact ret1 Tryd.results4 rv_t fun w' hw => ⟨rfl, hw.sub (List.nil_sublist _)⟩

theorem law_Chain_ok (w : World) (k : List UInt8) (p q : UInt8) (hg : LS w) (hk : k.length = 32) : Pure Tryd.prog 5 [.agg (bs k).toArray, B p, B q] w (.bool true) := by
  obtain ⟨m, hm, hm24⟩ : ∃ m : Nat, (p % 24).toNat = m ∧ m < 24 := ⟨_, rfl, by rw [UInt8.toNat_mod]; exact Nat.mod_lt _ (by decide)⟩
  obtain ⟨n, hn, hn24⟩ : ∃ n : Nat, (q % 24).toNat = n ∧ n < 24 := ⟨_, rfl, by rw [UInt8.toNat_mod]; exact Nat.mod_lt _ (by decide)⟩
  have e1 : ∀ (k : List UInt8) (j : Nat), j < 60 → stepK k j = stepN k j ∧ stepC j = 0 := fun k j hj => by
    unfold stepK stepC
    rw [if_neg (by omega), if_neg (by omega), if_neg (by omega), if_neg (by omega), Int.toNat_natCast]
    exact ⟨rfl, rfl⟩
  have l1 := stepN_length hk m
  have l2 := stepN_length l1 n
  have l3 := stepN_length hk (m + n)
  refine enter Tryd.func5 Tryd.ntmps5 ?_
  refine c_seq <| c_reg <| s_box rfl fun b3 => s_y y_as <| s_nil <| q_then <| c_seq <| c_seq <| c_reg <| s_pure (fun w' hw => sane_ok w' (hg.st hw)) <| s_y (v := .bool false) (y_not (b := true)) <| s_nil <| q_then <| c_f <| c_skip <| q_then <| c_seq <| c_reg <| s_y y_mv <| s_y (y_rem8 (p := p) (q := 24)) <| s_y y_cvb <| s_y y_mv <| s_y (y_rem8 (p := q) (q := 24)) <| s_y y_cvb <| ?_
  rw [hm, hn]
  refine s_y y_as <| s_y y_as <| s_nil <| q_then <| c_seq <| c_reg <| s_y (y_lda (cs := (bs k).toArray) (hl := hz32 hk)) <| s_y y_mv <| s_pure (fun w' hw => Step_ok w' k m (hg.st hw) hk (by unfold R64; omega)) <| ?_
  rw [(e1 k m (by omega)).1, (e1 k m (by omega)).2]
  refine s_y y_mv <| s_y y_ext <| s_y y_ext <| s_alloc fun b9 => s_sta (b := b9) (vs := (bs (stepN k m)).toArray) (cs := zk) (h1 := hone32 _) (hl := by rw [hz32 l1]; rfl) (hs1 := hz32 l1) ?_
  refine s_y y_as <| s_nil <| q_then <| c_seq <| c_reg <| s_y (y_lda (b := b9) (cs := (bs (stepN k m)).toArray) (hl := hz32 l1)) <| s_y y_mv <| s_pure (fun w' hw => Step_ok w' (stepN k m) n (hg.st hw) l1 (by unfold R64; omega)) <| ?_
  rw [(e1 (stepN k m) n (by omega)).1, (e1 (stepN k m) n (by omega)).2]
  refine s_y y_mv <| s_y y_ext <| s_y y_ext <| s_alloc fun b11 => s_sta (b := b11) (vs := (bs (stepN (stepN k m) n)).toArray) (cs := zk) (h1 := hone32 _) (hl := by rw [hz32 l2]; rfl) (hs1 := hz32 l2) ?_
  refine s_y y_as <| s_nil <| q_then <| c_seq <| c_reg <| s_y (y_lda (b := b3) (cs := (bs k).toArray) (hl := hz32 hk)) <| s_y y_mv <| s_y y_mv <| s_y (y_add (p := m) (q := n)) <| ?_
  rw [show (m : Int) + (n : Int) = ((m + n : Nat) : Int) by omega]
  refine s_pure (fun w' hw => Step_ok w' k (m + n : Nat) (hg.st hw) hk (by unfold R64; omega)) <| ?_
  rw [(e1 k (m + n) (by omega)).1, (e1 k (m + n) (by omega)).2]
  refine s_y y_mv <| s_y y_ext <| s_y y_ext <| s_alloc fun b13 => s_sta (b := b13) (vs := (bs (stepN k (m + n))).toArray) (cs := zk) (h1 := hone32 _) (hl := by rw [hz32 l3]; rfl) (hs1 := hz32 l3) ?_
  refine s_y y_as <| s_nil <| q_then <| c_seq <| c_reg <| s_y y_mv <| s_kt (y_eql (p := 0) (q := 0)) (by trivial) <| s_y y_mv <| s_y y_mv <| s_kt (y_eql (p := 0) (q := 0)) (by trivial) <| s_y y_pk <| s_y y_mv <| s_y y_mv <| s_kt (y_eql (p := 0) (q := 0)) (by trivial) <| s_y y_pk <| s_y y_mv <| s_y (y_lda (b := b11) (cs := (bs (stepN (stepN k m) n)).toArray) (hl := hz32 l2)) <| s_y (y_lda (b := b13) (cs := (bs (stepN k (m + n))).toArray) (hl := hz32 l3)) <| s_kt (y_eqla (p := stepN (stepN k m) n) (q := stepN k (m + n)) l2 l3 hgk) (stepN_add k m n) <| s_y y_pk <| s_y y_as <| s_nil <| q_then <| c_ret <| ?_
  exact ret1 Tryd.results5 rv_t fun w' hw => ⟨rfl, hw.sub (List.nil_sublist _)⟩
end Go.Proofs.YtjfiggbgpplopaaDoor
