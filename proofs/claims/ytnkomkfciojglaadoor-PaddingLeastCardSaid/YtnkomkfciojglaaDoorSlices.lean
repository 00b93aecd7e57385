/- Functions of the packages slices and sort. -/
import Derived.Test.YtnkomkfciojglaaDoorTypes
import Derived.Test.YtnkomkfciojglaaDoorByte
import Derived.Test.YtnkomkfciojglaaDoorFind
namespace Go.Proofs.YtnkomkfciojglaaDoor
open Go Eng

theorem slices_Index_int_int_ok (w : World) (a : Option Addr) (q : List Int) (c : Nat) (v : Int) (hr : Rd w a (is q)) (hl : q.length < 9223372036854775807) :
    Pure Tryd.prog 24 [.slice a q.length c, I v] w (I (fidx (fun x => decide (v = x)) q)) := by
  refine enter Tryd.func24 Tryd.ntmps24 ?_
  refine c_seq <| c_reg <| s_y y_as <| s_nil <| q_then <| c_seq <| c_seq <| c_reg <| s_y y_mv <| s_y y_len <| s_y y_mv <| s_nil <| q_then <| c_block <| ?_
  refine c_loop (fun k : Nat => [(0, .slice a q.length c), (1, I v), (7, I q.length), (8, I k)]) (fun _ => []) (fun k => k ≤ q.length ∧ ∀ i, i < k → decide (v = q.getD i 0) = false) (fun k => q.length - k) 0 ⟨by omega, by omega⟩ ⟨rfl, rfl, rfl, rfl, trivial⟩ (List.Sublist.refl _) ?_
  intro k ⟨hk, hno⟩
  refine c_seq <| c_reg <| s_y y_lss <| s_nil <| q_then <| c_seq <| ?_
  refine c_ifd (fun h9 => ?_) (fun h9 => ?_)
  · refine c_skip <| q_then <| c_seq <| c_block <| c_seq <| c_reg <| s_y y_mv <| s_y y_as <| s_nil <| q_then <| c_seq <| c_reg <| s_y y_mv <| s_y y_mv <| s_y y_mv <| s_y y_ixs1 <| s_y y_ldi <| s_y y_eql <| s_nil <| q_then <| ?_
    rw [Int.toNat_natCast]
    refine c_ifd (fun h16 => ?_) (fun h16 => ?_)
    · refine c_seq <| c_reg <| s_y y_mv <| s_y y_as <| s_nil <| q_then <| ?_
      refine c_ret <| q_retb <| q_ret <| q_ret <| q_retb <| q_ret <| ?_
      exact ret1 Tryd.results24 rv_t fun w' hw => ⟨by rw [fidx_hit (d := 0) (by omega) hno (by simpa using h16)], hw⟩
    · refine c_skip <| q_nb <| q_then <| c_reg <| s_y y_add <| s_y y_mv <| s_nil <| q_round (k + 1) ⟨by omega, ?_⟩ (by omega) ⟨rfl, rfl, rfl, rfl, trivial⟩ (List.Sublist.refl _)
      intro i hi
      by_cases e : i = k
      · subst e; simpa using h16
      · exact hno i (by omega)
  · refine c_exit <| q_ex <| q_ex <| q_exb <| q_then <| c_seq <| c_reg <| s_y y_as <| s_nil <| q_then <| ?_
    refine c_ret <| ?_
    exact ret1 Tryd.results24 rv_t fun w' hw => ⟨by rw [fidx_none (d := 0) (fun i hi => hno i (by omega))], hw⟩

theorem slices_Contains_int_int_ok (w : World) (a : Option Addr) (q : List Int) (c : Nat) (v : Int) (hr : Rd w a (is q)) (hl : q.length < 9223372036854775807) :
    Pure Tryd.prog 21 [.slice a q.length c, I v] w (.bool (q.any (fun x => decide (v = x)))) := by
  refine enter Tryd.func21 Tryd.ntmps21 ?_
  refine c_seq <| c_reg <| s_y y_as <| s_nil <| q_then <| c_seq <| c_reg <| s_y y_mv <| s_y y_mv <| s_pure (fun w' hw => slices_Index_int_int_ok w' a q c v (hr.st hw) hl) <| s_y y_geq <| s_y y_as <| s_nil <| q_then <| ?_
  refine c_ret <| ?_
  exact ret1 Tryd.results21 rv_t fun w' hw => ⟨by rw [fidx_any], hw⟩

theorem slices_IndexFunc_byte_byte_ok (w : World) (a : Option Addr) (q : List UInt8) (c : Nat) (kf : FuncId) (fs cs : List Value) [HF Tryd.prog kf] (p : UInt8 → Bool) (hp : ∀ w' x, St w [] w' [] → Pure Tryd.prog kf (fs ++ [B x] ++ cs) w' (.bool (p x))) (hr : Rd w a (bs q)) (hl : q.length < 9223372036854775807) :
    Pure Tryd.prog 25 [.slice a q.length c, .func (.func kf) fs.toArray cs.toArray] w (I (fidx p q)) := by
  refine enter Tryd.func25 Tryd.ntmps25 ?_
  refine c_seq <| c_reg <| s_y y_as <| s_nil <| q_then <| c_seq <| c_seq <| c_reg <| s_y y_mv <| s_y y_len <| s_y y_mv <| s_nil <| q_then <| c_block <| ?_
  refine c_loop (fun k : Nat => [(0, .slice a q.length c), (1, .func (.func kf) fs.toArray cs.toArray), (7, I q.length), (8, I k)]) (fun _ => []) (fun k => k ≤ q.length ∧ ∀ i, i < k → p (q.getD i 0) = false) (fun k => q.length - k) 0 ⟨by omega, by omega⟩ ⟨rfl, rfl, rfl, rfl, trivial⟩ (List.Sublist.refl _) ?_
  intro k ⟨hk, hno⟩
  refine c_seq <| c_reg <| s_y y_lss <| s_nil <| q_then <| c_seq <| ?_
  refine c_ifd (fun h9 => ?_) (fun h9 => ?_)
  · refine c_skip <| q_then <| c_seq <| c_block <| c_seq <| c_reg <| s_y y_mv <| s_y y_as <| s_nil <| q_then <| c_seq <| c_reg <| s_y y_mv <| s_y y_mv <| s_y y_mv <| s_y y_ixs1 <| s_y y_ldb <| s_pure (fun w' hw => hp w' _ hw) <| s_nil <| q_then <| ?_
    rw [Int.toNat_natCast]
    refine c_if rfl (fun h16 => ?_) (fun h16 => ?_)
    · refine c_seq <| c_reg <| s_y y_mv <| s_y y_as <| s_nil <| q_then <| ?_
      refine c_ret <| q_retb <| q_ret <| q_ret <| q_retb <| q_ret <| ?_
      exact ret1 Tryd.results25 rv_t fun w' hw => ⟨by rw [fidx_hit (d := 0) (by omega) hno h16], hw⟩
    · refine c_skip <| q_nb <| q_then <| c_reg <| s_y y_add <| s_y y_mv <| s_nil <| q_round (k + 1) ⟨by omega, ?_⟩ (by omega) ⟨rfl, rfl, rfl, rfl, trivial⟩ (List.Sublist.refl _)
      intro i hi
      by_cases e : i = k
      · subst e; exact h16
      · exact hno i (by omega)
  · refine c_exit <| q_ex <| q_ex <| q_exb <| q_then <| c_seq <| c_reg <| s_y y_as <| s_nil <| q_then <| ?_
    refine c_ret <| ?_
    exact ret1 Tryd.results25 rv_t fun w' hw => ⟨by rw [fidx_none (d := 0) (fun i hi => hno i (by omega))], hw⟩

theorem slices_ContainsFunc_byte_byte_ok (w : World) (a : Option Addr) (q : List UInt8) (c : Nat) (kf : FuncId) (fs cs : List Value) [HF Tryd.prog kf] (p : UInt8 → Bool) (hp : ∀ w' x, St w [] w' [] → Pure Tryd.prog kf (fs ++ [B x] ++ cs) w' (.bool (p x))) (hr : Rd w a (bs q)) (hl : q.length < 9223372036854775807) :
    Pure Tryd.prog 22 [.slice a q.length c, .func (.func kf) fs.toArray cs.toArray] w (.bool (q.any p)) := by
  refine enter Tryd.func22 Tryd.ntmps22 ?_
  refine c_seq <| c_reg <| s_y y_as <| s_nil <| q_then <| c_seq <| c_reg <| s_y y_mv <| s_y y_mv <| s_pure (fun w' hw => slices_IndexFunc_byte_byte_ok w' a q c kf fs cs p (fun w2 x h2 => hp w2 x ((hw.trans h2).sub (by simp))) (hr.st hw) hl) <| s_y y_geq <| s_y y_as <| s_nil <| q_then <| ?_
  refine c_ret <| ?_
  exact ret1 Tryd.results22 rv_t fun w' hw => ⟨by rw [fidx_any], hw⟩

theorem sort_Search_ok (w : World) (nn m : Int) (kf : FuncId) (fs cs : List Value) [HF Tryd.prog kf] (p : Int → Bool) (hp : ∀ w' i, St w [] w' [] → 0 ≤ i → i < nn → Pure Tryd.prog kf (fs ++ [I i] ++ cs) w' (.bool (p i)))
    (h0 : 0 ≤ m) (hm : m ≤ nn) (hn : nn ≤ 4611686018427387903) (hlo : ∀ i, 0 ≤ i → i < m → p i = false) (hhi : ∀ i, m ≤ i → i < nn → p i = true) :
    Pure Tryd.prog 19 [I nn, .func (.func kf) fs.toArray cs.toArray] w (I m) := by
  refine enter Tryd.func19 Tryd.ntmps19 ?_
  refine c_seq <| c_reg <| s_y y_as <| s_nil <| q_then <| c_seq <| c_reg <| s_y y_mv <| s_y y_as <| s_y y_as <| s_nil <| q_then <| c_seq <| c_block <| ?_
  refine c_loop2 (fun i j : Int => [(1, .func (.func kf) fs.toArray cs.toArray), (5, I i), (6, I j)]) (fun _ _ => []) (fun i j => 0 ≤ i ∧ i ≤ m ∧ m ≤ j ∧ j ≤ nn) (fun i j => (j - i).toNat) 0 nn ⟨by omega, h0, hm, by omega⟩ ⟨rfl, rfl, rfl, trivial⟩ (List.Sublist.refl _) ?_
  rintro i j ⟨hi0, him, hmj, hjn⟩
  refine c_seq <| c_seq <| c_reg <| s_y y_mv <| s_y y_mv <| s_y y_lss <| s_nil <| q_then <| ?_
  refine c_ifd (fun h11 => ?_) (fun h11 => ?_)
  · refine c_skip <| q_then <| c_block <| c_seq <| c_reg <| s_y y_mv <| s_y y_mv <| s_y y_add <| s_y y_cvn <| s_y (y_shrc 1) <| s_y y_cvn <| s_y y_as <| s_nil <| q_then <| c_seq <| c_reg <| s_y y_mv <| s_y y_mv <| s_pure (fun w' hw => hp w' ((i + j) / 2 ^ 1) hw (by omega) (by omega)) <| s_y y_not <| s_nil <| q_then <| ?_
    have hh : ∀ x, x = (i + j) / 2 ^ 1 → (p x = false → x < m) ∧ (p x = true → m ≤ x) ∧ i ≤ x ∧ x < j := by
      intro x hx
      have e : x = (i + j) / 2 := by simpa using hx
      refine ⟨fun h => ?_, fun h => ?_, by omega, by omega⟩
      · rcases Int.lt_or_le x m with h1 | h1
        · exact h1
        · rw [hhi x h1 (by omega)] at h; cases h
      · rcases Int.lt_or_le x m with h1 | h1
        · rw [hlo x (by omega) h1] at h; cases h
        · exact h1
    obtain ⟨e1, e2, e3, e4⟩ := hh _ rfl
    refine c_if rfl (fun h21 => ?_) (fun h21 => ?_)
    · have h22 := e1 (by simpa using h21)
      refine c_reg <| s_y y_mv <| s_y y_add <| s_y y_as <| s_nil <| q_nb <| q_round2 ((i + j) / 2 ^ 1 + 1) j ⟨by omega, by omega, hmj, hjn⟩ (by omega) ⟨rfl, rfl, rfl, trivial⟩ (List.Sublist.refl _)
    · have h22 := e2 (by simpa using h21)
      refine c_reg <| s_y y_mv <| s_y y_as <| s_nil <| q_nb <| q_round2 i ((i + j) / 2 ^ 1) ⟨hi0, him, h22, by omega⟩ (by omega) ⟨rfl, rfl, rfl, trivial⟩ (List.Sublist.refl _)
  · have e : i = m := by omega
    subst e
    refine c_exit <| q_ex <| q_ex <| q_exb <| q_then <| c_seq <| c_reg <| s_y y_mv <| s_y y_as <| s_nil <| q_then <| ?_
    refine c_ret <| ?_
    exact ret1 Tryd.results19 rv_t fun w' hw => ⟨rfl, hw⟩

end Go.Proofs.YtnkomkfciojglaaDoor
