/- Shares looked through by a function. -/
import Derived.Test.YtnmaegbobfngeaaDoorShJ
namespace Gf
open Go Eng
theorem shc_at (l : List (Int × Int)) (i : Nat) (h : i < l.length) (j : Nat) (v : Value) (hv : [I (l.getD i (0, 0)).1, I (l.getD i (0, 0)).2][j]? = some v) : (shc l)[i * 2 + j]? = some v := by
  have e : l = l.take i ++ l.getD i (0, 0) :: l.drop (i + 1) := by
    rw [List.getD_eq_getElem?_getD, List.getElem?_eq_getElem h]
    simp
  have hl : (l.take i).length = i := by rw [List.length_take]; omega
  have := shc_mid (l.take i) (l.getD i (0, 0)) (l.drop (i + 1)) j v hv
  rw [hl, ← e] at this
  exact this
end Gf
namespace Go.Proofs.YtnmaegbobfngeaaDoor
open Go Eng Gf
set_option maxRecDepth 100000
theorem IndexFunc_fit_ok (w : World) (a : Option Addr) (c b7 : Nat) (q : List (Int × Int)) (p : Int × Int → Bool) (hr : Rd w a (shc q)) (hl : q.length ≤ 1000000)
    (hf : ∀ (i : Nat) (_ : i < q.length) (w' : World), St w [] w' [] → Pure Tryd.prog 30 [.agg #[I (q.getD i (0, 0)).1, I (q.getD i (0, 0)).2], .pointer (some ⟨b7, 0, none⟩)] w' (.bool (p (q.getD i (0, 0))))) :
    Pure Tryd.prog 48 [.slice a q.length c, .func (.func 30) #[] #[.pointer (some ⟨b7, 0, none⟩)]] w (I (fidx p q)) := by
  have hcl : q.length ≤ (shc q).length := by rw [shc_length]; omega
  refine enter Tryd.func48 Tryd.ntmps48 ?_
  refine c_seq <| c_reg <| s_y y_as <| s_nil <| q_then <| c_seq <| c_seq <| c_reg <| s_y y_mv <| s_y y_len <| s_y y_mv <| s_nil <| q_then <| c_block <| ?_
  refine c_loop (fun i : Nat => [(0, .slice a q.length c), (1, .func (.func 30) #[] #[.pointer (some ⟨b7, 0, none⟩)]), (7, I q.length), (8, I i)]) (fun _ => []) (fun i => i ≤ q.length ∧ ∀ j, j < i → p (q.getD j (0, 0)) = false) (fun i => q.length - i) 0 ⟨by omega, fun _ h => by omega⟩ ⟨rfl, rfl, rfl, rfl, trivial⟩ (List.Sublist.refl _) ?_
  intro i ⟨hi, hj⟩
  refine c_seq <| c_reg <| s_y (y_lss (p := i) (q := q.length)) <| s_nil <| q_then <| c_seq <| c_ifd (fun h9 => ?_) (fun h9 => ?_)
  · have hiq : i < q.length := by omega
    refine c_skip <| q_then <| c_seq <| c_block <| c_seq <| c_reg <| s_y y_mv <| s_y y_as <| s_nil <| q_then <| c_seq <| c_reg <| s_y y_mv <| s_y y_mv <| s_y y_mv <| s_y (y_ixs (xs := shc q) (i := ((i : Nat) : Int)) (hl := hcl)) <| s_y (y_ldra (i := i * 2) (cs := [I (q.getD i (0, 0)).1, I (q.getD i (0, 0)).2]) (rdW0 hr) rfl (shc_at q i hiq)) <| s_pure (fun w' hw => hf i hiq w' hw) <| s_nil <| q_then <| c_if rfl (fun h16 => ?_) (fun h16 => ?_)
    · rw [fidx_hit (d := (0, 0)) hiq hj h16]
      refine c_seq <| c_reg <| s_y y_mv <| s_y y_as <| s_nil <| q_then <| c_ret <| q_retb <| q_ret <| q_ret <| q_retb <| q_ret <| ?_
      exact ret1 Tryd.results48 rv_t fun w' hw => ⟨rfl, hw⟩
    · refine c_skip <| q_nb <| q_then <| c_reg <| s_y (y_add (p := i) (q := 1)) <| s_y y_mv <| s_nil <| q_round (i + 1) ⟨by omega, fun j h => (Nat.lt_or_ge j i).elim (hj j) fun h8 => by obtain rfl : j = i := (by omega); exact h16⟩ (by omega) ⟨rfl, rfl, rfl, rfl, trivial⟩ (List.Sublist.refl _)
  · rw [fidx_none (d := (0, 0)) (p := p) (l := q) fun j h => hj j (by omega)]
    refine c_exit <| q_ex <| q_ex <| q_exb <| q_then <| c_seq <| c_reg <| s_y y_as <| s_nil <| q_then <| c_ret <| ?_
    exact ret1 Tryd.results48 rv_t fun w' hw => ⟨rfl, hw⟩
theorem ContainsFunc_fit_ok (w : World) (a : Option Addr) (c b7 : Nat) (q : List (Int × Int)) (p : Int × Int → Bool) (hr : Rd w a (shc q)) (hl : q.length ≤ 1000000)
    (hf : ∀ (i : Nat) (_ : i < q.length) (w' : World), St w [] w' [] → Pure Tryd.prog 30 [.agg #[I (q.getD i (0, 0)).1, I (q.getD i (0, 0)).2], .pointer (some ⟨b7, 0, none⟩)] w' (.bool (p (q.getD i (0, 0))))) :
    Pure Tryd.prog 29 [.slice a q.length c, .func (.func 30) #[] #[.pointer (some ⟨b7, 0, none⟩)]] w (.bool (q.any p)) := by
  rw [← fidx_any]
  refine enter Tryd.func29 Tryd.ntmps29 ?_
  refine c_seq <| c_reg <| s_y y_as <| s_nil <| q_then <| c_seq <| c_reg <| s_y y_mv <| s_y y_mv <| s_pure (fun w' hw => IndexFunc_fit_ok w' a c b7 q p (hr.st hw) hl (fun i hi w2 h2 => hf i hi w2 (by have := hw.trans h2; simpa using this))) <| s_y (y_geq (p := fidx p q) (q := 0)) <| s_y y_as <| s_nil <| q_then <| c_ret <| ?_
  exact ret1 Tryd.results29 rv_t fun w' hw => ⟨rfl, hw⟩
end Go.Proofs.YtnmaegbobfngeaaDoor
