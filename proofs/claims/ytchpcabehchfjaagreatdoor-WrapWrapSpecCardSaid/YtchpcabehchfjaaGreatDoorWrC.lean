/- Wraps: what the laws call: few, number, key, the same wrap. -/
import Derived.Test.YtchpcabehchfjaaGreatDoorWrB
namespace Wr
open Go Eng Sha Cha Gf Cod Go.Proofs.YtchpcabehchfjaaGreatDoor
/-- slices of bytes: address, length, capacity -/
def slc (s : Option Addr × Nat × Nat) : Value := .slice s.1 s.2.1 s.2.2
def sumN (T : List (Option Addr × Nat × Nat)) : Nat := (T.map (·.2.1)).sum
theorem sumN_take (T : List (Option Addr × Nat × Nat)) (k : Nat) (h : k < T.length) : sumN (T.take (k + 1)) = sumN (T.take k) + T[k].2.1 := by
  unfold sumN
  rw [List.take_succ_eq_append_getElem h, List.map_append, List.sum_append]
  simp
theorem sumN_le (T : List (Option Addr × Nat × Nat)) (k : Nat) : sumN (T.take k) ≤ sumN T := by
  conv => rhs; rw [← List.take_append_drop k T]
  unfold sumN
  rw [List.map_append, List.sum_append]
  exact Nat.le_add_right _ _
end Wr
namespace Go.Proofs.YtchpcabehchfjaaGreatDoor
open Go Eng Gf Sha Cha Wr Cod
set_option maxRecDepth 100000
theorem few9_ok (w : World) (A : Option Addr) (C : Nat) (T : List (Option Addr × Nat × Nat)) (hA : Rd w A (T.map slc)) (hs : sumN T < 4000000000000000000) (hn : T.length < 1000000000) :
    Pure Tryz.prog 5 [.slice A T.length C] w (.bool (decide (sumN T ≤ 600))) := by
  refine enter Tryz.func5 Tryz.ntmps5 ?_
  refine c_seq <| c_reg <| s_y y_as <| s_nil <| q_then <| c_seq <| c_reg <| s_y y_as <| s_nil <| q_then <| c_seq <| c_seq <| c_reg <| s_y y_as <| s_nil <| q_then <| c_block <| ?_
  refine c_loop (fun k : Nat => [(0, .slice A T.length C), (3, I (sumN (T.take k) : Nat)), (4, I k)]) (fun _ => []) (fun k => k ≤ T.length) (fun k => T.length - k) 0 (by omega) ⟨rfl, rfl, rfl, trivial⟩ (List.Sublist.refl _) ?_
  intro k hk
  have hle := sumN_le T k
  have hml : T.length ≤ (T.map slc).length := by rw [List.length_map]; exact Nat.le_refl _
  by_cases h8 : k < T.length
  · have hvk : (T.map slc)[k]? = some (.slice T[k].1 T[k].2.1 T[k].2.2) := by rw [List.getElem?_map, List.getElem?_eq_getElem h8]; rfl
    have hst := sumN_take T k h8
    have hle2 := sumN_le T (k + 1)
    refine c_seq <| c_seq <| c_reg <| s_y y_mv <| s_y y_mv <| s_y y_len <| s_kt (y_lss (p := (k : Int)) (q := ((T.length : Nat) : Int))) (by omega) <| s_nil <| q_then <| c_t <| c_skip <| q_then <| c_seq <| c_block <| c_reg <| s_y y_mv <| s_y y_mv <| s_y y_mv <| s_y (y_ixs1 (xs := T.map slc) (hl := hml)) <| s_y (y_ldr (v := .slice T[k].1 T[k].2.1 T[k].2.2) (xs := T.map slc) (i := (k : Int).toNat) hvk) <| s_y y_len <| s_y y_add <| s_y y_as <| s_nil <| q_nb <| q_then <| c_reg <| s_y y_mv <| s_y y_add <| s_y y_as <| s_nil <| ?_
    rw [show ((sumN (T.take k) : Nat) : Int) + ((T[k].2.1 : Nat) : Int) = ((sumN (T.take (k + 1)) : Nat) : Int) by omega]
    exact q_round (k + 1) (by omega) (by omega) ⟨rfl, rfl, rfl, trivial⟩ (List.Sublist.refl _)
  · obtain rfl : k = T.length := by omega
    rw [List.take_length]
    refine c_seq <| c_seq <| c_reg <| s_y y_mv <| s_y y_mv <| s_y y_len <| s_kf (y_lss (p := ((T.length : Nat) : Int)) (q := ((T.length : Nat) : Int))) (by omega) <| s_nil <| q_then <| c_f <| c_exit <| q_ex <| q_ex <| q_exb <| q_then <| c_seq <| c_reg <| s_y y_mv <| s_y (y_leq (p := ((sumN T : Nat) : Int)) (q := 600)) <| s_y y_as <| s_nil <| q_then <| c_ret <| ?_
    rw [show decide (((sumN T : Nat) : Int) ≤ 600) = decide (sumN T ≤ 600) by rw [decide_eq_decide]; omega]
    exact ret1 Tryz.results5 rv_t fun w' hw => ⟨rfl, hw⟩
/-- two slices -/
theorem few2_ok (w : World) (b : Nat) (ha ca : Option Addr) (hc cc n m : Nat) (hr : Rd w (some ⟨b, 0, none⟩) [.slice ha n hc, .slice ca m cc]) (hn : n < 1000000000000000000) (hm : m < 1000000000000000000) (f : Bool) (hf : decide (n + m ≤ 600) = f) :
    Pure Tryz.prog 5 [.slice (some ⟨b, 0, none⟩) 2 2] w (.bool f) := by
  subst hf
  have h := few9_ok w (some ⟨b, 0, none⟩) 2 [(ha, n, hc), (ca, m, cc)] hr (by simp only [sumN, List.map_cons, List.map_nil, List.sum_cons, List.sum_nil]; omega) (by simp)
  have e : sumN [(ha, n, hc), (ca, m, cc)] = n + m := by simp [sumN]
  rw [e] at h
  exact h
theorem few1_ok (w : World) (b : Nat) (ha : Option Addr) (hc n : Nat) (hr : Rd w (some ⟨b, 0, none⟩) [.slice ha n hc]) (hn : n < 1000000000000000000) (f : Bool) (hf : decide (n ≤ 600) = f) :
    Pure Tryz.prog 5 [.slice (some ⟨b, 0, none⟩) 1 1] w (.bool f) := by
  subst hf
  have h := few9_ok w (some ⟨b, 0, none⟩) 1 [(ha, n, hc)] hr (by simp only [sumN, List.map_cons, List.map_nil, List.sum_cons, List.sum_nil]; omega) (by simp)
  have e : sumN [(ha, n, hc)] = n := by simp [sumN]
  rw [e] at h
  exact h
/-- the same wrap -/
theorem same9_ok (w : World) (u : Int) (a b : Option Addr) (c c' : Nat) (p : List UInt8) (hr : Rd w a (bs p)) (hr' : Rd w b (bs p)) (hl : p.length < 1000000000) :
    Pure Tryz.prog 9 [.agg #[I u, .slice a p.length c], .agg #[I u, .slice b p.length c']] w (.bool true) := by
  refine enter Tryz.func9 Tryz.ntmps9 ?_
  refine c_seq <| c_reg <| s_box rfl fun b2 => s_box rfl fun b3 => s_y y_as <| s_nil <| q_then <| c_seq <| c_reg <| s_y y_fa <| s_y (y_ld (b := b2) (v := I u)) <| s_y y_fa <| s_y (y_ld (b := b3) (v := I u)) <| s_kt (y_eql (p := u) (q := u)) rfl <| s_y y_mv <| s_y y_fa <| s_y (y_ld (b := b2) (v := .slice a p.length c)) <| s_y (y_b2s (q := p) (hr := rdW0 hr)) <| s_y y_fa <| s_y (y_ld (b := b3) (v := .slice b p.length c')) <| s_y (y_b2s (q := p) (hr := rdW0 hr')) <| s_kt (y_eqls (a := sb p) (b := sb p)) rfl <| s_y y_pk <| s_y y_as <| s_nil <| q_then <| c_ret <| ?_
  exact ret1 Tryz.results9 rv_t fun w' hw => ⟨rfl, hw.sub (List.nil_sublist _)⟩
theorem large_ok (w : World) (a : Option Addr) (n c : Nat) (hn : n < 1000000000000000000) : Pure Tryz.prog 6 [.slice a n c] w (.bool (decide (65536 < n ∧ n < 70000))) := by
  refine enter Tryz.func6 Tryz.ntmps6 ?_
  by_cases h : 65536 < n
  · refine c_seq <| c_reg <| s_y y_as <| s_nil <| q_then <| c_seq <| c_reg <| s_y y_mv <| s_y y_len <| s_kt (y_gtr (p := (n : Int)) (q := 65536)) (by omega) <| s_y y_mv <| s_y y_mv <| s_y y_len <| s_y (y_lss (p := (n : Int)) (q := 70000)) <| s_y y_pk <| s_y y_as <| s_nil <| q_then <| c_ret <| ?_
    rw [show decide ((n : Int) < 70000) = decide (65536 < n ∧ n < 70000) by rw [decide_eq_decide]; omega]
    exact ret1 Tryz.results6 rv_t fun w' hw => ⟨rfl, hw⟩
  · rw [decide_eq_false (fun h2 => h h2.1)]
    refine c_seq <| c_reg <| s_y y_as <| s_nil <| q_then <| c_seq <| c_reg <| s_y y_mv <| s_y y_len <| s_kf (y_gtr (p := (n : Int)) (q := 65536)) (by omega) <| s_y y_mv <| s_no <| s_no <| s_no <| s_y y_pk <| s_y y_as <| s_nil <| q_then <| c_ret <| ?_
    exact ret1 Tryz.results6 rv_t fun w' hw => ⟨rfl, hw⟩
end Go.Proofs.YtchpcabehchfjaaGreatDoor
