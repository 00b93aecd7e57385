/- Wraps: what the laws call: few, number, key, the same wrap. -/
import Derived.Test.YtchpcabehchfjaaDoorWrB
namespace Wr
open Go Eng Sha Cha Gf Cod Go.Proofs.YtchpcabehchfjaaDoor
/-- slices of bytes: address, length, capacity -/
def slc (s : Option Addr × Nat × Nat) : Value := .slice s.1 s.2.1 s.2.2
def sumN (T : List (Option Addr × Nat × Nat)) : Nat := (T.map (·.2.1)).sum
theorem sumN_take (T : List (Option Addr × Nat × Nat)) (k : Nat) (h : k < T.length) : sumN (T.take (k + 1)) = sumN (T.take k) + T[k].2.1 := by
  unfold sumN
  rw [List.take_succ_eq_append_getElem h, List.map_append, List.sum_append]
  simp
theorem sumN_le (T : List (Option Addr × Nat × Nat)) (k : Nat) : sumN (T.take k) ≤ sumN T := by
  conv => rhs; rw [← List.take_append_drop k T]
  unfold sumN
  rw [List.map_append, List.sum_append]
  exact Nat.le_add_right _ _
end Wr
namespace Go.Proofs.YtchpcabehchfjaaDoor
open Go Eng Gf Sha Cha Wr Cod
set_option maxRecDepth 100000
theorem few9_ok (w : World) (A : Option Addr) (C : Nat) (T : List (Option Addr × Nat × Nat)) (hA : Rd w A (T.map slc)) (hs : sumN T < 4000000000000000000) (hn : T.length < 1000000000) :
    Pure Tryd.prog 10 [.slice A T.length C] w (.bool (decide (sumN T ≤ 600))) := by
  refine enter Tryd.func10 Tryd.ntmps10 ?_
  refine c_seq <| c_reg <| s_y y_as <| s_nil <| q_then <| c_seq <| c_reg <| s_y y_as <| s_nil <| q_then <| c_seq <| c_seq <| c_reg <| s_y y_as <| s_nil <| q_then <| c_block <| ?_
  refine c_loop (fun k : Nat => [(0, .slice A T.length C), (3, I (sumN (T.take k) : Nat)), (4, I k)]) (fun _ => []) (fun k => k ≤ T.length) (fun k => T.length - k) 0 (by omega) ⟨rfl, rfl, rfl, trivial⟩ (List.Sublist.refl _) ?_
  intro k hk
  have hle := sumN_le T k
  have hml : T.length ≤ (T.map slc).length := by rw [List.length_map]; exact Nat.le_refl _
  by_cases h8 : k < T.length
  · have hvk : (T.map slc)[k]? = some (.slice T[k].1 T[k].2.1 T[k].2.2) := by rw [List.getElem?_map, List.getElem?_eq_getElem h8]; rfl
    have hst := sumN_take T k h8
    have hle2 := sumN_le T (k + 1)
    refine c_seq <| c_seq <| c_reg <| s_y y_mv <| s_y y_mv <| s_y y_len <| s_kt (y_lss (p := (k : Int)) (q := ((T.length : Nat) : Int))) (by omega) <| s_nil <| q_then <| c_t <| c_skip <| q_then <| c_seq <| c_block <| c_reg <| s_y y_mv <| s_y y_mv <| s_y y_mv <| s_y (y_ixs1 (xs := T.map slc) (hl := hml)) <| s_y (y_ldr (v := .slice T[k].1 T[k].2.1 T[k].2.2) (xs := T.map slc) (i := (k : Int).toNat) hvk) <| s_y y_len <| s_y y_add <| s_y y_as <| s_nil <| q_nb <| q_then <| c_reg <| s_y y_mv <| s_y y_add <| s_y y_as <| s_nil <| ?_
    rw [show ((sumN (T.take k) : Nat) : Int) + ((T[k].2.1 : Nat) : Int) = ((sumN (T.take (k + 1)) : Nat) : Int) by omega]
    exact q_round (k + 1) (by omega) (by omega) ⟨rfl, rfl, rfl, trivial⟩ (List.Sublist.refl _)
  · obtain rfl : k = T.length := by omega
    rw [List.take_length]
    refine c_seq <| c_seq <| c_reg <| s_y y_mv <| s_y y_mv <| s_y y_len <| s_kf (y_lss (p := ((T.length : Nat) : Int)) (q := ((T.length : Nat) : Int))) (by omega) <| s_nil <| q_then <| c_f <| c_exit <| q_ex <| q_ex <| q_exb <| q_then <| c_seq <| c_reg <| s_y y_mv <| s_y (y_leq (p := ((sumN T : Nat) : Int)) (q := 600)) <| s_y y_as <| s_nil <| q_then <| c_ret <| ?_
    rw [show decide (((sumN T : Nat) : Int) ≤ 600) = decide (sumN T ≤ 600) by rw [decide_eq_decide]; omega]
    exact ret1 Tryd.results10 rv_t fun w' hw => ⟨rfl, hw⟩
/-- two slices -/
theorem few2_ok (w : World) (b : Nat) (ha ca : Option Addr) (hc cc n m : Nat) (hr : Rd w (some ⟨b, 0, none⟩) [.slice ha n hc, .slice ca m cc]) (hn : n < 1000000000000000000) (hm : m < 1000000000000000000) (f : Bool) (hf : decide (n + m ≤ 600) = f) :
    Pure Tryd.prog 10 [.slice (some ⟨b, 0, none⟩) 2 2] w (.bool f) := by
  subst hf
  have h := few9_ok w (some ⟨b, 0, none⟩) 2 [(ha, n, hc), (ca, m, cc)] hr (by simp only [sumN, List.map_cons, List.map_nil, List.sum_cons, List.sum_nil]; omega) (by simp)
  have e : sumN [(ha, n, hc), (ca, m, cc)] = n + m := by simp [sumN]
  rw [e] at h
  exact h
theorem few1_ok (w : World) (b : Nat) (ha : Option Addr) (hc n : Nat) (hr : Rd w (some ⟨b, 0, none⟩) [.slice ha n hc]) (hn : n < 1000000000000000000) (f : Bool) (hf : decide (n ≤ 600) = f) :
    Pure Tryd.prog 10 [.slice (some ⟨b, 0, none⟩) 1 1] w (.bool f) := by
  subst hf
  have h := few9_ok w (some ⟨b, 0, none⟩) 1 [(ha, n, hc)] hr (by simp only [sumN, List.map_cons, List.map_nil, List.sum_cons, List.sum_nil]; omega) (by simp)
  have e : sumN [(ha, n, hc)] = n := by simp [sumN]
  rw [e] at h
  exact h
theorem l_number_ok (w : World) (n : Nat) (hn : n < 9223372036854775808) : Gives Tryd.prog 22 [I n] w [] (fun y : Option Addr × Nat => .slice y.1 8 y.2) (fun y => [.row y.1 y.2 5 1 8 (bs (be n 8))]) (fun _ => True) := by
  have hbl := be_length n 8
  refine enter Tryd.func22 Tryd.ntmps22 ?_
  refine c_seq <| c_reg <| s_y y_as <| s_nil <| q_then <| c_seq <| c_seq <| c_reg <| s_y y_mv <| s_nil <| q_then <| c_nilrow 5 1 <| c_block <| ?_
  refine c_loop3 (fun (i : Nat) (a : Option Addr) (c : Nat) => [(0, I n), (2, .slice a i c), (4, I i)]) (fun i a c => [.row a c 5 1 i (bs ((be n 8).take i))]) (fun i _ _ => i ≤ 8) (fun i _ _ => 8 - i) 0 none 0 (by omega) ⟨rfl, rfl, rfl, trivial⟩ (.refl _) ?_
  intro i a c hi
  by_cases h8 : i < 8
  · refine c_seq <| c_reg <| s_kt (y_lss (p := ((i : Nat) : Int)) (q := 8)) (by omega) <| s_nil <| q_then <| c_seq <| c_t <| c_skip <| q_then <| c_seq <| c_block <| c_seq <| c_reg <| s_y y_mv <| s_y y_as <| s_nil <| q_then <| c_reg <| s_y y_mv <| s_y y_mv <| s_y (y_cvn (k := .u64) (p := ((n : Nat) : Int)) (hw := wrap_u64 (by omega) (by omega))) <| s_y y_mv <| s_y (y_mul (p := 8) (q := ((i : Nat) : Int))) <| s_y (y_sub (p := 56) (q := 8 * ((i : Nat) : Int))) <| ?_
    rw [show (56 : Int) - 8 * ((i : Nat) : Int) = ((56 - 8 * i : Nat) : Int) by omega]
    refine s_y (y_shr (p := n) (q := ((56 - 8 * i : Nat) : Int))) <| ?_
    rw [Int.toNat_natCast]
    refine s_y y_cv8 <| ?_
    rw [cvn8, show UInt8.ofNat (n / 2 ^ (56 - 8 * i)) = (be n 8).getD i 0 by rw [be_get n 8 i h8, show 8 * (8 - 1 - i) = 56 - 8 * i by omega]]
    refine s_bslr (cs := bs [(be n 8).getD i 0]) fun b14 => s_app (m := 1) (srcB (q := [(be n 8).getD i 0]) (rdR (.head _)) rfl) (h1 := fun v hv => bs_one hv) (hm := .tail _ (.head _)) (hrep := fun _ _ => .tail _ (.head _)) fun a15 c15 h15 => ?_
    rw [← bs_append, ← Eng.take_snoc (be n 8) i 0 (by omega)]
    refine s_y y_as <| s_nil <| q_nb <| q_then <| c_reg <| s_y (y_add (p := ((i : Nat) : Int)) (q := 1)) <| s_y y_mv <| s_nil <| ?_
    rw [show ((i : Nat) : Int) + 1 = ((i + 1 : Nat) : Int) by omega]
    exact q_round3 (x := i) (y := a) (z := c) (i + 1) a15 c15 (by omega) (by omega) ⟨rfl, rfl, rfl, trivial⟩ (.cons _ (.refl _))
  · obtain rfl : i = 8 := by omega
    rw [List.take_of_length_le (by omega)]
    refine c_seq <| c_reg <| s_kf (y_lss (p := ((8 : Nat) : Int)) (q := 8)) (by omega) <| s_nil <| q_then <| c_seq <| c_f <| c_exit <| q_ex <| q_ex <| q_exb <| q_then <| c_seq <| c_reg <| s_y y_mv <| s_y y_as <| s_nil <| q_then <| c_ret <| ?_
    exact ret1 Tryd.results22 rv_t fun w' hw => ⟨(a, c), trivial, rfl, hw⟩
theorem l_key_ok (w : World) (p u v : Nat) (hg : LS w) (hp : p < 9223372036854775808) (hu : u < 9223372036854775808) (hv : v < 9223372036854775808) :
    Pure Tryd.prog 21 [I p, I u, I v] w (.agg (bs (wkey p u v)).toArray) := by
  have hrl := raw_length p u v
  refine enter Tryd.func21 Tryd.ntmps21 ?_
  refine c_seq <| c_reg <| s_alloc fun b6 => s_nil <| q_then <| c_seq <| c_reg <| s_y y_mv <| s_gives (fun w' hw => l_number_ok w' p hp) (fun y _ => ?_)
  obtain ⟨a9, c9⟩ := y
  refine s_y y_mv <| s_gives (fun w' hw => l_number_ok w' u hu) (fun y _ => ?_)
  obtain ⟨a11, c11⟩ := y
  refine s_app (m := 8) (srcB (q := be u 8) (rdR (.head _)) (be_length _ _)) (h1 := fun v hv => bs_one hv) (hm := .tail _ (.head _)) (hrep := fun _ _ => .tail _ (.head _)) fun a12 c12 h12 => ?_
  rw [← bs_append]
  refine s_y y_mv <| s_gives (fun w' hw => l_number_ok w' v hv) (fun y _ => ?_)
  obtain ⟨a14, c14⟩ := y
  refine s_app (m := 8) (srcB (q := be v 8) (rdR (.head _)) (be_length _ _)) (h1 := fun v hv => bs_one hv) (hm := .tail _ (.tail _ (.head _))) (hrep := fun _ _ => .tail _ (.tail _ (.head _))) fun a15 c15 h15 => ?_
  rw [← bs_append]
  refine s_pure (fun w' hw => (by
    have h9 := digest_Tagged_ok w' lbWrap a15 c15 (raw p u v) (hg.st hw) (by decide) (rdR (.tail _ (.tail _ (.head _))) w' hw) (by omega)
    rw [hrl] at h9
    exact h9)) <| s_sta (b := b6) (vs := (bs (wkey p u v)).toArray) (cs := (bs (List.replicate 32 0)).toArray) (h1 := fun v hv => bs_one (by simpa using hv)) (hl := ((hz32 (wkey_length _ _ _))).trans ((hz32 List.length_replicate)).symm) (hs1 := (hz32 (wkey_length _ _ _))) ?_
  refine s_nil <| q_then <| c_ret <| ?_
  exact ret1 Tryd.results21 (rv_ca (b := b6) (hl := hz32 (wkey_length _ _ _))) fun w' hw => ⟨rfl, hw.sub (List.nil_sublist _)⟩
end Go.Proofs.YtchpcabehchfjaaDoor
