/- Fits, in both programs, of any shares; lists of ints compared. -/
import Derived.Test.YtnmaegbobfngeaaDoorShP
import Derived.Test.YtnmaegbobfngeaaDoorShQ
namespace Gf
open Go Eng
noncomputable def ftB (l : List (Int × Int)) (n : Int) : Bool := if chS l = 0 ∧ 1 ≤ n ∧ n ≤ 64 then ftV (toN l) n.toNat else false
def ftE (l : List (Int × Int)) (n : Int) : Int := if chS l = 0 then (if 1 ≤ n ∧ n ≤ 64 then 0 else 1) else chS l
theorem Vld.ftB {l : List (Nat × Nat)} (hv : Vld l) {n : Nat} (h1 : 1 ≤ n) (h2 : n ≤ 64) : ftB (sN l) n = ftV l n := by
  rw [Gf.ftB, if_pos ⟨hv.ch, by omega, by omega⟩, toN_sN, Int.toNat_natCast]
theorem Vld.ftE {l : List (Nat × Nat)} (hv : Vld l) {n : Nat} (h1 : 1 ≤ n) (h2 : n ≤ 64) : ftE (sN l) n = 0 := by
  rw [Gf.ftE, if_pos hv.ch, if_pos ⟨by omega, by omega⟩]
end Gf
namespace Go.Proofs.YtnmaegbobfngeaaDoor
open Go Eng Gf
set_option maxRecDepth 100000
theorem s_Fits_ok (w : World) (a : Option Addr) (c : Nat) (l : List (Int × Int)) (n : Int) (hc : l.length ≤ c) (hr : Rd w a (shc l)) (hl : l.length < 1000000000000000000) :
    Pure Tryd.prog 11 [.slice a l.length c, I n] w (.tuple #[.bool (ftB l n), I (ftE l n)]) := by
  by_cases h : chS l = 0
  · obtain ⟨e, hv⟩ := chS_vld h
    by_cases h1 : 1 ≤ n ∧ n ≤ 64
    · have h9 := s_Fits_yes w a c (toN l) n.toNat hv (by rw [e]; exact h) (by rw [toN_length]; exact hc) (by rw [e]; exact hr) (by omega) (by omega)
      rw [toN_length, show ((n.toNat : Nat) : Int) = n by omega] at h9
      rw [ftB, ftE, if_pos ⟨h, h1.1, h1.2⟩, if_pos h, if_pos h1]
      exact h9
    · rw [ftB, ftE, if_neg (fun h2 => h1 h2.2), if_pos h, if_neg h1]
      refine enter Tryd.func11 Tryd.ntmps11 ?_
      refine c_seq <| c_reg <| s_y y_as <| s_y y_as <| s_nil <| q_then <| c_seq <| c_seq <| c_reg <| s_y y_mv <| s_pure (fun w' hw => by
        have h9 := s_Check_ok w' a c l (hr.st hw) hl
        rw [h] at h9
        exact h9) <| s_y y_as <| s_nil <| q_then <| c_seq <| c_reg <| s_y y_mv <| s_nf (y_neq (p := 0) (q := 0)) rfl <| s_nil <| q_then <| c_f <| c_skip <| q_then <| ?_
      refine c_seq <| c_seq <| c_reg <| s_y y_mv <| ?_
      by_cases g1 : n < 1
      · refine s_kt (y_lss (p := n) (q := 1)) g1 <| s_y y_mv <| s_no <| s_no <| s_y y_pk <| s_nil <| q_then <| c_t <| c_seq <| c_reg <| s_y y_as <| s_y y_as <| s_nil <| q_then <| c_ret <| q_ret <| ?_
        exact ret2 Tryd.results11 rv_t rv_t fun w' hw => ⟨rfl, hw⟩
      · refine s_kf (y_lss (p := n) (q := 1)) g1 <| s_y y_mv <| s_y y_mv <| s_kt (y_gtr (p := n) (q := 64)) (by omega) <| s_y y_pk <| s_nil <| q_then <| c_t <| c_seq <| c_reg <| s_y y_as <| s_y y_as <| s_nil <| q_then <| c_ret <| q_ret <| ?_
        exact ret2 Tryd.results11 rv_t rv_t fun w' hw => ⟨rfl, hw⟩
  · rw [ftB, ftE, if_neg (fun h2 => h h2.1), if_neg h]
    refine enter Tryd.func11 Tryd.ntmps11 ?_
    refine c_seq <| c_reg <| s_y y_as <| s_y y_as <| s_nil <| q_then <| c_seq <| c_seq <| c_reg <| s_y y_mv <| s_pure (fun w' hw => s_Check_ok w' a c l (hr.st hw) hl) <| s_y y_as <| s_nil <| q_then <| c_seq <| c_reg <| s_y y_mv <| s_nt (y_neq (p := chS l) (q := 0)) h <| s_nil <| q_then <| c_t <| c_seq <| c_reg <| s_y y_mv <| s_y y_as <| s_y y_as <| s_nil <| q_then <| c_ret <| q_ret <| ?_
    exact ret2 Tryd.results11 rv_t rv_t fun w' hw => ⟨rfl, hw⟩
theorem r8_Fits_yes (w : World) (a : Option Addr) (c : Nat) (l : List (Nat × Nat)) (n : Nat) (hv : Vld l) (hc : l.length ≤ c) (hr : Rd w a (shc (sN l))) (h1 : 1 ≤ n) (h2 : n ≤ 64) :
    Pure Tryd.prog 12 [.slice a l.length c, I n] w (.tuple #[.bool (ftV l n), I 0]) := by
  have hch := hv.ch
  have hle := hv.le
  have hl := sN_length l
  have hcl : l.length ≤ (shc (sN l)).length := by rw [shc_length, hl]; omega
  refine enter Tryd.func12 Tryd.ntmps12 ?_
  refine c_seq <| c_reg <| s_y y_as <| s_y y_as <| s_nil <| q_then <| c_seq <| c_reg <| s_y y_mv <| s_pure (fun w' hw => by
    have h9 := r8_Check_ok w' a c (sN l) (hr.st hw) (by rw [hl]; omega)
    rw [hl, hch] at h9
    exact h9) <| s_y y_as <| s_nil <| q_then <| c_seq <| c_seq <| c_reg <| s_y y_mv <| s_nf (y_neq (p := 0) (q := 0)) rfl <| s_nil <| q_then <| c_f <| c_skip <| q_then <| ?_
  refine c_seq <| c_seq <| c_reg <| s_y y_mv <| s_kf (y_lss (p := ((n : Nat) : Int)) (q := 1)) (by omega) <| s_y y_mv <| s_y y_mv <| s_kf (y_gtr (p := ((n : Nat) : Int)) (q := 64)) (by omega) <| s_y y_pk <| s_nil <| q_then <| c_f <| c_skip <| q_then <| ?_
  refine c_seq <| c_seq <| c_reg <| s_y y_mv <| s_y y_as <| s_nil <| q_then <| c_block <| ?_
  have hdl : (l.drop n).length = l.length - n := List.length_drop
  refine c_loop2 (fun (d _ : List (Nat × Nat)) => [(0, .slice a l.length c), (1, I n), (7, I (n + d.length : Nat))]) (fun _ _ => []) (fun d r => l.drop n = d ++ r ∧ ∀ s ∈ d, valQ (l.take n) s.1 = s.2) (fun _ r => r.length) [] (l.drop n) ⟨rfl, fun _ h => by cases h⟩ ⟨rfl, rfl, rfl, trivial⟩ (List.nil_sublist _) ?_
  rintro d r ⟨e1, e2⟩
  have hlen : l.length - n = d.length + r.length := by rw [← hdl, e1, List.length_append]
  cases r with
  | nil =>
    rw [List.length_nil, Nat.add_zero] at hlen
    rw [List.append_nil] at e1
    have hft : ftV l n = true := ftV_iff.2 fun s hs => e2 s (by rw [← e1]; exact hs)
    rw [hft]
    refine c_seq <| c_seq <| c_reg <| s_y y_mv <| s_y y_mv <| s_y y_len <| s_kf (y_lss (p := ((n + d.length : Nat) : Int)) (q := ((l.length : Nat) : Int))) (by omega) <| s_nil <| q_then <| c_f <| c_exit <| q_ex <| q_ex <| q_exb <| q_then <| c_seq <| c_reg <| s_y y_as <| s_y y_as <| s_nil <| q_then <| c_ret <| ?_
    exact ret2 Tryd.results12 rv_t rv_t fun w' hw => ⟨rfl, hw⟩
  | cons s r =>
    rw [List.length_cons] at hlen
    obtain ⟨i, hi⟩ : ∃ i, n + d.length = i := ⟨_, rfl⟩
    have hnl : (l.take n).length = n := by rw [List.length_take]; omega
    have e3 : l = (l.take n ++ d) ++ s :: r := by rw [List.append_assoc, ← e1, List.take_append_drop]
    have e4 : sN l = sN (l.take n ++ d) ++ ((s.1 : Int), (s.2 : Int)) :: sN r := by
      conv => lhs; rw [e3]
      unfold sN; rw [List.map_append, List.map_cons]
    obtain ⟨hc0, hc1⟩ := shc_cell (sN l) (sN (l.take n ++ d)) (sN r) ((s.1 : Int), (s.2 : Int)) i e4 (by rw [sN_length, List.length_append, hnl]; exact hi)
    have hs := hv.at' s (by rw [e3]; exact List.mem_append_right _ (.head _))
    have hvt : Rd w a (shc (sN (l.take n))) := by
      rw [sN_take, shc_take _ _ (by rw [hl]; omega)]
      exact hr.take _
    rw [hi]
    refine c_seq <| c_seq <| c_reg <| s_y y_mv <| s_y y_mv <| s_y y_len <| s_kt (y_lss (p := ((i : Nat) : Int)) (q := ((l.length : Nat) : Int))) (by omega) <| s_nil <| q_then <| c_t <| c_skip <| q_then <| c_seq <| c_block <| c_seq <| c_regd <| d_y y_mv <| d_y y_mv <| d_y (y_slh (j := ((n : Nat) : Int))) <| d_y y_mv <| d_y y_mv <| d_y (y_ixs (xs := shc (sN l)) (i := ((i : Nat) : Int)) (hl := hcl)) <| d_y y_far <| d_y (y_ldr (i := i * 2 + 0) hc0 rfl (rdW0 hr)) <| d_pure (fun w' hw => by
      have h9 := r8_ValueV w' a c (l.take n) s.1 (hv.take h1) (hvt.st hw) (by omega)
      rw [hnl] at h9
      exact h9) <| d_y y_mv <| d_y y_mv <| d_y (y_ixs (xs := shc (sN l)) (i := ((i : Nat) : Int)) (hl := hcl)) <| d_y y_far <| d_y (y_ldr (i := i * 2 + 1) hc1 rfl (rdW0 hr)) <| ?_
    by_cases hq : valQ (l.take n) s.1 = s.2
    · refine d_nf (y_neq (p := ((valQ (l.take n) s.1 : Nat) : Int)) (q := ((s.2 : Nat) : Int))) (by rw [hq]) <| d_nil <| q_then <| c_f <| c_skip <| q_nb <| q_then <| c_reg <| s_y y_mv <| s_y (y_add (p := ((i : Nat) : Int)) (q := 1)) <| s_y y_as <| s_nil <| ?_
      rw [show ((i : Nat) : Int) + 1 = ((n + (d ++ [s]).length : Nat) : Int) by rw [List.length_append, List.length_singleton]; omega]
      refine q_round2 (x := d) (y := s :: r) (d ++ [s]) r ⟨by rw [e1, List.append_assoc]; rfl, fun t ht => ?_⟩ (Nat.lt_succ_self _) ⟨rfl, rfl, rfl, trivial⟩ (List.nil_sublist _)
      rcases List.mem_append.1 ht with h | h
      · exact e2 t h
      · rw [List.mem_singleton.1 h]; exact hq
    · have hft : ftV l n = false := by
        cases h : ftV l n with
        | false => rfl
        | true => exact absurd (ftV_iff.1 h s (by rw [e1]; exact List.mem_append_right _ (.head _))) hq
      rw [hft]
      refine d_nt (y_neq (p := ((valQ (l.take n) s.1 : Nat) : Int)) (q := ((s.2 : Nat) : Int))) (by omega) <| d_nil <| q_then <| c_t <| c_seq <| c_reg <| s_y y_as <| s_y y_as <| s_nil <| q_then <| c_ret <| q_retb <| q_ret <| q_ret <| q_retb <| q_ret <| ?_
      exact ret2 Tryd.results12 rv_t rv_t fun w' hw => ⟨rfl, hw⟩
theorem r8_Fits_ok (w : World) (a : Option Addr) (c : Nat) (l : List (Int × Int)) (n : Int) (hc : l.length ≤ c) (hr : Rd w a (shc l)) (hl : l.length < 1000000000000000000) :
    Pure Tryd.prog 12 [.slice a l.length c, I n] w (.tuple #[.bool (ftB l n), I (ftE l n)]) := by
  by_cases h : chS l = 0
  · obtain ⟨e, hv⟩ := chS_vld h
    by_cases h1 : 1 ≤ n ∧ n ≤ 64
    · have h9 := r8_Fits_yes w a c (toN l) n.toNat hv (by rw [toN_length]; exact hc) (by rw [e]; exact hr) (by omega) (by omega)
      rw [toN_length, show ((n.toNat : Nat) : Int) = n by omega] at h9
      rw [ftB, ftE, if_pos ⟨h, h1.1, h1.2⟩, if_pos h, if_pos h1]
      exact h9
    · rw [ftB, ftE, if_neg (fun h2 => h1 h2.2), if_pos h, if_neg h1]
      refine enter Tryd.func12 Tryd.ntmps12 ?_
      refine c_seq <| c_reg <| s_y y_as <| s_y y_as <| s_nil <| q_then <| c_seq <| c_reg <| s_y y_mv <| s_pure (fun w' hw => by
        have h9 := r8_Check_ok w' a c l (hr.st hw) hl
        rw [h] at h9
        exact h9) <| s_y y_as <| s_nil <| q_then <| c_seq <| c_seq <| c_reg <| s_y y_mv <| s_nf (y_neq (p := 0) (q := 0)) rfl <| s_nil <| q_then <| c_f <| c_skip <| q_then <| ?_
      refine c_seq <| c_seq <| c_reg <| s_y y_mv <| ?_
      by_cases g1 : n < 1
      · refine s_kt (y_lss (p := n) (q := 1)) g1 <| s_y y_mv <| s_no <| s_no <| s_y y_pk <| s_nil <| q_then <| c_t <| c_seq <| c_reg <| s_y y_as <| s_y y_as <| s_nil <| q_then <| c_ret <| q_ret <| ?_
        exact ret2 Tryd.results12 rv_t rv_t fun w' hw => ⟨rfl, hw⟩
      · refine s_kf (y_lss (p := n) (q := 1)) g1 <| s_y y_mv <| s_y y_mv <| s_kt (y_gtr (p := n) (q := 64)) (by omega) <| s_y y_pk <| s_nil <| q_then <| c_t <| c_seq <| c_reg <| s_y y_as <| s_y y_as <| s_nil <| q_then <| c_ret <| q_ret <| ?_
        exact ret2 Tryd.results12 rv_t rv_t fun w' hw => ⟨rfl, hw⟩
  · rw [ftB, ftE, if_neg (fun h2 => h h2.1), if_neg h]
    refine enter Tryd.func12 Tryd.ntmps12 ?_
    refine c_seq <| c_reg <| s_y y_as <| s_y y_as <| s_nil <| q_then <| c_seq <| c_reg <| s_y y_mv <| s_pure (fun w' hw => r8_Check_ok w' a c l (hr.st hw) hl) <| s_y y_as <| s_nil <| q_then <| c_seq <| c_seq <| c_reg <| s_y y_mv <| s_nt (y_neq (p := chS l) (q := 0)) h <| s_nil <| q_then <| c_t <| c_seq <| c_reg <| s_y y_mv <| s_y y_as <| s_y y_as <| s_nil <| q_then <| c_ret <| q_ret <| ?_
    exact ret2 Tryd.results12 rv_t rv_t fun w' hw => ⟨rfl, hw⟩
theorem getD_ext {p q : List Int} (h : p.length = q.length) (hj : ∀ j, j < p.length → p.getD j 0 = q.getD j 0) : p = q :=
  List.ext_getElem h fun j h1 h2 => by
    have := hj j h1
    rwa [List.getD_eq_getElem?_getD, List.getD_eq_getElem?_getD, List.getElem?_eq_getElem h1, List.getElem?_eq_getElem h2] at this
theorem EqualI_ok (w : World) (a a' : Option Addr) (c c' : Nat) (p q : List Int) (hr : Rd w a (is p)) (hr' : Rd w a' (is q)) (hl : p.length < 1000000000000000000) :
    Pure Tryd.prog 33 [.slice a p.length c, .slice a' q.length c'] w (.bool (decide (p = q))) := by
  refine enter Tryd.func33 Tryd.ntmps33 ?_
  refine c_seq <| c_reg <| s_y y_as <| s_nil <| q_then <| c_seq <| c_seq <| c_reg <| s_y y_mv <| s_y y_len <| s_y y_mv <| s_y y_len <| ?_
  by_cases he : p.length = q.length
  · refine s_nf (y_neq (p := ((p.length : Nat) : Int)) (q := ((q.length : Nat) : Int))) (by rw [he]) <| s_nil <| q_then <| c_f <| c_skip <| q_then <| c_seq <| c_seq <| c_reg <| s_y y_mv <| s_y y_len <| s_y y_mv <| s_nil <| q_then <| c_block <| ?_
    refine c_loop (fun i : Nat => [(0, .slice a p.length c), (1, .slice a' q.length c'), (12, I p.length), (13, I i)]) (fun _ => []) (fun i => i ≤ p.length ∧ ∀ j, j < i → p.getD j 0 = q.getD j 0) (fun i => p.length - i) 0 ⟨by omega, fun _ h => by omega⟩ ⟨rfl, rfl, rfl, rfl, trivial⟩ (List.Sublist.refl _) ?_
    intro i ⟨hi, hj⟩
    by_cases h9 : i < p.length
    · refine c_seq <| c_reg <| s_kt (y_lss (p := ((i : Nat) : Int)) (q := ((p.length : Nat) : Int))) (by omega) <| s_nil <| q_then <| c_seq <| c_t <| c_skip <| q_then <| c_seq <| c_block <| c_seq <| c_reg <| s_y y_mv <| s_y y_as <| s_nil <| q_then <| c_seq <| c_regd <| d_y y_mv <| d_y y_mv <| d_y (y_ixs1 (xs := is p) (hr := rdW0 hr)) <| d_y (y_ldi (i := i) (q := p) (hr := rdW0 hr)) <| d_y y_mv <| d_y y_mv <| d_y (y_ixs1 (xs := is q) (hr := rdW0 hr')) <| d_y (y_ldi (i := i) (q := q) (hr := rdW0 hr')) <| ?_
      by_cases hq : p.getD i 0 = q.getD i 0
      · refine d_nf (y_neq (p := p.getD i 0) (q := q.getD i 0)) hq <| d_nil <| q_then <| c_f <| c_skip <| q_nb <| q_then <| c_reg <| s_y (y_add (p := ((i : Nat) : Int)) (q := 1)) <| s_y y_mv <| s_nil <| ?_
        rw [show ((i : Nat) : Int) + 1 = ((i + 1 : Nat) : Int) by omega]
        exact q_round (i + 1) ⟨by omega, fun j h => (Nat.lt_or_ge j i).elim (hj j) fun h8 => by obtain rfl : j = i := (by omega); exact hq⟩ (by omega) ⟨rfl, rfl, rfl, rfl, trivial⟩ (List.Sublist.refl _)
      · rw [decide_eq_false (show ¬ p = q from fun h => hq (by rw [h]))]
        refine d_nt (y_neq (p := p.getD i 0) (q := q.getD i 0)) hq <| d_nil <| q_then <| c_t <| c_seq <| c_reg <| s_y y_as <| s_nil <| q_then <| c_ret <| q_retb <| q_ret <| q_ret <| q_retb <| q_ret <| ?_
        exact ret1 Tryd.results33 rv_t fun w' hw => ⟨rfl, hw⟩
    · rw [decide_eq_true (getD_ext he fun j h => hj j (by omega))]
      refine c_seq <| c_reg <| s_kf (y_lss (p := ((i : Nat) : Int)) (q := ((p.length : Nat) : Int))) (by omega) <| s_nil <| q_then <| c_seq <| c_f <| c_exit <| q_ex <| q_ex <| q_exb <| q_then <| c_seq <| c_reg <| s_y y_as <| s_nil <| q_then <| c_ret <| ?_
      exact ret1 Tryd.results33 rv_t fun w' hw => ⟨rfl, hw⟩
  · rw [decide_eq_false (show ¬ p = q from fun h => he (by rw [h]))]
    refine s_nt (y_neq (p := ((p.length : Nat) : Int)) (q := ((q.length : Nat) : Int))) (by omega) <| s_nil <| q_then <| c_t <| c_seq <| c_reg <| s_y y_as <| s_nil <| q_then <| c_ret <| q_ret <| ?_
    exact ret1 Tryd.results33 rv_t fun w' hw => ⟨rfl, hw⟩
end Go.Proofs.YtnmaegbobfngeaaDoor
