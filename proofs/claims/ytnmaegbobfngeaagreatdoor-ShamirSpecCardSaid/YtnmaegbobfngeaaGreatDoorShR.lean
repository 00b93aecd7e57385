/- Fits, in both programs, of any shares; lists of ints compared. -/
import Derived.Test.YtnmaegbobfngeaaGreatDoorShP
import Derived.Test.YtnmaegbobfngeaaGreatDoorShQ
namespace Gf
open Go Eng
noncomputable def ftB (l : List (Int × Int)) (n : Int) : Bool := if chS l = 0 ∧ 1 ≤ n ∧ n ≤ 64 then ftV (toN l) n.toNat else false
def ftE (l : List (Int × Int)) (n : Int) : Int := if chS l = 0 then (if 1 ≤ n ∧ n ≤ 64 then 0 else 1) else chS l
theorem Vld.ftB {l : List (Nat × Nat)} (hv : Vld l) {n : Nat} (h1 : 1 ≤ n) (h2 : n ≤ 64) : ftB (sN l) n = ftV l n := by
  rw [Gf.ftB, if_pos ⟨hv.ch, by omega, by omega⟩, toN_sN, Int.toNat_natCast]
theorem Vld.ftE {l : List (Nat × Nat)} (hv : Vld l) {n : Nat} (h1 : 1 ≤ n) (h2 : n ≤ 64) : ftE (sN l) n = 0 := by
  rw [Gf.ftE, if_pos hv.ch, if_pos ⟨by omega, by omega⟩]
end Gf
namespace Go.Proofs.YtnmaegbobfngeaaGreatDoor
open Go Eng Gf
set_option maxRecDepth 100000
theorem s_Fits_ok (w : World) (a : Option Addr) (c : Nat) (l : List (Int × Int)) (n : Int) (hc : l.length ≤ c) (hr : Rd w a (shc l)) (hl : l.length < 1000000000000000000) :
    Pure Tryz.prog 13 [.slice a l.length c, I n] w (.tuple #[.bool (ftB l n), I (ftE l n)]) := by
  by_cases h : chS l = 0
  · obtain ⟨e, hv⟩ := chS_vld h
    by_cases h1 : 1 ≤ n ∧ n ≤ 64
    · have h9 := s_Fits_yes w a c (toN l) n.toNat hv (by rw [e]; exact h) (by rw [toN_length]; exact hc) (by rw [e]; exact hr) (by omega) (by omega)
      rw [toN_length, show ((n.toNat : Nat) : Int) = n by omega] at h9
      rw [ftB, ftE, if_pos ⟨h, h1.1, h1.2⟩, if_pos h, if_pos h1]
      exact h9
    · rw [ftB, ftE, if_neg (fun h2 => h1 h2.2), if_pos h, if_neg h1]
      refine enter Tryz.func13 Tryz.ntmps13 ?_
      refine c_seq <| c_reg <| s_y y_as <| s_y y_as <| s_nil <| q_then <| c_seq <| c_seq <| c_reg <| s_y y_mv <| s_pure (fun w' hw => by
        have h9 := s_Check_ok w' a c l (hr.st hw) hl
        rw [h] at h9
        exact h9) <| s_y y_as <| s_nil <| q_then <| c_seq <| c_reg <| s_y y_mv <| s_nf (y_neq (p := 0) (q := 0)) rfl <| s_nil <| q_then <| c_f <| c_skip <| q_then <| ?_
      refine c_seq <| c_seq <| c_reg <| s_y y_mv <| ?_
      by_cases g1 : n < 1
      · refine s_kt (y_lss (p := n) (q := 1)) g1 <| s_y y_mv <| s_no <| s_no <| s_y y_pk <| s_nil <| q_then <| c_t <| c_seq <| c_reg <| s_y y_as <| s_y y_as <| s_nil <| q_then <| c_ret <| q_ret <| ?_
        exact ret2 Tryz.results13 rv_t rv_t fun w' hw => ⟨rfl, hw⟩
      · refine s_kf (y_lss (p := n) (q := 1)) g1 <| s_y y_mv <| s_y y_mv <| s_kt (y_gtr (p := n) (q := 64)) (by omega) <| s_y y_pk <| s_nil <| q_then <| c_t <| c_seq <| c_reg <| s_y y_as <| s_y y_as <| s_nil <| q_then <| c_ret <| q_ret <| ?_
        exact ret2 Tryz.results13 rv_t rv_t fun w' hw => ⟨rfl, hw⟩
  · rw [ftB, ftE, if_neg (fun h2 => h h2.1), if_neg h]
    refine enter Tryz.func13 Tryz.ntmps13 ?_
    refine c_seq <| c_reg <| s_y y_as <| s_y y_as <| s_nil <| q_then <| c_seq <| c_seq <| c_reg <| s_y y_mv <| s_pure (fun w' hw => s_Check_ok w' a c l (hr.st hw) hl) <| s_y y_as <| s_nil <| q_then <| c_seq <| c_reg <| s_y y_mv <| s_nt (y_neq (p := chS l) (q := 0)) h <| s_nil <| q_then <| c_t <| c_seq <| c_reg <| s_y y_mv <| s_y y_as <| s_y y_as <| s_nil <| q_then <| c_ret <| q_ret <| ?_
    exact ret2 Tryz.results13 rv_t rv_t fun w' hw => ⟨rfl, hw⟩
theorem getD_ext {p q : List Int} (h : p.length = q.length) (hj : ∀ j, j < p.length → p.getD j 0 = q.getD j 0) : p = q :=
  List.ext_getElem h fun j h1 h2 => by
    have := hj j h1
    rwa [List.getD_eq_getElem?_getD, List.getD_eq_getElem?_getD, List.getElem?_eq_getElem h1, List.getElem?_eq_getElem h2] at this
theorem EqualI_ok (w : World) (a a' : Option Addr) (c c' : Nat) (p q : List Int) (hr : Rd w a (is p)) (hr' : Rd w a' (is q)) (hl : p.length < 1000000000000000000) :
    Pure Tryz.prog 26 [.slice a p.length c, .slice a' q.length c'] w (.bool (decide (p = q))) := by
  refine enter Tryz.func26 Tryz.ntmps26 ?_
  refine c_seq <| c_reg <| s_y y_as <| s_nil <| q_then <| c_seq <| c_seq <| c_reg <| s_y y_mv <| s_y y_len <| s_y y_mv <| s_y y_len <| ?_
  by_cases he : p.length = q.length
  · refine s_nf (y_neq (p := ((p.length : Nat) : Int)) (q := ((q.length : Nat) : Int))) (by rw [he]) <| s_nil <| q_then <| c_f <| c_skip <| q_then <| c_seq <| c_seq <| c_reg <| s_y y_mv <| s_y y_len <| s_y y_mv <| s_nil <| q_then <| c_block <| ?_
    refine c_loop (fun i : Nat => [(0, .slice a p.length c), (1, .slice a' q.length c'), (12, I p.length), (13, I i)]) (fun _ => []) (fun i => i ≤ p.length ∧ ∀ j, j < i → p.getD j 0 = q.getD j 0) (fun i => p.length - i) 0 ⟨by omega, fun _ h => by omega⟩ ⟨rfl, rfl, rfl, rfl, trivial⟩ (List.Sublist.refl _) ?_
    intro i ⟨hi, hj⟩
    by_cases h9 : i < p.length
    · refine c_seq <| c_reg <| s_kt (y_lss (p := ((i : Nat) : Int)) (q := ((p.length : Nat) : Int))) (by omega) <| s_nil <| q_then <| c_seq <| c_t <| c_skip <| q_then <| c_seq <| c_block <| c_seq <| c_reg <| s_y y_mv <| s_y y_as <| s_nil <| q_then <| c_seq <| c_regd <| d_y y_mv <| d_y y_mv <| d_y (y_ixs1 (xs := is p) (hr := rdW0 hr)) <| d_y (y_ldi (i := i) (q := p) (hr := rdW0 hr)) <| d_y y_mv <| d_y y_mv <| d_y (y_ixs1 (xs := is q) (hr := rdW0 hr')) <| d_y (y_ldi (i := i) (q := q) (hr := rdW0 hr')) <| ?_
      by_cases hq : p.getD i 0 = q.getD i 0
      · refine d_nf (y_neq (p := p.getD i 0) (q := q.getD i 0)) hq <| d_nil <| q_then <| c_f <| c_skip <| q_nb <| q_then <| c_reg <| s_y (y_add (p := ((i : Nat) : Int)) (q := 1)) <| s_y y_mv <| s_nil <| ?_
        rw [show ((i : Nat) : Int) + 1 = ((i + 1 : Nat) : Int) by omega]
        exact q_round (i + 1) ⟨by omega, fun j h => (Nat.lt_or_ge j i).elim (hj j) fun h8 => by obtain rfl : j = i := (by omega); exact hq⟩ (by omega) ⟨rfl, rfl, rfl, rfl, trivial⟩ (List.Sublist.refl _)
      · rw [decide_eq_false (show ¬ p = q from fun h => hq (by rw [h]))]
        refine d_nt (y_neq (p := p.getD i 0) (q := q.getD i 0)) hq <| d_nil <| q_then <| c_t <| c_seq <| c_reg <| s_y y_as <| s_nil <| q_then <| c_ret <| q_retb <| q_ret <| q_ret <| q_retb <| q_ret <| ?_
        exact ret1 Tryz.results26 rv_t fun w' hw => ⟨rfl, hw⟩
    · rw [decide_eq_true (getD_ext he fun j h => hj j (by omega))]
      refine c_seq <| c_reg <| s_kf (y_lss (p := ((i : Nat) : Int)) (q := ((p.length : Nat) : Int))) (by omega) <| s_nil <| q_then <| c_seq <| c_f <| c_exit <| q_ex <| q_ex <| q_exb <| q_then <| c_seq <| c_reg <| s_y y_as <| s_nil <| q_then <| c_ret <| ?_
      exact ret1 Tryz.results26 rv_t fun w' hw => ⟨rfl, hw⟩
  · rw [decide_eq_false (show ¬ p = q from fun h => he (by rw [h]))]
    refine s_nt (y_neq (p := ((p.length : Nat) : Int)) (q := ((q.length : Nat) : Int))) (by omega) <| s_nil <| q_then <| c_t <| c_seq <| c_reg <| s_y y_as <| s_nil <| q_then <| c_ret <| q_ret <| ?_
    exact ret1 Tryz.results26 rv_t fun w' hw => ⟨rfl, hw⟩
end Go.Proofs.YtnmaegbobfngeaaGreatDoor
