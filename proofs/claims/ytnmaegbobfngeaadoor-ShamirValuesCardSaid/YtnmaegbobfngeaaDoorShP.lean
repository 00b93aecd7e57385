/- Fits, in the program: the walk. -/
import Derived.Test.YtnmaegbobfngeaaDoorShO
namespace Gf
open Go Eng
theorem sN_getD (l : List (Nat × Nat)) (i : Nat) : (sN l).getD i (0, 0) = (((l.getD i (0, 0)).1 : Int), ((l.getD i (0, 0)).2 : Int)) := by
  unfold sN
  rw [List.getD_eq_getElem?_getD, List.getD_eq_getElem?_getD, List.getElem?_map]
  cases l[i]? <;> rfl
theorem any_sN (l : List (Nat × Nat)) (f : Int × Int → Bool) : (sN l).any f = l.any fun s => f ((s.1 : Int), (s.2 : Int)) := by
  unfold sN; rw [List.any_map]; rfl
end Gf
namespace Go.Proofs.YtnmaegbobfngeaaDoor
open Go Eng Gf
set_option maxRecDepth 100000
theorem s_Fits_yes (w : World) (a : Option Addr) (c : Nat) (l : List (Nat × Nat)) (n : Nat) (hv : Vld l) (hch : chS (sN l) = 0) (hc : l.length ≤ c) (hr : Rd w a (shc (sN l))) (h1 : 1 ≤ n) (h2 : n ≤ 64) :
    Pure Tryd.prog 11 [.slice a l.length c, I n] w (.tuple #[.bool (ftV l n), I 0]) := by
  have hle := hv.le
  have hl := sN_length l
  obtain ⟨f, hf⟩ : ∃ f, min n l.length = f := ⟨_, rfl⟩
  have hfl : f ≤ l.length := by omega
  have htk : l.take f = l.take n := by
    rcases Nat.le_total n l.length with h | h
    · rw [show f = n by omega]
    · rw [show f = l.length by omega, List.take_length, List.take_of_length_le h]
  have hdr : l.drop f = l.drop n := by
    rcases Nat.le_total n l.length with h | h
    · rw [show f = n by omega]
    · rw [show f = l.length by omega, List.drop_length, List.drop_eq_nil_of_le h]
  have hv1 : Vld (l.take f) := hv.take (by have := hv.pos; omega)
  have hlt : (l.take f).length = f := by rw [List.length_take]; omega
  have hld : (sN (l.drop f)).length = l.length - f := by rw [sN_length, List.length_drop]
  refine enter Tryd.func11 Tryd.ntmps11 ?_
  refine c_seq <| c_reg <| s_y y_as <| s_y y_as <| s_nil <| q_then <| c_seq <| c_seq <| c_reg <| s_y y_mv <| s_pure (fun w' hw => by
    have h9 := s_Check_ok w' a c (sN l) (hr.st hw) (by rw [hl]; omega)
    rw [hl, hch] at h9
    exact h9) <| s_y y_as <| s_nil <| q_then <| c_seq <| c_reg <| s_y y_mv <| s_nf (y_neq (p := 0) (q := 0)) rfl <| s_nil <| q_then <| c_f <| c_skip <| q_then <| ?_
  refine c_seq <| c_seq <| c_reg <| s_y y_mv <| s_kf (y_lss (p := ((n : Nat) : Int)) (q := 1)) (by omega) <| s_y y_mv <| s_y y_mv <| s_kf (y_gtr (p := ((n : Nat) : Int)) (q := 64)) (by omega) <| s_y y_pk <| s_nil <| q_then <| c_f <| c_skip <| q_then <| ?_
  refine c_seq <| c_reg <| s_y y_mv <| s_y y_mv <| s_y y_mv <| s_y y_len <| s_y (y_min (p := ((n : Nat) : Int)) (q := ((l.length : Nat) : Int))) <| ?_
  rw [show min ((n : Nat) : Int) ((l.length : Nat) : Int) = ((f : Nat) : Int) by omega]
  refine s_y (y_slh (j := ((f : Nat) : Int))) <| s_alloc fun b7 => s_st (b := b7) (v := .slice a f c) (cs := #[.slice none 0 0]) (hl := Nat.zero_lt_one) ?_
  refine s_nil <| q_then <| c_seq <| c_reg <| s_y y_mv <| s_y (y_ld (b := b7) (v := .slice a f c)) <| s_y y_len <| s_y (y_sll (i := ((f : Nat) : Int))) <| s_y y_func <| s_pure (fun w' hw => by
    have h9 := ContainsFunc_fit_ok w' (sa a f c 2) (c - f) b7 (sN (l.drop f)) (fun s => !decide (((valQ (l.take f) s.1.toNat : Nat) : Int) = s.2)) (by
      have h3 : RdS w' [] [] (sa a f c 2) ((shc (sN l)).drop (f * 2)) := (rdW0 (hr.st hw)).sa (by rw [shc_length, hl]; omega)
      rw [sN_drop, shc_drop _ _ (by rw [hl]; exact hfl)]
      exact h3 w' (St.refl w')) (by rw [hld]; omega) (fun i hi w2 h3 => by
      have hi' : i < (l.drop f).length := by rw [sN_length] at hi; exact hi
      rw [sN_getD]
      have hx : ((l.drop f).getD i (0, 0)).1 < 2305843009213688669 := by
        rw [List.getD_eq_getElem?_getD, List.getElem?_eq_getElem hi']
        have := hv.at' _ (List.mem_of_mem_drop (List.getElem_mem hi'))
        show (l.drop f)[i].1 < _
        omega
      have h5 : Rd w2 (some ⟨b7, 0, none⟩) [.slice a (l.take f).length c] := by
        rw [hlt]
        exact Rd.st (rdB (W := w) (Bo := []) (.head _) (fun i v h => by rw [Nat.zero_add]; simpa using h) w' hw) h3
      have h6 : Rd w2 a (shc (sN (l.take f))) := by
        rw [sN_take, shc_take _ _ (by rw [hl]; exact hfl)]
        exact ((hr.st hw).st h3).take _
      simpa using Fits1_ok w2 b7 a c (l.take f) ((l.drop f).getD i (0, 0)).1 ((l.drop f).getD i (0, 0)).2 hv1 hx h5 h6)
    rw [hld] at h9
    exact h9) <| ?_
  have he : (!((sN (l.drop f)).any fun s => !decide (((valQ (l.take f) s.1.toNat : Nat) : Int) = s.2))) = ftV l n := by
    rw [any_sN, htk, hdr]; rfl
  refine s_y y_not <| ?_
  rw [he]
  refine s_y y_as <| s_y y_as <| s_nil <| q_then <| c_ret <| ?_
  exact ret2 Tryd.results11 rv_t rv_t fun w' hw => ⟨rfl, hw.sub (List.nil_sublist _)⟩
end Go.Proofs.YtnmaegbobfngeaaDoor
