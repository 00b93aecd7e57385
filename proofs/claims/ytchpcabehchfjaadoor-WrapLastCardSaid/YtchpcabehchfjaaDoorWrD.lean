/- Wraps: what is true of them, without the program. -/
import Derived.Test.YtchpcabehchfjaaDoorWrC
import Derived.Test.YtchpcabehchfjaaDoorAppN
namespace Wr
open Go Eng Sha Cha Gf Cod Go.Proofs.YtchpcabehchfjaaDoor
theorem key_eq (x : Nat) (s : List UInt8) : pp (wU s) x = pp (pp 4 x) (wr s) := by unfold wU; rw [pp_pp, pp_pp, Nat.mul_comm]
theorem uK_wK (x : Nat) (s : List UInt8) : uK x (wU s) = wK (pp 4 x) s := by unfold uK wK; rw [key_eq]
theorem w_open (x : Nat) (s h : List UInt8) {b : List UInt8} (hb : b.length ≤ 65536) : opOk (uK x (wU s)) z12 h (wB (pp 4 x) s h b) = true ∧ opB (uK x (wU s)) z12 h (wB (pp 4 x) s h b) = b := by
  rw [uK_wK]; exact sealB_open hb
theorem elU (s : List UInt8) : El (wU s) := El.four.pow _
theorem wchk_ok (s : List UInt8) {n : Nat} (h1 : 16 ≤ n) (h2 : n ≤ 65552) : wchk (wU s : Nat) n = 0 := by
  unfold wchk; rw [if_pos ⟨(elU s).el, h1, h2⟩]
theorem wchk_lo (u : Int) {n : Nat} (h : n < 16) : wchk u n = 90 := by
  unfold wchk; rw [if_neg (fun h2 => by omega)]
theorem tg_iff {k n h c : List UInt8} (h1 : 16 ≤ c.length) (h2 : c.length ≤ 65552) : opOk k n h c = decide ((tagged lbTag (k ++ n ++ be h.length 8 ++ h ++ c.take (c.length - 16))).take 16 = c.drop (c.length - 16)) := by
  unfold opOk
  rw [decide_eq_true h1, decide_eq_true h2, Bool.true_and, Bool.true_and, decide_eq_decide]
  exact ⟨fun h => h.symm, fun h => h.symm⟩
theorem xor_ne {x y : UInt8} (h : y ≠ 0) : x ^^^ y ≠ x := fun h2 => h (by
  have h3 : x ^^^ (x ^^^ y) = x ^^^ x := congrArg (fun z => x ^^^ z) h2
  rw [← UInt8.xor_assoc, UInt8.xor_self, UInt8.zero_xor] at h3
  exact h3)
theorem last_no {k n h b : List UInt8} {j : Nat} (hj : j < 16) {y : UInt8} (hy : y ≠ 0) : opOk k n h ((sealB k n h b).set (b.length + j) ((sealB k n h b).getD (b.length + j) 0 ^^^ y)) = false := by
  have hl := sealB_length k n h b
  generalize hv : (sealB k n h b).getD (b.length + j) 0 ^^^ y = v
  have hle : ((sealB k n h b).set (b.length + j) v).length = b.length + 16 := by rw [List.length_set, hl]
  have ht : ((sealB k n h b).set (b.length + j) v).take (((sealB k n h b).set (b.length + j) v).length - 16) = strm k n b := by
    rw [hle, Nat.add_sub_cancel, List.take_set_of_le (Nat.le_add_right _ _)]; unfold sealB; exact List.take_left' (strm_length _ _ _)
  have hd : ((sealB k n h b).set (b.length + j) v).drop (((sealB k n h b).set (b.length + j) v).length - 16) = (tg k n h (strm k n b)).set j v := by
    rw [hle, Nat.add_sub_cancel, List.drop_set, if_neg (by omega), Nat.add_sub_cancel_left]; unfold sealB; rw [List.drop_left' (strm_length _ _ _)]
  have hg : (sealB k n h b).getD (b.length + j) 0 = (tg k n h (strm k n b)).getD j 0 := by
    unfold sealB
    rw [List.getD_eq_getElem?_getD, List.getD_eq_getElem?_getD, List.getElem?_append_right (by rw [strm_length]; omega), strm_length, Nat.add_sub_cancel_left]
  have htl := tg_length k n h (strm k n b)
  cases ho : opOk k n h ((sealB k n h b).set (b.length + j) v) with
  | false => rfl
  | true =>
    unfold opOk at ho
    simp only [Bool.and_eq_true, decide_eq_true_eq] at ho
    have h3 := ho.2.2
    rw [ht, hd] at h3
    have h4 : (tg k n h (strm k n b)).getD j 0 = v := by
      conv => lhs; rw [← h3]
      rw [List.getD_eq_getElem?_getD, List.getElem?_set_self (by rw [htl]; exact hj)]; rfl
    rw [← hv, hg] at h4
    exact absurd h4.symm (xor_ne hy)
theorem seed_xor (k n h1 b1 h2 b2 : List UInt8) {i : Nat} (hi : i < b1.length) (hi2 : i < b2.length) : (sealB k n h1 b1).getD i 0 ^^^ (sealB k n h2 b2).getD i 0 = b1.getD i 0 ^^^ b2.getD i 0 := by
  have e : ∀ (h b : List UInt8), i < b.length → (sealB k n h b).getD i 0 = b.getD i 0 ^^^ ks k n i := fun h b hb => by
    rw [← strm_at k n b hb]
    unfold sealB
    rw [List.getD_eq_getElem?_getD, List.getD_eq_getElem?_getD, List.getElem?_append_left (by rw [strm_length]; exact hb)]
  rw [e h1 b1 hi, e h2 b2 hi2, UInt8.xor_comm (b2.getD i 0), ← UInt8.xor_assoc, UInt8.xor_assoc (b1.getD i 0), UInt8.xor_self, UInt8.xor_zero]
theorem pp41 : pp 4 1 = 4 := pp_self (by decide)
theorem el16 : El 16 := by
  have h := El.four.pow 2
  rwa [show pp 4 2 = 16 by rw [pp_def]] at h
theorem sb_ne {a b : List UInt8} (h : a.length ≠ b.length) : sb a ≠ sb b := fun h2 => h (by rw [← sb_size a, ← sb_size b, h2])
end Wr
namespace Go.Proofs.YtchpcabehchfjaaDoor
open Go Eng Gf Sha Cha Wr Cod
set_option maxRecDepth 100000
section
variable (w : World) (ha ca : Option Addr) (hc cc : Nat) (s h b : List UInt8) (x : Nat) (hx0 : 1 ≤ x) (hx : x < 2305843009213688669) (hrh : Rd w ha (bs h)) (hlh : h.length ≤ 100000) (hg : LC w)
include hx0 hx hrh hlh hg
/-- what was wrapped is unwrapped -/
theorem w_Unwrap_back (hb : b.length ≤ 65536) (p : Nat) (hp : pp 4 x = p) (hcc : b.length + 16 ≤ cc) (hrc : Rd w ca (bs (wB p s h b))) :
    Gives Tryd.prog 11 [I x, .slice ha h.length hc, .agg #[I (wU s : Nat), .slice ca (b.length + 16) cc]] w [] (fun y : Option Addr × Nat => .tuple #[.slice y.1 b.length y.2, I 0]) (fun y => [.row y.1 y.2 5 1 b.length (bs b)]) (fun _ => True) := by
  subst hp
  obtain ⟨h1, h2⟩ := w_open x s h hb
  obtain ⟨c, hc'⟩ : ∃ c, wB (pp 4 x) s h b = c := ⟨_, rfl⟩
  have hl : c.length = b.length + 16 := by rw [← hc']; exact wB_length _ _ _ _
  rw [hc'] at hrc h1 h2
  have h9 := w_Unwrap_yes w ha ca hc cc h c x hx0 hx (wU s) (elU s) hrh hlh hrc (by omega) (wchk_ok s (by omega) (by omega)) hg h1
  rw [h2, hl] at h9
  exact h9
/-- one that does not open -/
theorem w_Unwrap_off (p u : Nat) (hp : pp 4 x = p) (hu : El u) (c : List UInt8) (hl : 16 ≤ c.length) (hl2 : c.length ≤ 65552) (hcc : c.length ≤ cc) (hrc : Rd w ca (bs c)) (hno : opOk (uK x u) z12 h c = false) :
    Pure Tryd.prog 11 [I x, .slice ha h.length hc, .agg #[I u, .slice ca c.length cc]] w (.tuple #[.slice none 0 0, I 60]) :=
  w_Unwrap_no3 w ha ca hc cc h c x hx0 hx u hu hrh hlh hrc hcc (by unfold wchk; rw [if_pos ⟨hu.el, hl, hl2⟩]) hg hno
end
end Go.Proofs.YtchpcabehchfjaaDoor
