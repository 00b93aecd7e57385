/- The law on path secrets from a level on. -/
import Derived.Test.YtmpjmjllfldjdaaDoorLaw22
namespace Eng
open Go Go.RowKit
theorem y_rem8 {P : Program} {n : Nat} {D : List Deferred} {W : World} {Bo : List Nat} {F : List (Nat × Value)} {l : SH} {d : Option Tmp} {ty : TypeId} {ps : String} {af : Array Edge} {g : Option (Nat × Bool)} {x y : Operand} {ta tb : TypeId}
    {p q : UInt8} (hx : evO F x = some (B p) := by rfl) (hy : evO F y = some (B q) := by rfl) (h1 : 0 < q.toNat := by decide) : Y P n D W Bo ⟨d, .binOp .rem ta x y tb, ty, ps, af, g⟩ F l (B (p % q)) :=
  .mk (by simp) fun a w ha _ => by
    have h5 : q.toNat ≠ 0 := by omega
    simp [execOp, ha.eval hx, ha.eval hy, eqGuard, binOp, Op.intDiv, h5, Int.tmod_eq_emod_of_nonneg]
end Eng
namespace Go.Proofs.YtmpjmjllfldjdaaDoor
open Go Eng Sha Cod
set_option maxRecDepth 100000
theorem aboveL_nat (k : List UInt8) {i : Nat} (h : i < 10) : aboveL k (i : Int) = rungs k (10 - i) := by unfold aboveL; rw [if_neg (by omega), if_neg (by omega), Int.toNat_natCast]
theorem aboveE_nat {i : Nat} (h : i < 10) : aboveE (i : Int) = 0 := by unfold aboveE; rw [if_neg (by omega), if_neg (by omega)]

theorem law_Above_lt (w : World) (k : List UInt8) (y1 y2 : UInt8) (i j : Nat) (hg : LS2 w) (hk : k.length = 32) (hi : (y1 % 10).toNat = i) (hj : (y2 % 10).toNat = j) (hi10 : i < 10) (hj10 : j < 10) (hij : i < j) : Pure Tryd.prog 4 [.agg (bs k).toArray, B y1, B y2] w (.bool true) := by
  have hl10 := rungs_length k 10
  refine enter Tryd.func4 Tryd.ntmps4 ?_
  refine c_seq <| c_reg <| s_box rfl fun b3 => s_y y_as <| s_nil <| q_then <| c_seq <| c_seq <| c_reg <| s_pure (fun w' hw => sane22_ok w' (hg.st hw)) <| s_y (v := .bool false) (y_not (b := true)) <| s_nil <| q_then <| c_f <| c_skip <| q_then <| c_seq <| c_reg <| s_y (y_lda (b := b3) (cs := (bs k).toArray) (hl := (hz32 hk))) <| s_gives (fun w' hw => sch_Ladder_ok w' k (hg.st hw) hk) fun x17 _ => s_y y_as <| s_nil <| q_then <| c_seq <| c_seq <| c_regd <| d_y y_mv <| d_y y_len <| d_nf (y_neq (p := (rungs k 10).length) (q := 10)) (by rw [rungs_length]; rfl) <| d_y y_mv <| d_y y_mv <| d_y (y_ixk (a := x17.1) (ks := rungs k 10) (i := 0) (m := (rungs k 10).length) (rungs_32 hk 10) (rdR (by repeat (first | exact .head _ | apply List.Mem.tail))) (by rw [rungs_length]; omega) rfl) <| d_y (y_ldk (a := x17.1) (ks := rungs k 10) (i := 0) (rungs_32 hk 10) (by rw [rungs_length]; omega) (rdR (by repeat (first | exact .head _ | apply List.Mem.tail)))) <| ?_
  refine d_y (y_lda (b := b3) (cs := (bs k).toArray) (hl := (hz32 hk))) <| d_nf (y_neqa (p := (rungs k 10).getD 0 []) (q := k) ((rungs_32 hk 10).get (by rw [rungs_length]; omega)) hk hgk) rfl <| d_y y_pk <| d_nil <| q_then <| c_f <| c_skip <| q_then <| c_seq <| c_reg <| s_y y_mv <| s_y (y_rem8 (p := y1) (q := 10)) <| s_y y_cvb <| ?_
  rw [hi]
  refine s_y y_mv <| s_y (y_rem8 (p := y2) (q := 10)) <| s_y y_cvb <| ?_
  rw [hj]
  refine s_y y_as <| s_y y_as <| s_nil <| q_then <| c_seq <| c_seq <| c_reg <| s_y y_mv <| s_y y_mv <| s_kf (y_gtr (p := (i : Int)) (q := (j : Int))) (by omega) <| s_nil <| q_then <| c_f <| c_skip <| q_then <| c_seq <| c_reg <| s_y y_mv <| s_y y_mv <| s_y (y_ixk (a := x17.1) (ks := rungs k 10) (i := i) (m := (rungs k 10).length) (rungs_32 hk 10) (rdR (by repeat (first | exact .head _ | apply List.Mem.tail))) (by rw [rungs_length]; omega) rfl) <| s_y (y_ldk (a := x17.1) (ks := rungs k 10) (i := i) (rungs_32 hk 10) (by rw [rungs_length]; omega) (rdR (by repeat (first | exact .head _ | apply List.Mem.tail)))) <| ?_
  rw [rungs_get k (show i < 10 by omega)]
  refine s_y y_mv <| s_gives (fun w' hw => sch_Above_ok w' (pathN k i) (i : Int) (hg.st hw) (pathN_length hk i)) fun x45 _ => ?_
  rw [aboveL_nat (pathN k i) (show i < 10 by omega), aboveE_nat (show i < 10 by omega)]
  refine s_y y_mv <| s_y y_ext <| s_y y_ext <| s_y y_as <| s_y y_as <| s_nil <| q_then <| c_seq <| c_seq <| c_reg <| s_y y_mv <| s_nf (y_neq (p := 0) (q := 0)) (by omega) <| s_y y_mv <| s_y y_mv <| s_y y_len <| s_y y_mv <| s_y y_len <| s_y y_mv <| s_y (y_sub (p := (rungs k 10).length) (q := (i : Int))) <| s_nf (y_neq (p := (rungs (pathN k i) (10 - i)).length) (q := ((rungs k 10).length) - (i : Int))) (by rw [rungs_length, rungs_length]; omega) <| s_y y_pk <| s_y y_mv <| s_y y_mv <| s_y y_mv <| s_y y_mv <| s_y (y_sll (a := x17.1) (m := (rungs k 10).length) (c := x17.2) (i := (i : Nat))) <| ?_
  rw [Int.toNat_natCast, show (rungs k 10).length - i = (rungs (pathN k i) (10 - i)).length by rw [rungs_length, rungs_length]]
  refine s_pure (fun w' hw => ref22_Same_ok w' x45.1 (sa x17.1 i x17.2 32) x45.2 (x17.2 - i) (rungs (pathN k i) (10 - i)) (rungs (pathN k i) (10 - i)) (rdR (.head _) w' hw) (by have h9 := rd_sak (hw.own _ (.tail _ (.head _))).1 (rungs_32 hk 10) rfl i; rw [rungs_drop] at h9; exact h9) (rungs_32 (pathN_length hk i) _) (rungs_32 (pathN_length hk i) _) (by first | exact aboveL_le _ _ | (simp only [rungs_length]; omega))) <| ?_
  rw [decide_eq_true (show rungs (pathN k i) (10 - i) = rungs (pathN k i) (10 - i) from rfl)]
  refine s_y (v := .bool false) (y_not (b := true)) <| s_y y_pk <| s_nil <| q_then <| c_f <| c_skip <| q_then <| c_seq <| c_reg <| s_y y_mv <| s_y y_mv <| s_y y_mv <| s_y (y_sub (p := (j : Int)) (q := (i : Int))) <| ?_
  rw [show (j : Int) - (i : Int) = ((j - i : Nat) : Int) by omega]
  refine s_y (y_ixk (a := x45.1) (ks := rungs (pathN k i) (10 - i)) (i := (j - i)) (m := (rungs (pathN k i) (10 - i)).length) (rungs_32 (pathN_length hk i) _) (rdR (by repeat (first | exact .head _ | apply List.Mem.tail))) (by rw [rungs_length]; omega) rfl) <| s_y (y_ldk (a := x45.1) (ks := rungs (pathN k i) (10 - i)) (i := (j - i)) (rungs_32 (pathN_length hk i) _) (by rw [rungs_length]; omega) (rdR (by repeat (first | exact .head _ | apply List.Mem.tail)))) <| ?_
  rw [rungs_get (pathN k i) (show j - i < 10 - i by omega), pathN_add, show i + (j - i) = j by omega]
  refine s_y y_mv <| s_gives (fun w' hw => sch_Above_ok w' (pathN k j) (j : Int) (hg.st hw) (pathN_length hk j)) fun x75 _ => ?_
  rw [aboveL_nat (pathN k j) (show j < 10 by omega), aboveE_nat (show j < 10 by omega)]
  refine s_y y_mv <| s_y y_ext <| s_y y_ext <| s_y y_as <| s_y y_as <| s_nil <| q_then <| c_seq <| c_regd <| d_y y_mv <| d_kt (y_eql (p := 0) (q := 0)) (by omega) <| d_y y_mv <| d_y y_mv <| d_y y_mv <| d_y y_mv <| d_y (y_sll (a := x17.1) (m := (rungs k 10).length) (c := x17.2) (i := (j : Nat))) <| ?_
  rw [Int.toNat_natCast, show (rungs k 10).length - j = (rungs (pathN k j) (10 - j)).length by rw [rungs_length, rungs_length]]
  refine d_pure (fun w' hw => ref22_Same_ok w' x75.1 (sa x17.1 j x17.2 32) x75.2 (x17.2 - j) (rungs (pathN k j) (10 - j)) (rungs (pathN k j) (10 - j)) (rdR (.head _) w' hw) (by have h9 := rd_sak (hw.own _ (.tail _ (.tail _ (.head _)))).1 (rungs_32 hk 10) rfl j; rw [rungs_drop] at h9; exact h9) (rungs_32 (pathN_length hk j) _) (rungs_32 (pathN_length hk j) _) (by first | exact aboveL_le _ _ | (simp only [rungs_length]; omega))) <| ?_
  rw [decide_eq_true (show rungs (pathN k j) (10 - j) = rungs (pathN k j) (10 - j) from rfl)]
  refine d_y y_pk <| d_y y_mv <| d_y y_mv <| d_y y_mv <| d_kf (y_eql (p := (j : Int)) (q := (i : Int))) (by omega) <| d_y y_mv <| d_y y_mv <| d_y (y_ixk (a := x45.1) (ks := rungs (pathN k i) (10 - i)) (i := 1) (m := (rungs (pathN k i) (10 - i)).length) (rungs_32 (pathN_length hk i) _) (rdR (by repeat (first | exact .head _ | apply List.Mem.tail))) (by rw [rungs_length]; omega) rfl) <| d_y (y_ldk (a := x45.1) (ks := rungs (pathN k i) (10 - i)) (i := 1) (rungs_32 (pathN_length hk i) _) (by rw [rungs_length]; omega) (rdR (by repeat (first | exact .head _ | apply List.Mem.tail)))) <| ?_
  rw [rungs_get (pathN k i) (show 1 < 10 - i by omega)]
  refine d_y y_mv <| d_y y_mv <| d_y (y_ixk (a := x17.1) (ks := rungs k 10) (i := i) (m := (rungs k 10).length) (rungs_32 hk 10) (rdR (by repeat (first | exact .head _ | apply List.Mem.tail))) (by rw [rungs_length]; omega) rfl) <| d_y (y_ldk (a := x17.1) (ks := rungs k 10) (i := i) (rungs_32 hk 10) (by rw [rungs_length]; omega) (rdR (by repeat (first | exact .head _ | apply List.Mem.tail)))) <| ?_
  rw [rungs_get k (show i < 10 by omega)]
  refine d_pure (fun w' hw => derive_Expand_ok w' (pathN k i) lbPath none 0 [] (hg.1.st hw) (pathN_length hk i) (Rd.nil _ _) (by simp) (by decide) (by simp)) <| d_kt (y_eqla (p := pathN (pathN k i) 1) (q := expand (pathN k i) lbPath []) (pathN_length (pathN_length hk i) 1) (expand_length _ _ _) hgk) rfl <| d_y y_pk <| d_y y_pk <| d_y y_as <| d_nil <| q_then <| c_ret <| ?_
  exact ret1 Tryd.results4 rv_t fun w' hw => ⟨rfl, hw.sub (List.nil_sublist _)⟩

theorem law_Above_eq (w : World) (k : List UInt8) (y1 y2 : UInt8) (i : Nat) (hg : LS2 w) (hk : k.length = 32) (hi : (y1 % 10).toNat = i) (hj : (y2 % 10).toNat = i) (hi10 : i < 10) : Pure Tryd.prog 4 [.agg (bs k).toArray, B y1, B y2] w (.bool true) := by
  have hl10 := rungs_length k 10
  refine enter Tryd.func4 Tryd.ntmps4 ?_
  refine c_seq <| c_reg <| s_box rfl fun b3 => s_y y_as <| s_nil <| q_then <| c_seq <| c_seq <| c_reg <| s_pure (fun w' hw => sane22_ok w' (hg.st hw)) <| s_y (v := .bool false) (y_not (b := true)) <| s_nil <| q_then <| c_f <| c_skip <| q_then <| c_seq <| c_reg <| s_y (y_lda (b := b3) (cs := (bs k).toArray) (hl := (hz32 hk))) <| s_gives (fun w' hw => sch_Ladder_ok w' k (hg.st hw) hk) fun x17 _ => s_y y_as <| s_nil <| q_then <| c_seq <| c_seq <| c_regd <| d_y y_mv <| d_y y_len <| d_nf (y_neq (p := (rungs k 10).length) (q := 10)) (by rw [rungs_length]; rfl) <| d_y y_mv <| d_y y_mv <| d_y (y_ixk (a := x17.1) (ks := rungs k 10) (i := 0) (m := (rungs k 10).length) (rungs_32 hk 10) (rdR (by repeat (first | exact .head _ | apply List.Mem.tail))) (by rw [rungs_length]; omega) rfl) <| d_y (y_ldk (a := x17.1) (ks := rungs k 10) (i := 0) (rungs_32 hk 10) (by rw [rungs_length]; omega) (rdR (by repeat (first | exact .head _ | apply List.Mem.tail)))) <| ?_
  refine d_y (y_lda (b := b3) (cs := (bs k).toArray) (hl := (hz32 hk))) <| d_nf (y_neqa (p := (rungs k 10).getD 0 []) (q := k) ((rungs_32 hk 10).get (by rw [rungs_length]; omega)) hk hgk) rfl <| d_y y_pk <| d_nil <| q_then <| c_f <| c_skip <| q_then <| c_seq <| c_reg <| s_y y_mv <| s_y (y_rem8 (p := y1) (q := 10)) <| s_y y_cvb <| ?_
  rw [hi]
  refine s_y y_mv <| s_y (y_rem8 (p := y2) (q := 10)) <| s_y y_cvb <| ?_
  rw [hj]
  refine s_y y_as <| s_y y_as <| s_nil <| q_then <| c_seq <| c_seq <| c_reg <| s_y y_mv <| s_y y_mv <| s_kf (y_gtr (p := (i : Int)) (q := (i : Int))) (by omega) <| s_nil <| q_then <| c_f <| c_skip <| q_then <| c_seq <| c_reg <| s_y y_mv <| s_y y_mv <| s_y (y_ixk (a := x17.1) (ks := rungs k 10) (i := i) (m := (rungs k 10).length) (rungs_32 hk 10) (rdR (by repeat (first | exact .head _ | apply List.Mem.tail))) (by rw [rungs_length]; omega) rfl) <| s_y (y_ldk (a := x17.1) (ks := rungs k 10) (i := i) (rungs_32 hk 10) (by rw [rungs_length]; omega) (rdR (by repeat (first | exact .head _ | apply List.Mem.tail)))) <| ?_
  rw [rungs_get k (show i < 10 by omega)]
  refine s_y y_mv <| s_gives (fun w' hw => sch_Above_ok w' (pathN k i) (i : Int) (hg.st hw) (pathN_length hk i)) fun x45 _ => ?_
  rw [aboveL_nat (pathN k i) (show i < 10 by omega), aboveE_nat (show i < 10 by omega)]
  refine s_y y_mv <| s_y y_ext <| s_y y_ext <| s_y y_as <| s_y y_as <| s_nil <| q_then <| c_seq <| c_seq <| c_reg <| s_y y_mv <| s_nf (y_neq (p := 0) (q := 0)) (by omega) <| s_y y_mv <| s_y y_mv <| s_y y_len <| s_y y_mv <| s_y y_len <| s_y y_mv <| s_y (y_sub (p := (rungs k 10).length) (q := (i : Int))) <| s_nf (y_neq (p := (rungs (pathN k i) (10 - i)).length) (q := ((rungs k 10).length) - (i : Int))) (by rw [rungs_length, rungs_length]; omega) <| s_y y_pk <| s_y y_mv <| s_y y_mv <| s_y y_mv <| s_y y_mv <| s_y (y_sll (a := x17.1) (m := (rungs k 10).length) (c := x17.2) (i := (i : Nat))) <| ?_
  rw [Int.toNat_natCast, show (rungs k 10).length - i = (rungs (pathN k i) (10 - i)).length by rw [rungs_length, rungs_length]]
  refine s_pure (fun w' hw => ref22_Same_ok w' x45.1 (sa x17.1 i x17.2 32) x45.2 (x17.2 - i) (rungs (pathN k i) (10 - i)) (rungs (pathN k i) (10 - i)) (rdR (.head _) w' hw) (by have h9 := rd_sak (hw.own _ (.tail _ (.head _))).1 (rungs_32 hk 10) rfl i; rw [rungs_drop] at h9; exact h9) (rungs_32 (pathN_length hk i) _) (rungs_32 (pathN_length hk i) _) (by first | exact aboveL_le _ _ | (simp only [rungs_length]; omega))) <| ?_
  rw [decide_eq_true (show rungs (pathN k i) (10 - i) = rungs (pathN k i) (10 - i) from rfl)]
  refine s_y (v := .bool false) (y_not (b := true)) <| s_y y_pk <| s_nil <| q_then <| c_f <| c_skip <| q_then <| c_seq <| c_reg <| s_y y_mv <| s_y y_mv <| s_y y_mv <| s_y (y_sub (p := (i : Int)) (q := (i : Int))) <| ?_
  rw [show (i : Int) - (i : Int) = ((i - i : Nat) : Int) by omega]
  refine s_y (y_ixk (a := x45.1) (ks := rungs (pathN k i) (10 - i)) (i := (i - i)) (m := (rungs (pathN k i) (10 - i)).length) (rungs_32 (pathN_length hk i) _) (rdR (by repeat (first | exact .head _ | apply List.Mem.tail))) (by rw [rungs_length]; omega) rfl) <| s_y (y_ldk (a := x45.1) (ks := rungs (pathN k i) (10 - i)) (i := (i - i)) (rungs_32 (pathN_length hk i) _) (by rw [rungs_length]; omega) (rdR (by repeat (first | exact .head _ | apply List.Mem.tail)))) <| ?_
  rw [rungs_get (pathN k i) (show i - i < 10 - i by omega), pathN_add, show i + (i - i) = i by omega]
  refine s_y y_mv <| s_gives (fun w' hw => sch_Above_ok w' (pathN k i) (i : Int) (hg.st hw) (pathN_length hk i)) fun x75 _ => ?_
  rw [aboveL_nat (pathN k i) (show i < 10 by omega), aboveE_nat (show i < 10 by omega)]
  refine s_y y_mv <| s_y y_ext <| s_y y_ext <| s_y y_as <| s_y y_as <| s_nil <| q_then <| c_seq <| c_regd <| d_y y_mv <| d_kt (y_eql (p := 0) (q := 0)) (by omega) <| d_y y_mv <| d_y y_mv <| d_y y_mv <| d_y y_mv <| d_y (y_sll (a := x17.1) (m := (rungs k 10).length) (c := x17.2) (i := (i : Nat))) <| ?_
  rw [Int.toNat_natCast, show (rungs k 10).length - i = (rungs (pathN k i) (10 - i)).length by rw [rungs_length, rungs_length]]
  refine d_pure (fun w' hw => ref22_Same_ok w' x75.1 (sa x17.1 i x17.2 32) x75.2 (x17.2 - i) (rungs (pathN k i) (10 - i)) (rungs (pathN k i) (10 - i)) (rdR (.head _) w' hw) (by have h9 := rd_sak (hw.own _ (.tail _ (.tail _ (.head _)))).1 (rungs_32 hk 10) rfl i; rw [rungs_drop] at h9; exact h9) (rungs_32 (pathN_length hk i) _) (rungs_32 (pathN_length hk i) _) (by first | exact aboveL_le _ _ | (simp only [rungs_length]; omega))) <| ?_
  rw [decide_eq_true (show rungs (pathN k i) (10 - i) = rungs (pathN k i) (10 - i) from rfl)]
  refine d_y y_pk <| d_y y_mv <| d_y y_mv <| d_y y_mv <| d_kt (y_eql (p := (i : Int)) (q := (i : Int))) (by omega) <| d_y y_mv <| d_no <| d_no <| d_no <| d_no <| d_no <| d_no <| d_no <| d_no <| d_no <| d_y y_pk <| d_y y_pk <| d_y y_as <| d_nil <| q_then <| c_ret <| ?_
  exact ret1 Tryd.results4 rv_t fun w' hw => ⟨rfl, hw.sub (List.nil_sublist _)⟩

theorem law_Above_gt (w : World) (k : List UInt8) (y1 y2 : UInt8) (i j : Nat) (hg : LS2 w) (hk : k.length = 32) (hi : (y1 % 10).toNat = i) (hj : (y2 % 10).toNat = j) (hi10 : i < 10) (hj10 : j < 10) (hij : j < i) : Pure Tryd.prog 4 [.agg (bs k).toArray, B y1, B y2] w (.bool true) := by
  have hl10 := rungs_length k 10
  refine enter Tryd.func4 Tryd.ntmps4 ?_
  refine c_seq <| c_reg <| s_box rfl fun b3 => s_y y_as <| s_nil <| q_then <| c_seq <| c_seq <| c_reg <| s_pure (fun w' hw => sane22_ok w' (hg.st hw)) <| s_y (v := .bool false) (y_not (b := true)) <| s_nil <| q_then <| c_f <| c_skip <| q_then <| c_seq <| c_reg <| s_y (y_lda (b := b3) (cs := (bs k).toArray) (hl := (hz32 hk))) <| s_gives (fun w' hw => sch_Ladder_ok w' k (hg.st hw) hk) fun x17 _ => s_y y_as <| s_nil <| q_then <| c_seq <| c_seq <| c_regd <| d_y y_mv <| d_y y_len <| d_nf (y_neq (p := (rungs k 10).length) (q := 10)) (by rw [rungs_length]; rfl) <| d_y y_mv <| d_y y_mv <| d_y (y_ixk (a := x17.1) (ks := rungs k 10) (i := 0) (m := (rungs k 10).length) (rungs_32 hk 10) (rdR (by repeat (first | exact .head _ | apply List.Mem.tail))) (by rw [rungs_length]; omega) rfl) <| d_y (y_ldk (a := x17.1) (ks := rungs k 10) (i := 0) (rungs_32 hk 10) (by rw [rungs_length]; omega) (rdR (by repeat (first | exact .head _ | apply List.Mem.tail)))) <| ?_
  refine d_y (y_lda (b := b3) (cs := (bs k).toArray) (hl := (hz32 hk))) <| d_nf (y_neqa (p := (rungs k 10).getD 0 []) (q := k) ((rungs_32 hk 10).get (by rw [rungs_length]; omega)) hk hgk) rfl <| d_y y_pk <| d_nil <| q_then <| c_f <| c_skip <| q_then <| c_seq <| c_reg <| s_y y_mv <| s_y (y_rem8 (p := y1) (q := 10)) <| s_y y_cvb <| ?_
  rw [hi]
  refine s_y y_mv <| s_y (y_rem8 (p := y2) (q := 10)) <| s_y y_cvb <| ?_
  rw [hj]
  refine s_y y_as <| s_y y_as <| s_nil <| q_then <| c_seq <| c_seq <| c_reg <| s_y y_mv <| s_y y_mv <| s_kt (y_gtr (p := (i : Int)) (q := (j : Int))) (by omega) <| s_nil <| q_then <| c_t <| c_reg <| s_y y_mv <| s_y y_mv <| s_y y_as <| s_y y_as <| s_nil <| q_then <| c_seq <| c_reg <| s_y y_mv <| s_y y_mv <| s_y (y_ixk (a := x17.1) (ks := rungs k 10) (i := j) (m := (rungs k 10).length) (rungs_32 hk 10) (rdR (by repeat (first | exact .head _ | apply List.Mem.tail))) (by rw [rungs_length]; omega) rfl) <| s_y (y_ldk (a := x17.1) (ks := rungs k 10) (i := j) (rungs_32 hk 10) (by rw [rungs_length]; omega) (rdR (by repeat (first | exact .head _ | apply List.Mem.tail)))) <| ?_
  rw [rungs_get k (show j < 10 by omega)]
  refine s_y y_mv <| s_gives (fun w' hw => sch_Above_ok w' (pathN k j) (j : Int) (hg.st hw) (pathN_length hk j)) fun x45 _ => ?_
  rw [aboveL_nat (pathN k j) (show j < 10 by omega), aboveE_nat (show j < 10 by omega)]
  refine s_y y_mv <| s_y y_ext <| s_y y_ext <| s_y y_as <| s_y y_as <| s_nil <| q_then <| c_seq <| c_seq <| c_reg <| s_y y_mv <| s_nf (y_neq (p := 0) (q := 0)) (by omega) <| s_y y_mv <| s_y y_mv <| s_y y_len <| s_y y_mv <| s_y y_len <| s_y y_mv <| s_y (y_sub (p := (rungs k 10).length) (q := (j : Int))) <| s_nf (y_neq (p := (rungs (pathN k j) (10 - j)).length) (q := ((rungs k 10).length) - (j : Int))) (by rw [rungs_length, rungs_length]; omega) <| s_y y_pk <| s_y y_mv <| s_y y_mv <| s_y y_mv <| s_y y_mv <| s_y (y_sll (a := x17.1) (m := (rungs k 10).length) (c := x17.2) (i := (j : Nat))) <| ?_
  rw [Int.toNat_natCast, show (rungs k 10).length - j = (rungs (pathN k j) (10 - j)).length by rw [rungs_length, rungs_length]]
  refine s_pure (fun w' hw => ref22_Same_ok w' x45.1 (sa x17.1 j x17.2 32) x45.2 (x17.2 - j) (rungs (pathN k j) (10 - j)) (rungs (pathN k j) (10 - j)) (rdR (.head _) w' hw) (by have h9 := rd_sak (hw.own _ (.tail _ (.head _))).1 (rungs_32 hk 10) rfl j; rw [rungs_drop] at h9; exact h9) (rungs_32 (pathN_length hk j) _) (rungs_32 (pathN_length hk j) _) (by first | exact aboveL_le _ _ | (simp only [rungs_length]; omega))) <| ?_
  rw [decide_eq_true (show rungs (pathN k j) (10 - j) = rungs (pathN k j) (10 - j) from rfl)]
  refine s_y (v := .bool false) (y_not (b := true)) <| s_y y_pk <| s_nil <| q_then <| c_f <| c_skip <| q_then <| c_seq <| c_reg <| s_y y_mv <| s_y y_mv <| s_y y_mv <| s_y (y_sub (p := (i : Int)) (q := (j : Int))) <| ?_
  rw [show (i : Int) - (j : Int) = ((i - j : Nat) : Int) by omega]
  refine s_y (y_ixk (a := x45.1) (ks := rungs (pathN k j) (10 - j)) (i := (i - j)) (m := (rungs (pathN k j) (10 - j)).length) (rungs_32 (pathN_length hk j) _) (rdR (by repeat (first | exact .head _ | apply List.Mem.tail))) (by rw [rungs_length]; omega) rfl) <| s_y (y_ldk (a := x45.1) (ks := rungs (pathN k j) (10 - j)) (i := (i - j)) (rungs_32 (pathN_length hk j) _) (by rw [rungs_length]; omega) (rdR (by repeat (first | exact .head _ | apply List.Mem.tail)))) <| ?_
  rw [rungs_get (pathN k j) (show i - j < 10 - j by omega), pathN_add, show j + (i - j) = i by omega]
  refine s_y y_mv <| s_gives (fun w' hw => sch_Above_ok w' (pathN k i) (i : Int) (hg.st hw) (pathN_length hk i)) fun x75 _ => ?_
  rw [aboveL_nat (pathN k i) (show i < 10 by omega), aboveE_nat (show i < 10 by omega)]
  refine s_y y_mv <| s_y y_ext <| s_y y_ext <| s_y y_as <| s_y y_as <| s_nil <| q_then <| c_seq <| c_regd <| d_y y_mv <| d_kt (y_eql (p := 0) (q := 0)) (by omega) <| d_y y_mv <| d_y y_mv <| d_y y_mv <| d_y y_mv <| d_y (y_sll (a := x17.1) (m := (rungs k 10).length) (c := x17.2) (i := (i : Nat))) <| ?_
  rw [Int.toNat_natCast, show (rungs k 10).length - i = (rungs (pathN k i) (10 - i)).length by rw [rungs_length, rungs_length]]
  refine d_pure (fun w' hw => ref22_Same_ok w' x75.1 (sa x17.1 i x17.2 32) x75.2 (x17.2 - i) (rungs (pathN k i) (10 - i)) (rungs (pathN k i) (10 - i)) (rdR (.head _) w' hw) (by have h9 := rd_sak (hw.own _ (.tail _ (.tail _ (.head _)))).1 (rungs_32 hk 10) rfl i; rw [rungs_drop] at h9; exact h9) (rungs_32 (pathN_length hk i) _) (rungs_32 (pathN_length hk i) _) (by first | exact aboveL_le _ _ | (simp only [rungs_length]; omega))) <| ?_
  rw [decide_eq_true (show rungs (pathN k i) (10 - i) = rungs (pathN k i) (10 - i) from rfl)]
  refine d_y y_pk <| d_y y_mv <| d_y y_mv <| d_y y_mv <| d_kf (y_eql (p := (i : Int)) (q := (j : Int))) (by omega) <| d_y y_mv <| d_y y_mv <| d_y (y_ixk (a := x45.1) (ks := rungs (pathN k j) (10 - j)) (i := 1) (m := (rungs (pathN k j) (10 - j)).length) (rungs_32 (pathN_length hk j) _) (rdR (by repeat (first | exact .head _ | apply List.Mem.tail))) (by rw [rungs_length]; omega) rfl) <| d_y (y_ldk (a := x45.1) (ks := rungs (pathN k j) (10 - j)) (i := 1) (rungs_32 (pathN_length hk j) _) (by rw [rungs_length]; omega) (rdR (by repeat (first | exact .head _ | apply List.Mem.tail)))) <| ?_
  rw [rungs_get (pathN k j) (show 1 < 10 - j by omega)]
  refine d_y y_mv <| d_y y_mv <| d_y (y_ixk (a := x17.1) (ks := rungs k 10) (i := j) (m := (rungs k 10).length) (rungs_32 hk 10) (rdR (by repeat (first | exact .head _ | apply List.Mem.tail))) (by rw [rungs_length]; omega) rfl) <| d_y (y_ldk (a := x17.1) (ks := rungs k 10) (i := j) (rungs_32 hk 10) (by rw [rungs_length]; omega) (rdR (by repeat (first | exact .head _ | apply List.Mem.tail)))) <| ?_
  rw [rungs_get k (show j < 10 by omega)]
  refine d_pure (fun w' hw => derive_Expand_ok w' (pathN k j) lbPath none 0 [] (hg.1.st hw) (pathN_length hk j) (Rd.nil _ _) (by simp) (by decide) (by simp)) <| d_kt (y_eqla (p := pathN (pathN k j) 1) (q := expand (pathN k j) lbPath []) (pathN_length (pathN_length hk j) 1) (expand_length _ _ _) hgk) rfl <| d_y y_pk <| d_y y_pk <| d_y y_as <| d_nil <| q_then <| c_ret <| ?_
  exact ret1 Tryd.results4 rv_t fun w' hw => ⟨rfl, hw.sub (List.nil_sublist _)⟩

theorem law_ScheduleAbove_ok (w : World) (k : List UInt8) (y1 y2 : UInt8) (hg : LS2 w) (hk : k.length = 32) : Pure Tryd.prog 4 [.agg (bs k).toArray, B y1, B y2] w (.bool true) := by
  have h1 : (y1 % 10).toNat < 10 := by rw [UInt8.toNat_mod]; exact Nat.mod_lt _ (by decide)
  have h2 : (y2 % 10).toNat < 10 := by rw [UInt8.toNat_mod]; exact Nat.mod_lt _ (by decide)
  rcases Nat.lt_trichotomy (y1 % 10).toNat (y2 % 10).toNat with h | h | h
  · exact law_Above_lt w k y1 y2 _ _ hg hk rfl rfl h1 h2 h
  · exact law_Above_eq w k y1 y2 _ hg hk rfl h.symm h1
  · exact law_Above_gt w k y1 y2 _ _ hg hk rfl rfl h1 h2 h
end Go.Proofs.YtmpjmjllfldjdaaDoor
