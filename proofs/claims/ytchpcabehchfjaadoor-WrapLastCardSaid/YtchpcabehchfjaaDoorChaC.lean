/- The cipher: blocks of the reference; bytes cloned; slices in chunks. -/
import Derived.Test.YtchpcabehchfjaaDoorChaB
import Derived.Test.YtchpcabehchfjaaDoorBufX
import Derived.Test.YtchpcabehchfjaaDoorPowX
namespace Eng
open Go Go.RowKit
section
variable {P : Program} {n : Nat} {D : List Deferred} {W : World} {Bo : List Nat} {F : List (Nat × Value)} {l : SH}
  {d : Option Tmp} {ty : TypeId} {ps : String} {af : Array Edge} {g : Option (Nat × Bool)} {x y : Operand} {ta tb : TypeId}
theorem y_min {p q : Int} (hx : evO F x = some (I p) := by rfl) (hy : evO F y = some (I q) := by rfl) : Y P n D W Bo ⟨d, .call ⟨.builtin .min, #[x, y], #[ta, tb]⟩, ty, ps, af, g⟩ F l (I (min p q)) :=
  y_b (vs := [I p, I q]) (by simp [evL, hx, hy]) fun w _ cs => by
    by_cases h : q < p
    · simp [builtin, Builtin.min_, Builtin.min2, h, Int.min_eq_right (Int.le_of_lt h)]
    · simp [builtin, Builtin.min_, Builtin.min2, h, Int.min_eq_left (Int.not_lt.1 h)]
end
end Eng
namespace Go.Proofs.YtchpcabehchfjaaDoor
open Go Eng Sha Cha
set_option maxRecDepth 100000
theorem r6_block_ok (w : World) (k n : List UInt8) (c : Nat) (hk : k.length = 32) (hn : n.length = 12) :
    Gives Tryd.prog 69 [.agg (bs k).toArray, .agg (bs n).toArray, I c] w [] (fun y : Option Addr × Nat => .slice y.1 64 y.2) (fun y => [.row y.1 y.2 5 1 64 (bs (blk k n (UInt32.ofNat c)))]) (fun _ => True) := by
  have hl := first_length k n (UInt32.ofNat c)
  have hblk : blk k n (UInt32.ofNat c) = outU (rndU (first k n (UInt32.ofNat c)) 10) (first k n (UInt32.ofNat c)) 16 := rfl
  refine enter Tryd.func69 Tryd.ntmps69 ?_
  refine c_seq <| c_reg <| s_box rfl fun b3 => s_box rfl fun b4 => s_y y_as <| s_nil <| q_then <| c_seq <| c_reg <| s_y (y_blda (cs := ws (cst ++ ws4 k 0 ++ List.replicate 12 0))) <| s_alloc fun b7 => s_sta (b := b7) (vs := (ws (cst ++ ws4 k 0 ++ List.replicate 12 0)).toArray) (cs := (ws (List.replicate 16 0)).toArray) (h1 := fun u hu => ws_one (by simpa using hu)) (hl := rfl) (hs1 := hzw (m := 16) rfl) ?_
  refine s_nil <| q_then <| c_seq <| c_seq <| c_reg <| s_y y_as <| s_nil <| q_then <| c_block <| ?_
  refine c_loop (fun i : Nat => [(2, I c), (3, .pointer (some ⟨b3, 0, none⟩)), (4, .pointer (some ⟨b4, 0, none⟩)), (7, .pointer (some ⟨b7, 0, none⟩)), (8, I i)]) (fun i => [.blk b7 (.cells (ws (cst ++ ws4 k i ++ List.replicate (12 - i) 0)).toArray 124 (0, 0)), .blk b4 (.cells (bs n).toArray 45 (0, 0)), .blk b3 (.cells (bs k).toArray 32 (0, 0))]) (fun i => i ≤ 8) (fun i => 8 - i) 0 (by omega) ⟨rfl, rfl, rfl, rfl, rfl, trivial⟩ (.refl _) ?_
  intro i hi
  by_cases h8 : i < 8
  · have hA : (cst ++ ws4 k i).length = 4 + i := by rw [List.length_append, ws4_length]; rfl
    have hs := set_next (cst ++ ws4 k i) (11 - i) (4 + i) (wle k (4 * i)) hA
    rw [show 11 - i + 1 = 12 - i by omega, show cst ++ ws4 k i ++ [wle k (4 * i)] = cst ++ ws4 k (i + 1) by rw [ws4_succ, List.append_assoc]] at hs
    refine c_seq <| c_seq <| c_reg <| s_y y_mv <| s_kt (y_lss (p := ((i : Nat) : Int)) (q := 8)) (by omega) <| s_nil <| q_then <| c_t <| c_skip <| q_then <| c_seq <| c_block <| c_reg <| s_y y_mv <| s_y (y_add (p := 4) (q := ((i : Nat) : Int))) <| s_y y_mv <| s_y (y_mul (p := 4) (q := ((i : Nat) : Int))) <| s_y y_mv <| s_y (y_mul (p := 4) (q := ((i : Nat) : Int))) <| s_y (y_add (p := 4 * ((i : Nat) : Int)) (q := 4)) <| s_y (y_slalh (i := 4 * ((i : Nat) : Int)) (j := 4 * ((i : Nat) : Int) + 4)) <| ?_
    rw [show 0 + (4 * ((i : Nat) : Int)).toNat * 1 = 4 * i by omega, show (4 * ((i : Nat) : Int) + 4).toNat - (4 * ((i : Nat) : Int)).toNat = 4 by omega, show (4 * ((i : Nat) : Int)).toNat = 4 * i by omega]
    refine s_pure (fun w' hw => by
      have h9 := r6_word_ok w' (some ⟨b3, 4 * i, none⟩) 4 (32 - 4 * i) (k.drop (4 * i)) (rd_drop (.tail _ (.tail _ (.head _))) w' hw) (by omega) (by rw [List.length_drop]; omega)
      rw [wle_drop] at h9
      exact h9) <| s_y (y_ixn (4 + i) (m := 16)) <| s_stw (?_) (hl := by simp only [List.length_append, ws4_length, List.length_replicate, show cst.length = 4 from rfl]; omega)
    rw [hs]
    refine s_nil <| q_nb <| q_then <| c_reg <| s_y y_mv <| s_y (y_add (p := ((i : Nat) : Int)) (q := 1)) <| s_y y_as <| s_nil <| ?_
    rw [show ((i : Nat) : Int) + 1 = ((i + 1 : Nat) : Int) by omega, show 11 - i = 12 - (i + 1) by omega]
    exact q_round (i + 1) (by omega) (by omega) ⟨rfl, rfl, rfl, rfl, rfl, trivial⟩ (.refl _)
  obtain rfl : i = 8 := by omega
  have hs12 : (cst ++ ws4 k 8 ++ List.replicate (12 - 8) (0 : UInt32)).set 12 (UInt32.ofNat c) = cst ++ ws4 k 8 ++ [UInt32.ofNat c] ++ ws4 n 0 ++ List.replicate 3 0 := by
    rw [show ws4 n 0 = [] from rfl, List.append_nil]
    exact set_next (cst ++ ws4 k 8) 3 12 (UInt32.ofNat c) (by rw [List.length_append, ws4_length]; rfl)
  refine c_seq <| c_seq <| c_reg <| s_y y_mv <| s_kf (y_lss (p := ((8 : Nat) : Int)) (q := 8)) (by omega) <| s_nil <| q_then <| c_f <| c_exit <| q_ex <| q_ex <| q_exb <| q_then <| c_seq <| c_reg <| s_y y_mv <| s_y y_cvi32 <| s_y (y_ixn 12 (m := 16)) <| s_stw (?_) (hl := by simp only [List.length_append, ws4_length, List.length_replicate]; decide)
  rw [hs12]
  obtain ⟨C, hC⟩ : ∃ C, UInt32.ofNat c = C := ⟨_, rfl⟩
  rw [hC] at hl hblk ⊢
  refine s_nil <| q_then <| c_seq <| c_seq <| c_reg <| s_y y_as <| s_nil <| q_then <| c_block <| ?_
  refine c_loop (fun i : Nat => [(4, .pointer (some ⟨b4, 0, none⟩)), (7, .pointer (some ⟨b7, 0, none⟩)), (9, I i)]) (fun i => [.blk b7 (.cells (ws (cst ++ ws4 k 8 ++ [C] ++ ws4 n i ++ List.replicate (3 - i) 0)).toArray 124 (0, 0)), .blk b4 (.cells (bs n).toArray 45 (0, 0))]) (fun i => i ≤ 3) (fun i => 3 - i) 0 (by omega) ⟨rfl, rfl, rfl, trivial⟩ (.cons_cons _ (.cons_cons _ (List.nil_sublist _))) ?_
  intro i hi
  by_cases h3 : i < 3
  · have hA : (cst ++ ws4 k 8 ++ [C] ++ ws4 n i).length = 13 + i := by simp only [List.length_append, ws4_length]; rw [show cst.length + 8 + [C].length = 13 from rfl]
    have hs := set_next (cst ++ ws4 k 8 ++ [C] ++ ws4 n i) (2 - i) (13 + i) (wle n (4 * i)) hA
    rw [show 2 - i + 1 = 3 - i by omega, show cst ++ ws4 k 8 ++ [C] ++ ws4 n i ++ [wle n (4 * i)] = cst ++ ws4 k 8 ++ [C] ++ ws4 n (i + 1) by rw [ws4_succ n i, List.append_assoc (cst ++ ws4 k 8 ++ [C])]] at hs
    refine c_seq <| c_seq <| c_reg <| s_y y_mv <| s_kt (y_lss (p := ((i : Nat) : Int)) (q := 3)) (by omega) <| s_nil <| q_then <| c_t <| c_skip <| q_then <| c_seq <| c_block <| c_reg <| s_y y_mv <| s_y (y_add (p := 13) (q := ((i : Nat) : Int))) <| s_y y_mv <| s_y (y_mul (p := 4) (q := ((i : Nat) : Int))) <| s_y y_mv <| s_y (y_mul (p := 4) (q := ((i : Nat) : Int))) <| s_y (y_add (p := 4 * ((i : Nat) : Int)) (q := 4)) <| s_y (y_slalh (i := 4 * ((i : Nat) : Int)) (j := 4 * ((i : Nat) : Int) + 4)) <| ?_
    rw [show 0 + (4 * ((i : Nat) : Int)).toNat * 1 = 4 * i by omega, show (4 * ((i : Nat) : Int) + 4).toNat - (4 * ((i : Nat) : Int)).toNat = 4 by omega, show (4 * ((i : Nat) : Int)).toNat = 4 * i by omega]
    refine s_pure (fun w' hw => by
      have h9 := r6_word_ok w' (some ⟨b4, 4 * i, none⟩) 4 (12 - 4 * i) (n.drop (4 * i)) (rd_drop (.tail _ (.head _)) w' hw) (by omega) (by rw [List.length_drop]; omega)
      rw [wle_drop] at h9
      exact h9) <| s_y (y_ixn (13 + i) (m := 16)) <| s_stw (?_) (hl := by rw [List.length_append, hA, List.length_replicate]; omega)
    rw [hs]
    refine s_nil <| q_nb <| q_then <| c_reg <| s_y y_mv <| s_y (y_add (p := ((i : Nat) : Int)) (q := 1)) <| s_y y_as <| s_nil <| ?_
    rw [show ((i : Nat) : Int) + 1 = ((i + 1 : Nat) : Int) by omega, show 2 - i = 3 - (i + 1) by omega]
    exact q_round (i + 1) (by omega) (by omega) ⟨rfl, rfl, rfl, trivial⟩ (.refl _)
  obtain rfl : i = 3 := by omega
  rw [show cst ++ ws4 k 8 ++ [C] ++ ws4 n 3 ++ List.replicate (3 - 3) 0 = first k n C by rw [Nat.sub_self, List.replicate_zero, List.append_nil]; rfl]
  obtain ⟨S, hS⟩ : ∃ S, first k n C = S := ⟨_, rfl⟩
  rw [hS] at hl hblk ⊢
  have hR : ∀ r, (rndU S r).length = 16 := fun r => by rw [rndU_length]; exact hl
  refine c_seq <| c_seq <| c_reg <| s_y y_mv <| s_kf (y_lss (p := ((3 : Nat) : Int)) (q := 3)) (by omega) <| s_nil <| q_then <| c_f <| c_exit <| q_ex <| q_ex <| q_exb <| q_then <| c_seq <| c_reg <| s_y (y_lda (b := b7) (cs := (ws S).toArray) (hl := hzw hl)) <| s_alloc fun b10 => s_sta (b := b10) (vs := (ws S).toArray) (cs := (ws (List.replicate 16 0)).toArray) (h1 := fun u hu => ws_one (by simpa using hu)) (hl := by rw [hzw hl]; rfl) (hs1 := hzw hl) ?_
  refine s_nil <| q_then <| c_seq <| c_seq <| c_reg <| s_y y_as <| s_nil <| q_then <| c_block <| ?_
  refine c_loop (fun i : Nat => [(7, .pointer (some ⟨b7, 0, none⟩)), (10, .pointer (some ⟨b10, 0, none⟩)), (11, I i)]) (fun i => [.blk b10 (.cells (ws (rndU S i)).toArray 124 (0, 0)), .blk b7 (.cells (ws S).toArray 124 (0, 0))]) (fun i => i ≤ 10) (fun i => 10 - i) 0 (by omega) ⟨rfl, rfl, rfl, trivial⟩ (.cons_cons _ (.cons_cons _ (List.nil_sublist _))) ?_
  intro r hr
  by_cases h10 : r < 10
  · have hVl := hR r
    have hnx : dgU (colU (rndU S r) 4) 4 = rndU S (r + 1) := rfl
    obtain ⟨V, hV⟩ : ∃ V, rndU S r = V := ⟨_, rfl⟩
    rw [hV] at hVl hnx ⊢
    refine c_seq <| c_seq <| c_reg <| s_y y_mv <| s_kt (y_lss (p := ((r : Nat) : Int)) (q := 10)) (by omega) <| s_nil <| q_then <| c_t <| c_skip <| q_then <| c_seq <| c_block <| c_seq <| c_seq <| c_reg <| s_y y_as <| s_nil <| q_then <| c_block <| ?_
    refine c_loop (fun i : Nat => [(7, .pointer (some ⟨b7, 0, none⟩)), (10, .pointer (some ⟨b10, 0, none⟩)), (11, I r), (12, I i)]) (fun i => [.blk b10 (.cells (ws (colU V i)).toArray 124 (0, 0)), .blk b7 (.cells (ws S).toArray 124 (0, 0))]) (fun i => i ≤ 4) (fun i => 4 - i) 0 (by omega) ⟨rfl, rfl, rfl, rfl, trivial⟩ (.refl _) ?_
    intro i hi
    by_cases h4 : i < 4
    · have hCl : (colU V i).length = 16 := by rw [colU_length]; exact hVl
      have hCl' : (colU V (i + 1)).length = 16 := by rw [colU_length]; exact hVl
      refine c_seq <| c_seq <| c_reg <| s_y y_mv <| s_kt (y_lss (p := ((i : Nat) : Int)) (q := 4)) (by omega) <| s_nil <| q_then <| c_t <| c_skip <| q_then <| c_seq <| c_block <| c_reg <| s_y (y_lda (b := b10) (cs := (ws (colU V i)).toArray) (hl := hzw hCl)) <| s_y y_mv <| s_y y_mv <| s_y (y_add (p := 4) (q := ((i : Nat) : Int))) <| s_y y_mv <| s_y (y_add (p := 8) (q := ((i : Nat) : Int))) <| s_y y_mv <| s_y (y_add (p := 12) (q := ((i : Nat) : Int))) <| s_pure (v := .agg (ws (colU V (i + 1))).toArray) (fun w' hw => (by
        have h9 := r6_mix_ok w' (colU V i) i (4 + i) (8 + i) (12 + i) hCl (by omega) (by omega) (by omega) (by omega)
        rw [show ((4 + i : Nat) : Int) = 4 + ((i : Nat) : Int) by omega, show ((8 + i : Nat) : Int) = 8 + ((i : Nat) : Int) by omega, show ((12 + i : Nat) : Int) = 12 + ((i : Nat) : Int) by omega] at h9
        exact h9)) <| s_sta (b := b10) (vs := (ws (colU V (i + 1))).toArray) (cs := (ws (colU V i)).toArray) (h1 := fun u hu => ws_one (by simpa using hu)) (hl := by rw [hzw hCl, hzw hCl']) (hs1 := hzw hCl') ?_
      refine s_nil <| q_nb <| q_then <| c_reg <| s_y y_mv <| s_y (y_add (p := ((i : Nat) : Int)) (q := 1)) <| s_y y_as <| s_nil <| ?_
      rw [show ((i : Nat) : Int) + 1 = ((i + 1 : Nat) : Int) by omega]
      exact q_round (i + 1) (by omega) (by omega) ⟨rfl, rfl, rfl, rfl, trivial⟩ (.refl _)
    obtain rfl : i = 4 := by omega
    have hUl : (colU V 4).length = 16 := by rw [colU_length]; exact hVl
    obtain ⟨U', hU⟩ : ∃ U', colU V 4 = U' := ⟨_, rfl⟩
    rw [hU] at hUl hnx ⊢
    refine c_seq <| c_seq <| c_reg <| s_y y_mv <| s_kf (y_lss (p := ((4 : Nat) : Int)) (q := 4)) (by omega) <| s_nil <| q_then <| c_f <| c_exit <| q_ex <| q_ex <| q_exb <| q_then <| c_seq <| c_reg <| s_y y_as <| s_nil <| q_then <| c_block <| ?_
    refine c_loop (fun i : Nat => [(7, .pointer (some ⟨b7, 0, none⟩)), (10, .pointer (some ⟨b10, 0, none⟩)), (11, I r), (13, I i)]) (fun i => [.blk b10 (.cells (ws (dgU U' i)).toArray 124 (0, 0)), .blk b7 (.cells (ws S).toArray 124 (0, 0))]) (fun i => i ≤ 4) (fun i => 4 - i) 0 (by omega) ⟨rfl, rfl, rfl, rfl, trivial⟩ (.refl _) ?_
    intro i hi
    by_cases h4 : i < 4
    · have hCl : (dgU U' i).length = 16 := by rw [dgU_length]; exact hUl
      have hCl' : (dgU U' (i + 1)).length = 16 := by rw [dgU_length]; exact hUl
      refine c_seq <| c_seq <| c_reg <| s_y y_mv <| s_kt (y_lss (p := ((i : Nat) : Int)) (q := 4)) (by omega) <| s_nil <| q_then <| c_t <| c_skip <| q_then <| c_seq <| c_block <| c_reg <| s_y (y_lda (b := b10) (cs := (ws (dgU U' i)).toArray) (hl := hzw hCl)) <| s_y y_mv <| s_y y_mv <| s_y (y_add (p := ((i : Nat) : Int)) (q := 1)) <| s_y (y_rem (p := ((i : Nat) : Int) + 1) (q := 4)) <| s_y (y_add (p := 4) (q := (((i : Nat) : Int) + 1) % 4)) <| s_y y_mv <| s_y (y_add (p := ((i : Nat) : Int)) (q := 2)) <| s_y (y_rem (p := ((i : Nat) : Int) + 2) (q := 4)) <| s_y (y_add (p := 8) (q := (((i : Nat) : Int) + 2) % 4)) <| s_y y_mv <| s_y (y_add (p := ((i : Nat) : Int)) (q := 3)) <| s_y (y_rem (p := ((i : Nat) : Int) + 3) (q := 4)) <| s_y (y_add (p := 12) (q := (((i : Nat) : Int) + 3) % 4)) <| s_pure (v := .agg (ws (dgU U' (i + 1))).toArray) (fun w' hw => (by
        have h9 := r6_mix_ok w' (dgU U' i) i (4 + (i + 1) % 4) (8 + (i + 2) % 4) (12 + (i + 3) % 4) hCl (by omega) (by omega) (by omega) (by omega)
        rw [show ((4 + (i + 1) % 4 : Nat) : Int) = 4 + (((i : Nat) : Int) + 1) % 4 by omega, show ((8 + (i + 2) % 4 : Nat) : Int) = 8 + (((i : Nat) : Int) + 2) % 4 by omega, show ((12 + (i + 3) % 4 : Nat) : Int) = 12 + (((i : Nat) : Int) + 3) % 4 by omega] at h9
        exact h9)) <| s_sta (b := b10) (vs := (ws (dgU U' (i + 1))).toArray) (cs := (ws (dgU U' i)).toArray) (h1 := fun u hu => ws_one (by simpa using hu)) (hl := by rw [hzw hCl, hzw hCl']) (hs1 := hzw hCl') ?_
      refine s_nil <| q_nb <| q_then <| c_reg <| s_y y_mv <| s_y (y_add (p := ((i : Nat) : Int)) (q := 1)) <| s_y y_as <| s_nil <| ?_
      rw [show ((i : Nat) : Int) + 1 = ((i + 1 : Nat) : Int) by omega]
      exact q_round (i + 1) (by omega) (by omega) ⟨rfl, rfl, rfl, rfl, trivial⟩ (.refl _)
    obtain rfl : i = 4 := by omega
    rw [hnx]
    refine c_seq <| c_seq <| c_reg <| s_y y_mv <| s_kf (y_lss (p := ((4 : Nat) : Int)) (q := 4)) (by omega) <| s_nil <| q_then <| c_f <| c_exit <| q_ex <| q_ex <| q_exb <| q_nb <| q_then <| c_reg <| s_y y_mv <| s_y (y_add (p := ((r : Nat) : Int)) (q := 1)) <| s_y y_as <| s_nil <| ?_
    rw [show ((r : Nat) : Int) + 1 = ((r + 1 : Nat) : Int) by omega]
    exact q_round (r + 1) (by omega) (by omega) ⟨rfl, rfl, rfl, trivial⟩ (.refl _)
  obtain rfl : r = 10 := by omega
  have hVl := hR 10
  obtain ⟨V, hV⟩ : ∃ V, rndU S 10 = V := ⟨_, rfl⟩
  rw [hV] at hVl hblk ⊢
  refine c_seq <| c_seq <| c_reg <| s_y y_mv <| s_kf (y_lss (p := ((10 : Nat) : Int)) (q := 10)) (by omega) <| s_nil <| q_then <| c_f <| c_exit <| q_ex <| q_ex <| q_exb <| q_then <| c_seq <| c_reg <| s_bsl0 fun b14 => s_y y_as <| s_nil <| q_then <| c_seq <| c_seq <| c_reg <| s_y y_as <| s_nil <| q_then <| c_block <| ?_
  refine c_loop3 (fun (i : Nat) (a : Option Addr) (cc : Nat) => [(7, .pointer (some ⟨b7, 0, none⟩)), (10, .pointer (some ⟨b10, 0, none⟩)), (14, .slice a (4 * i) cc), (15, I i)]) (fun i a cc => [.row a cc 5 1 (4 * i) (bs (outU V S i)), .blk b10 (.cells (ws V).toArray 124 (0, 0)), .blk b7 (.cells (ws S).toArray 124 (0, 0))]) (fun i _ _ => i ≤ 16) (fun i _ _ => 16 - i) 0 (some ⟨b14, 0, none⟩) 0 (by omega) ⟨rfl, rfl, rfl, rfl, trivial⟩ (.refl _) ?_
  intro i a cc hi
  by_cases h16 : i < 16
  · have hsucc := outU_succ V S i
    refine c_seq <| c_seq <| c_reg <| s_y y_mv <| s_kt (y_lss (p := ((i : Nat) : Int)) (q := 16)) (by omega) <| s_nil <| q_then <| c_t <| c_skip <| q_then <| c_seq <| c_block <| c_seq <| c_regd <| d_y y_mv <| d_y (y_ixn i (m := 16)) <| d_y (y_ldwb (q := V) i (by omega)) <| d_y y_mv <| d_y (y_ixn i (m := 16)) <| d_y (y_ldwb (q := S) i (by omega)) <| d_y y_add32 <| d_y y_as <| d_nil <| q_then <| ?_
    obtain ⟨z, hz⟩ : ∃ z, V.getD i 0 + S.getD i 0 = z := ⟨_, rfl⟩
    rw [hz] at hsucc ⊢
    refine c_reg <| s_y y_mv <| s_y y_mv <| s_y y_cv8w <| s_y y_mv <| s_y y_shr32 <| s_y y_cv8w <| s_y y_mv <| s_y y_shr32 <| s_y y_cv8w <| s_y y_mv <| s_y y_shr32 <| s_y y_cv8w <| s_bslr (cs := bs (le4 z)) fun b110 => s_app (m := 4) (srcB (q := le4 z) (rdR (.head _)) rfl) (h1 := fun v hv => bs_one hv) (hm := .tail _ (.head _)) (hrep := fun _ _ => .tail _ (.head _)) fun a111 c111 h111 => ?_
    rw [← bs_append, ← hsucc, show 4 * i + 4 = 4 * (i + 1) by omega]
    refine s_y y_as <| s_nil <| q_nb <| q_then <| c_reg <| s_y y_mv <| s_y (y_add (p := ((i : Nat) : Int)) (q := 1)) <| s_y y_as <| s_nil <| ?_
    rw [show ((i : Nat) : Int) + 1 = ((i + 1 : Nat) : Int) by omega]
    exact q_round3 (x := i) (y := a) (z := cc) (i + 1) a111 c111 (by omega) (by omega) ⟨rfl, rfl, rfl, rfl, trivial⟩ (.cons _ (.refl _))
  obtain rfl : i = 16 := by omega
  rw [← hblk]
  refine c_seq <| c_seq <| c_reg <| s_y y_mv <| s_kf (y_lss (p := ((16 : Nat) : Int)) (q := 16)) (by omega) <| s_nil <| q_then <| c_f <| c_exit <| q_ex <| q_ex <| q_exb <| q_then <| c_seq <| c_reg <| s_y y_mv <| s_y y_as <| s_nil <| q_then <| c_ret <| ?_
  exact ret1 Tryd.results69 rv_t fun w' hw => ⟨(a, cc), trivial, rfl, hw.sub (.cons_cons _ (List.nil_sublist _))⟩
theorem Clone_ok (w : World) (a : Option Addr) (c : Nat) (q : List UInt8) (hr : Rd w a (bs q)) (hl : q.length < 1000000000) (hne : a ≠ none) :
    Gives Tryd.prog 61 [.slice a q.length c] w [] (fun y : Option Addr × Nat => .slice y.1 q.length y.2) (fun y => [.row y.1 y.2 5 1 q.length (bs q)]) (fun y => y.1 ≠ none) := by
  have hn : a.isNone = false := by cases a with
    | none => exact absurd rfl hne
    | some _ => rfl
  refine enter Tryd.func61 Tryd.ntmps61 ?_
  refine c_seq <| c_reg <| s_y y_as <| s_nil <| q_then <| c_seq <| c_seq <| c_reg <| s_y y_mv <| s_y y_eqln <| ?_
  rw [hn]
  refine s_nil <| q_then <| c_f <| c_skip <| q_then <| c_seq <| c_reg <| s_bsl0 fun b5 => s_y y_mv <| s_app (m := q.length) (srcB (q := q) (rdW0 hr) rfl) (h1 := fun v hv => bs_one hv) (hm := .head _) (hrep := fun _ _ => .head _) fun a7 c7 h7 => ?_
  rw [List.nil_append, Nat.zero_add]
  refine s_y y_as <| s_nil <| q_then <| c_ret <| ?_
  exact ret1 Tryd.results61 rv_t fun w' hw => ⟨(a7, c7), (fun h => by cases (h7 h).1), rfl, hw⟩
theorem Clone_nil (w : World) (n c : Nat) : Pure Tryd.prog 61 [.slice none n c] w (.slice none 0 0) := by
  refine enter Tryd.func61 Tryd.ntmps61 ?_
  refine c_seq <| c_reg <| s_y y_as <| s_nil <| q_then <| c_seq <| c_seq <| c_reg <| s_y y_mv <| s_y y_eqln <| s_nil <| q_then <| c_t <| c_seq <| c_reg <| s_y y_as <| s_nil <| q_then <| c_ret <| q_ret <| ?_
  exact ret1 Tryd.results61 rv_t fun w' hw => ⟨rfl, hw⟩
theorem Chunk_ok (w : World) (a : Option Addr) (n c : Nat) : Gives Tryd.prog 62 [.slice a n c, I 64] w [] (fun y : Nat × Nat => .func (.func 81) #[] #[.pointer (some ⟨y.1, 0, none⟩), .pointer (some ⟨y.2, 0, none⟩)]) (fun y => [.blk y.2 (.cells #[I 64] 3 (0, 0)), .blk y.1 (.cells #[.slice a n c] 22 (0, 0))]) (fun _ => True) := by
  refine enter Tryd.func62 Tryd.ntmps62 ?_
  refine c_seq <| c_reg <| s_box rfl fun b2 => s_box rfl fun b3 => s_y y_as <| s_nil <| q_then <| c_seq <| c_seq <| c_reg <| s_y (y_ld (b := b3) (v := I 64)) <| s_kf (y_lss (p := 64) (q := 1)) (by omega) <| s_nil <| q_then <| c_f <| c_skip <| q_then <| c_seq <| c_reg <| s_y y_func <| s_y y_as <| s_nil <| q_then <| c_ret <| ?_
  exact ret1 Tryd.results62 rv_t fun w' hw => ⟨(b2, b3), trivial, rfl, hw⟩
/-- the length of a chunk -/
def chl (n i : Nat) : Nat := min 64 (n - 64 * i)
theorem chunk1_ok (w' : World) (rc : Loop) (Lp b1 b2 : Nat) (pa : Option Addr) (n pc : Nat) (M : Nat → SH) (hs : ∀ p ∈ M 0, p.holds w') (hnd : (keys (M 0)).Nodup) (hpz : rc.params.size = 1)
    (hL : ∀ i, Res.blk Lp (.loop rc) ∈ M i) (h1 : ∀ i, Res.blk b1 (.cells #[.slice pa n pc] 22 (0, 0)) ∈ M i) (h2 : ∀ i, Res.blk b2 (.cells #[I 64] 3 (0, 0)) ∈ M i) (hn : n ≤ 1000000) (hnc : n ≤ pc)
    (hround : ∀ (i : Nat) (_ : 64 * i < n) (w2 : World), St w' (keys (M 0)) w2 (M i) →
      RoundIn (Fw none) 0 Tryd.prog Lp rc.fn ((rc.params.zip #[Value.slice (sa pa (64 * i) (64 * i + chl n i) 1) (chl n i) (chl n i)]).foldl (fun tmps (t, a) => tmps.setIfInBounds t a) rc.tmps) rc.assign rc.body w2 fun e' w3 => ∃ _ : Unit, True ∧ e' = .returned (.bool true) ∧ St w' (keys (M 0)) w3 (M (i + 1))) :
    Calls Tryd.prog 81 #[.func (.yield Lp) #[] #[], .pointer (some ⟨b1, 0, none⟩), .pointer (some ⟨b2, 0, none⟩)] w' fun e' w2 => (∃ v, e' = .returned v) ∧ ∃ i, n ≤ 64 * i ∧ St w' (keys (M 0)) w2 (M i) := by
  refine enterL (args := [.func (.yield Lp) #[] #[], .pointer (some ⟨b1, 0, none⟩), .pointer (some ⟨b2, 0, none⟩)]) Tryd.func81 Tryd.ntmps81 hs hnd ?_
  refine c_seq <| c_reg <| s_y y_as <| s_nil <| q_then <| c_block <| ?_
  refine c_loop (fun i : Nat => [(0, .func (.yield Lp) #[] #[]), (1, .pointer (some ⟨b1, 0, none⟩)), (2, .pointer (some ⟨b2, 0, none⟩)), (4, I (64 * i : Nat))]) M (fun i => 64 * i ≤ n + 63) (fun i => n + 64 - 64 * i) 0 (by omega) ⟨rfl, rfl, rfl, rfl, trivial⟩ (.refl _) ?_
  intro i hi
  by_cases hin : 64 * i < n
  · obtain ⟨ch, hch⟩ : ∃ ch, chl n i = ch := ⟨_, rfl⟩
    have hch' : min (64 : Int) ((n - 64 * i : Nat) : Int) = ((ch : Nat) : Int) := by rw [← hch]; unfold chl; omega
    have hch1 : 1 ≤ ch ∧ ch ≤ 64 ∧ 64 * i + ch ≤ n := by rw [← hch]; unfold chl; omega
    have hr9 := hround i hin
    rw [hch] at hr9
    refine c_seq <| c_seq <| c_reg <| s_y y_mv <| s_y (y_ld (b := b1) (hm := h1 _) (v := .slice pa n pc)) <| s_y y_len <| s_kt (y_lss (p := ((64 * i : Nat) : Int)) (q := ((n : Nat) : Int))) (by omega) <| s_nil <| q_then <| c_t <| c_skip <| q_then <| c_seq <| c_block <| c_seq <| c_regd <| d_y (y_ld (b := b2) (hm := h2 _) (v := I 64)) <| d_y (y_ld (b := b1) (hm := h1 _) (v := .slice pa n pc)) <| d_y y_mv <| d_y (y_sll (i := ((64 * i : Nat) : Int))) <| d_y y_len <| d_y (y_min (p := 64) (q := ((n - 64 * i : Nat) : Int))) <| ?_
    rw [hch']
    refine d_y y_as <| d_nil <| q_then <| c_seq <| c_reg <| s_y y_mv <| s_y (y_ld (b := b1) (hm := h1 _) (v := .slice pa n pc)) <| s_y y_mv <| s_y y_mv <| s_y y_mv <| s_y (y_add (p := ((64 * i : Nat) : Int)) (q := ((ch : Nat) : Int))) <| s_y y_mv <| s_y y_mv <| s_y (y_add (p := ((64 * i : Nat) : Int)) (q := ((ch : Nat) : Int))) <| ?_
    rw [show ((64 * i : Nat) : Int) + ((ch : Nat) : Int) = ((64 * i + ch : Nat) : Int) by omega]
    refine s_y (y_sllhm (i := ((64 * i : Nat) : Int)) (j := ((64 * i + ch : Nat) : Int)) (h := ((64 * i + ch : Nat) : Int))) <| ?_
    rw [Int.toNat_natCast, Int.toNat_natCast, show 64 * i + ch - 64 * i = ch by omega]
    refine s_yield (L := Lp) (rc := rc) (σ := Unit) (fun _ => .bool true) (fun _ => M (i + 1)) (fun _ => True) (hL _) hpz (fun w2 h2 => hr9 w2 h2) (fun _ _ => ?_)
    refine s_y (v := .bool false) (y_not (b := true)) <| s_nil <| q_then <| c_f <| c_skip <| q_nb <| q_then <| c_reg <| s_y y_mv <| s_y (y_ld (b := b2) (hm := h2 _) (v := I 64)) <| s_y (y_add (p := ((64 * i : Nat) : Int)) (q := 64)) <| s_y y_as <| s_nil <| ?_
    rw [show ((64 * i : Nat) : Int) + 64 = ((64 * (i + 1) : Nat) : Int) by omega]
    exact q_round (i + 1) (by omega) (by omega) ⟨rfl, rfl, rfl, rfl, trivial⟩ (.refl _)
  · refine c_seq <| c_seq <| c_reg <| s_y y_mv <| s_y (y_ld (b := b1) (hm := h1 _) (v := .slice pa n pc)) <| s_y y_len <| s_kf (y_lss (p := ((64 * i : Nat) : Int)) (q := ((n : Nat) : Int))) (by omega) <| s_nil <| q_then <| c_f <| c_exit <| q_ex <| q_ex <| q_exb <| ?_
    exact ret0 Tryd.results81 (fun w2 h2 => ⟨⟨_, rfl⟩, i, by omega, h2⟩) _ (.inr rfl)
end Go.Proofs.YtchpcabehchfjaaDoor
