/- The blocks of the cipher, in both programs. -/
import Derived.Test.YtchpcabehchfjaaDoorChaA
namespace Eng
open Go Go.RowKit
section
variable {r : Option Nat} {P : Program} {n : Nat} {D : List Deferred} {W : World} {Bo : List Nat} {F : List (Nat × Value)} {l l' : SH}
  {d : Option Tmp} {dd : Nat} {ty : TypeId} {ps : String} {af : Array Edge} {g : Option (Nat × Bool)} {x y : Operand} {v : Value} {t ta tb e : TypeId}
  {Q : Exit → Act → World → Prop} {ops : Array Oper} {rest : List Oper}
theorem y_cv8w [hu : HU P tb (.int .u8)] {tb' : Bool} [ha' : HT P ta tb'] {p : UInt32} (hx : evO F x = some (W32 p) := by rfl) : Y P n D W Bo ⟨d, .convert ta tb x, ty, ps, af, g⟩ F l (B p.toUInt8) := by
  have h := y_cv8 (P := P) (n := n) (D := D) (W := W) (Bo := Bo) (l := l) (d := d) (ty := ty) (ps := ps) (af := af) (g := g) (ta := ta) (tb := tb) (F := F) (x := x) (p := ((p.toNat : Nat) : Int)) (k' := .u32) hx
  have e : UInt8.ofNat (((p.toNat : Nat) : Int) % 256).toNat = p.toUInt8 := by
    apply UInt8.toNat_inj.1
    rw [UInt8.toNat_ofNat', UInt32.toNat_toUInt8]
    omega
  rwa [e] at h
theorem y_cvi32 [hu : HU P tb (.int .u32)] {tb' : Bool} [ha' : HT P ta tb'] {p : Nat} (hx : evO F x = some (I (p : Int)) := by rfl) : Y P n D W Bo ⟨d, .convert ta tb x, ty, ps, af, g⟩ F l (W32 (UInt32.ofNat p)) := by
  have h := y_cvw (P := P) (n := n) (D := D) (W := W) (Bo := Bo) (l := l) (d := d) (ty := ty) (ps := ps) (af := af) (g := g) (ta := ta) (tb := tb) (F := F) (x := x) (k := .u32) (p := (p : Int)) (k' := .i64) hx
  have e : Value.int .u32 (IntKind.u32.wrap (p : Int)) = W32 (UInt32.ofNat p) := u32_of (by rw [wrap_u32, UInt32.toNat_ofNat']; omega)
  rwa [e] at h
/-- a slice without elements, which owns its memory -/
theorem c_torow0 {c : Code} {b : Nat} {cs : Array Value} {e : TypeId} {s m : Nat} (hr : Rep (.blk b (.cells cs e (0, 0))) (.row (some ⟨b, 0, none⟩) m e s 0 []) l l') (hs : cs.size = m * s) (hm : m ≤ maxLen)
    (h : CP r P n D W Bo c Q F l') : CP r P n D W Bo c Q F l := fun a w ha hw => h a w ha (hw.change hr rfl rfl rfl (Nat.le_refl _) (fun _ _ _ => rfl)
    ⟨by simp, Nat.zero_le _, .inr ⟨b, cs, rfl, (hw.own _ hr.mem).1, hm, hs, by simp⟩⟩ (fun k hk => .inl hk))
end
end Eng
namespace Go.Proofs.YtchpcabehchfjaaDoor
open Go Eng Sha Cha
set_option maxRecDepth 100000
/-- the listed variables behind the cipher -/
def LC (w : World) : Prop := LS w ∧ Rd w (some ⟨5, 0, none⟩) (ws cst)
theorem LC.st {W w : World} {l : SH} (h : LC W) (hs : St W [] w l) : LC w := ⟨h.1.st hs, h.2.st hs⟩
theorem hzn {k : List UInt8} {m : Nat} (h : k.length = m) : (bs k).toArray.size = m := by simp [bs_length, h]
theorem hzw {v : List UInt32} {m : Nat} (h : v.length = m) : (ws v).toArray.size = m := by simp [ws_length, h]
theorem rd_drop {W : World} {Bo : List Nat} {l : SH} {b i : Nat} {q : List UInt8} {e : TypeId} {fz : Nat × Nat} (hm : Res.blk b (.cells (bs q).toArray e fz) ∈ l) : RdS W Bo l (some ⟨b, i, none⟩) (bs (q.drop i)) :=
  rdB hm fun j v h => by rw [bs_drop, List.getElem?_drop] at h; rw [List.getElem?_toArray]; exact h
theorem c_first_ok (w : World) (k n : List UInt8) (c : UInt32) (hg : LC w) (hk : k.length = 32) (hn : n.length = 12) :
    Pure Tryd.prog 82 [.agg (bs k).toArray, .agg (bs n).toArray, W32 c] w (.agg (ws (first k n c)).toArray) := by
  refine enter Tryd.func82 Tryd.ntmps82 ?_
  refine c_seq <| c_reg <| s_box rfl fun b3 => s_box rfl fun b4 => s_alloc fun b6 => s_nil <| q_then <| c_seq <| c_regL [.blk b4 (.cells (bs n).toArray 45 (0, 0)), .blk b3 (.cells (bs k).toArray 32 (0, 0))] <| r_y 0 rfl y_sla <| r_y 1 rfl y_sla <| r_W 2 rfl <| s_cpv (b := b6) (off := 0) (m := 16) (k := 4) (cs := (ws (List.replicate 16 0)).toArray) (ys := ws cst) (?_) (rdW0 hg.2) (h1 := fun v hv => ws_one hv) (hle := by decide) (hrep := .head _) (hfit := by decide)
  rw [show (((ws (List.replicate 16 0)).toArray).toList.take 0 ++ (ws cst).take (Nat.min 4 16) ++ ((ws (List.replicate 16 0)).toArray).toList.drop (0 + Nat.min 4 16)).toArray = (ws (cst ++ ws4 k 0 ++ List.replicate 12 0)).toArray by rfl]
  refine r_K <| r_E <| q_then <| c_seq <| c_seq <| c_reg <| s_y y_mv <| s_nil <| q_then <| c_block <| ?_
  refine c_loop (fun i : Nat => [(2, W32 c), (3, .pointer (some ⟨b3, 0, none⟩)), (4, .pointer (some ⟨b4, 0, none⟩)), (6, .pointer (some ⟨b6, 0, none⟩)), (12, I i)]) (fun i => [.blk b6 (.cells (ws (cst ++ ws4 k i ++ List.replicate (12 - i) 0)).toArray 125 (0, 0)), .blk b4 (.cells (bs n).toArray 45 (0, 0)), .blk b3 (.cells (bs k).toArray 32 (0, 0))]) (fun i => i ≤ 8) (fun i => 8 - i) 0 (by omega) ⟨rfl, rfl, rfl, rfl, rfl, trivial⟩ (.refl _) ?_
  intro i hi
  by_cases h8 : i < 8
  · have hA : (cst ++ ws4 k i).length = 4 + i := by rw [List.length_append, ws4_length]; rfl
    have hs := set_next (cst ++ ws4 k i) (11 - i) (4 + i) (wle k (4 * i)) hA
    rw [show 11 - i + 1 = 12 - i by omega, show cst ++ ws4 k i ++ [wle k (4 * i)] = cst ++ ws4 k (i + 1) by rw [ws4_succ, List.append_assoc]] at hs
    refine c_seq <| c_reg <| s_kt (y_lss (p := ((i : Nat) : Int)) (q := 8)) (by omega) <| s_nil <| q_then <| c_seq <| c_t <| c_skip <| q_then <| c_seq <| c_block <| c_seq <| c_reg <| s_y y_mv <| s_y y_as <| s_nil <| q_then <| c_reg <| s_y y_mv <| s_y (y_add (p := 4) (q := ((i : Nat) : Int))) <| s_y y_mv <| s_y (y_mul (p := 4) (q := ((i : Nat) : Int))) <| s_y (y_slal (i := 4 * ((i : Nat) : Int))) <| ?_
    rw [show 0 + (4 * ((i : Nat) : Int)).toNat * 1 = 4 * i by omega, show (4 * ((i : Nat) : Int)).toNat = 4 * i by omega]
    refine s_pure (fun w' hw => by
      have h9 := c_word_ok w' (some ⟨b3, 4 * i, none⟩) (32 - 4 * i) (32 - 4 * i) (k.drop (4 * i)) (rd_drop (.tail _ (.tail _ (.head _))) w' hw) (by omega) (by rw [List.length_drop]; omega)
      rw [wle_drop] at h9
      exact h9) <| s_y (y_ixn (4 + i) (m := 16)) <| s_stw (?_) (hl := by simp only [List.length_append, ws4_length, List.length_replicate, show cst.length = 4 from rfl]; omega)
    rw [hs]
    refine s_nil <| q_nb <| q_then <| c_reg <| s_y (y_add (p := ((i : Nat) : Int)) (q := 1)) <| s_y y_mv <| s_nil <| ?_
    rw [show ((i : Nat) : Int) + 1 = ((i + 1 : Nat) : Int) by omega, show 11 - i = 12 - (i + 1) by omega]
    exact q_round (i + 1) (by omega) (by omega) ⟨rfl, rfl, rfl, rfl, rfl, trivial⟩ (.refl _)
  obtain rfl : i = 8 := by omega
  have hs12 : (cst ++ ws4 k 8 ++ List.replicate (12 - 8) (0 : UInt32)).set 12 c = cst ++ ws4 k 8 ++ [c] ++ ws4 n 0 ++ List.replicate 3 0 := by
    rw [show ws4 n 0 = [] from rfl, List.append_nil]
    exact set_next (cst ++ ws4 k 8) 3 12 c (by rw [List.length_append, ws4_length]; rfl)
  refine c_seq <| c_reg <| s_kf (y_lss (p := ((8 : Nat) : Int)) (q := 8)) (by omega) <| s_nil <| q_then <| c_seq <| c_f <| c_exit <| q_ex <| q_ex <| q_exb <| q_then <| c_seq <| c_reg <| s_y y_mv <| s_y (y_ixn 12 (m := 16)) <| s_stw (?_) (hl := by simp only [List.length_append, ws4_length, List.length_replicate]; decide)
  rw [hs12]
  refine s_nil <| q_then <| c_seq <| c_seq <| c_reg <| s_y y_mv <| s_nil <| q_then <| c_block <| ?_
  refine c_loop (fun i : Nat => [(4, .pointer (some ⟨b4, 0, none⟩)), (6, .pointer (some ⟨b6, 0, none⟩)), (25, I i)]) (fun i => [.blk b6 (.cells (ws (cst ++ ws4 k 8 ++ [c] ++ ws4 n i ++ List.replicate (3 - i) 0)).toArray 125 (0, 0)), .blk b4 (.cells (bs n).toArray 45 (0, 0))]) (fun i => i ≤ 3) (fun i => 3 - i) 0 (by omega) ⟨rfl, rfl, rfl, trivial⟩ (.cons_cons _ (.cons_cons _ (List.nil_sublist _))) ?_
  intro i hi
  by_cases h3 : i < 3
  · have hA : (cst ++ ws4 k 8 ++ [c] ++ ws4 n i).length = 13 + i := by simp only [List.length_append, ws4_length]; rw [show cst.length + 8 + [c].length = 13 from rfl]
    have hs := set_next (cst ++ ws4 k 8 ++ [c] ++ ws4 n i) (2 - i) (13 + i) (wle n (4 * i)) hA
    rw [show 2 - i + 1 = 3 - i by omega, show cst ++ ws4 k 8 ++ [c] ++ ws4 n i ++ [wle n (4 * i)] = cst ++ ws4 k 8 ++ [c] ++ ws4 n (i + 1) by rw [ws4_succ n i, List.append_assoc (cst ++ ws4 k 8 ++ [c])]] at hs
    refine c_seq <| c_reg <| s_kt (y_lss (p := ((i : Nat) : Int)) (q := 3)) (by omega) <| s_nil <| q_then <| c_seq <| c_t <| c_skip <| q_then <| c_seq <| c_block <| c_seq <| c_reg <| s_y y_mv <| s_y y_as <| s_nil <| q_then <| c_reg <| s_y y_mv <| s_y (y_add (p := 13) (q := ((i : Nat) : Int))) <| s_y y_mv <| s_y (y_mul (p := 4) (q := ((i : Nat) : Int))) <| s_y (y_slal (i := 4 * ((i : Nat) : Int))) <| ?_
    rw [show 0 + (4 * ((i : Nat) : Int)).toNat * 1 = 4 * i by omega, show (4 * ((i : Nat) : Int)).toNat = 4 * i by omega]
    refine s_pure (fun w' hw => by
      have h9 := c_word_ok w' (some ⟨b4, 4 * i, none⟩) (12 - 4 * i) (12 - 4 * i) (n.drop (4 * i)) (rd_drop (.tail _ (.head _)) w' hw) (by omega) (by rw [List.length_drop]; omega)
      rw [wle_drop] at h9
      exact h9) <| s_y (y_ixn (13 + i) (m := 16)) <| s_stw (?_) (hl := by rw [List.length_append, hA, List.length_replicate]; omega)
    rw [hs]
    refine s_nil <| q_nb <| q_then <| c_reg <| s_y (y_add (p := ((i : Nat) : Int)) (q := 1)) <| s_y y_mv <| s_nil <| ?_
    rw [show ((i : Nat) : Int) + 1 = ((i + 1 : Nat) : Int) by omega, show 2 - i = 3 - (i + 1) by omega]
    exact q_round (i + 1) (by omega) (by omega) ⟨rfl, rfl, rfl, trivial⟩ (.refl _)
  obtain rfl : i = 3 := by omega
  rw [show cst ++ ws4 k 8 ++ [c] ++ ws4 n 3 ++ List.replicate (3 - 3) 0 = first k n c by rw [Nat.sub_self, List.replicate_zero, List.append_nil]; rfl]
  have hl := first_length k n c
  obtain ⟨S, hS⟩ : ∃ S, first k n c = S := ⟨_, rfl⟩
  rw [hS] at hl ⊢
  refine c_seq <| c_reg <| s_kf (y_lss (p := ((3 : Nat) : Int)) (q := 3)) (by omega) <| s_nil <| q_then <| c_seq <| c_f <| c_exit <| q_ex <| q_ex <| q_exb <| q_then <| c_seq <| c_reg <| s_y (y_lda (b := b6) (cs := (ws S).toArray) (hl := hzw hl)) <| s_sta (b := b6) (vs := (ws S).toArray) (cs := (ws S).toArray) (h1 := fun u hu => ws_one (by simpa using hu)) (hl := rfl) (hs1 := hzw hl) ?_
  refine s_nil <| q_then <| c_ret <| ?_
  exact ret1 Tryd.results82 (rv_ca (b := b6) (hl := hzw hl)) fun w' hw => ⟨rfl, hw.sub (List.nil_sublist _)⟩
/-- the four bytes behind the others -/
theorem c_block_ok (w : World) (k n : List UInt8) (c : UInt32) (hg : LC w) (hk : k.length = 32) (hn : n.length = 12) :
    Gives Tryd.prog 63 [.agg (bs k).toArray, .agg (bs n).toArray, W32 c] w [] (fun y : Option Addr × Nat => .slice y.1 64 y.2) (fun y => [.row y.1 y.2 5 1 64 (bs (blk k n c))]) (fun _ => True) := by
  have hl := first_length k n c
  have hblk : blk k n c = outU (rndU (first k n c) 10) (first k n c) 16 := rfl
  obtain ⟨S, hS⟩ : ∃ S, first k n c = S := ⟨_, rfl⟩
  rw [hS] at hl hblk
  have hR : ∀ r, (rndU S r).length = 16 := fun r => by rw [rndU_length]; exact hl
  refine enter Tryd.func63 Tryd.ntmps63 ?_
  refine c_seq <| c_reg <| s_box rfl fun b3 => s_box rfl fun b4 => s_y y_as <| s_nil <| q_then <| c_seq <| c_reg <| s_y (y_lda (b := b3) (cs := (bs k).toArray) (hl := hzn hk)) <| s_y (y_lda (b := b4) (cs := (bs n).toArray) (hl := hzn hn)) <| s_y y_mv <| s_pure (fun w' hw => c_first_ok w' k n c (hg.st hw) hk hn) <| ?_
  rw [hS]
  refine s_alloc fun b7 => s_sta (b := b7) (vs := (ws S).toArray) (cs := (ws (List.replicate 16 0)).toArray) (h1 := fun u hu => ws_one (by simpa using hu)) (hl := by rw [hzw hl]; rfl) (hs1 := hzw hl) ?_
  refine s_nil <| q_then <| c_seq <| c_reg <| s_y (y_lda (b := b7) (cs := (ws S).toArray) (hl := hzw hl)) <| s_alloc fun b8 => s_sta (b := b8) (vs := (ws S).toArray) (cs := (ws (List.replicate 16 0)).toArray) (h1 := fun u hu => ws_one (by simpa using hu)) (hl := by rw [hzw hl]; rfl) (hs1 := hzw hl) ?_
  refine s_nil <| q_then <| c_seq <| c_reg <| s_y y_func <| s_y y_as <| s_nil <| q_then <| c_seq <| c_seq <| c_reg <| s_y y_mv <| s_nil <| q_then <| c_block <| ?_
  refine c_loop (fun i : Nat => [(7, .pointer (some ⟨b7, 0, none⟩)), (8, .pointer (some ⟨b8, 0, none⟩)), (9, .func (.func 83) #[.pointer (some ⟨b8, 0, none⟩)] #[]), (21, I i)]) (fun i => [.blk b8 (.cells (ws (rndU S i)).toArray 125 (0, 0)), .blk b7 (.cells (ws S).toArray 125 (0, 0))]) (fun i => i ≤ 10) (fun i => 10 - i) 0 (by omega) ⟨rfl, rfl, rfl, rfl, trivial⟩ (.cons_cons _ (.cons_cons _ (List.nil_sublist _))) ?_
  intro r hr
  by_cases h10 : r < 10
  · have hVl := hR r
    have hnx : dgU (colU (rndU S r) 4) 4 = rndU S (r + 1) := rfl
    obtain ⟨V, hV⟩ : ∃ V, rndU S r = V := ⟨_, rfl⟩
    rw [hV] at hVl hnx ⊢
    refine c_seq <| c_reg <| s_kt (y_lss (p := ((r : Nat) : Int)) (q := 10)) (by omega) <| s_nil <| q_then <| c_seq <| c_t <| c_skip <| q_then <| c_seq <| c_block <| c_seq <| c_seq <| c_reg <| s_y y_mv <| s_nil <| q_then <| c_block <| ?_
    refine c_loop (fun i : Nat => [(7, .pointer (some ⟨b7, 0, none⟩)), (8, .pointer (some ⟨b8, 0, none⟩)), (9, .func (.func 83) #[.pointer (some ⟨b8, 0, none⟩)] #[]), (21, I r), (23, I i)]) (fun i => [.blk b8 (.cells (ws (colU V i)).toArray 125 (0, 0)), .blk b7 (.cells (ws S).toArray 125 (0, 0))]) (fun i => i ≤ 4) (fun i => 4 - i) 0 (by omega) ⟨rfl, rfl, rfl, rfl, rfl, trivial⟩ (.refl _) ?_
    intro i hi
    by_cases h4 : i < 4
    · have hCl : (colU V i).length = 16 := by rw [colU_length]; exact hVl
      refine c_seq <| c_reg <| s_kt (y_lss (p := ((i : Nat) : Int)) (q := 4)) (by omega) <| s_nil <| q_then <| c_seq <| c_t <| c_skip <| q_then <| c_seq <| c_block <| c_seq <| c_reg <| s_y y_mv <| s_y y_as <| s_nil <| q_then <| c_reg <| s_y y_mv <| s_y y_mv <| s_y y_mv <| s_y (y_add (p := 4) (q := ((i : Nat) : Int))) <| s_y y_mv <| s_y (y_add (p := 8) (q := ((i : Nat) : Int))) <| s_y y_mv <| s_y (y_add (p := 12) (q := ((i : Nat) : Int))) <| s_chg (σ := Unit) (val := fun _ => .tuple #[]) (b := b8) (o' := fun _ => .cells (ws (colU V (i + 1))).toArray 125 (0, 0)) (lx := fun _ => []) (φ := fun _ => True) (hc := fun w' hw => (by
        have h9 := c_mix_ok w' b8 125 (colU V i) i (4 + i) (8 + i) (12 + i) hw.blk_at hCl (by omega) (by omega) (by omega) (by omega)
        rw [show ((4 + i : Nat) : Int) = 4 + ((i : Nat) : Int) by omega, show ((8 + i : Nat) : Int) = 8 + ((i : Nat) : Int) by omega, show ((12 + i : Nat) : Int) = 12 + ((i : Nat) : Int) by omega] at h9
        exact h9)) (hrep := fun _ => .head _) fun _ _ => s_nil <| q_nb <| q_then <| c_reg <| s_y (y_add (p := ((i : Nat) : Int)) (q := 1)) <| s_y y_mv <| s_nil <| ?_
      rw [show ((i : Nat) : Int) + 1 = ((i + 1 : Nat) : Int) by omega]
      exact q_round (i + 1) (by omega) (by omega) ⟨rfl, rfl, rfl, rfl, rfl, trivial⟩ (.refl _)
    obtain rfl : i = 4 := by omega
    have hUl : (colU V 4).length = 16 := by rw [colU_length]; exact hVl
    obtain ⟨U', hU⟩ : ∃ U', colU V 4 = U' := ⟨_, rfl⟩
    rw [hU] at hUl hnx ⊢
    refine c_seq <| c_reg <| s_kf (y_lss (p := ((4 : Nat) : Int)) (q := 4)) (by omega) <| s_nil <| q_then <| c_seq <| c_f <| c_exit <| q_ex <| q_ex <| q_exb <| q_then <| c_seq <| c_reg <| s_y y_mv <| s_nil <| q_then <| c_block <| ?_
    refine c_loop (fun i : Nat => [(7, .pointer (some ⟨b7, 0, none⟩)), (8, .pointer (some ⟨b8, 0, none⟩)), (9, .func (.func 83) #[.pointer (some ⟨b8, 0, none⟩)] #[]), (21, I r), (36, I i)]) (fun i => [.blk b8 (.cells (ws (dgU U' i)).toArray 125 (0, 0)), .blk b7 (.cells (ws S).toArray 125 (0, 0))]) (fun i => i ≤ 4) (fun i => 4 - i) 0 (by omega) ⟨rfl, rfl, rfl, rfl, rfl, trivial⟩ (.refl _) ?_
    intro i hi
    by_cases h4 : i < 4
    · have hCl : (dgU U' i).length = 16 := by rw [dgU_length]; exact hUl
      refine c_seq <| c_reg <| s_kt (y_lss (p := ((i : Nat) : Int)) (q := 4)) (by omega) <| s_nil <| q_then <| c_seq <| c_t <| c_skip <| q_then <| c_seq <| c_block <| c_seq <| c_reg <| s_y y_mv <| s_y y_as <| s_nil <| q_then <| c_reg <| s_y y_mv <| s_y y_mv <| s_y y_mv <| s_y (y_add (p := ((i : Nat) : Int)) (q := 1)) <| s_y (y_rem (p := ((i : Nat) : Int) + 1) (q := 4)) <| s_y (y_add (p := 4) (q := (((i : Nat) : Int) + 1) % 4)) <| s_y y_mv <| s_y (y_add (p := ((i : Nat) : Int)) (q := 2)) <| s_y (y_rem (p := ((i : Nat) : Int) + 2) (q := 4)) <| s_y (y_add (p := 8) (q := (((i : Nat) : Int) + 2) % 4)) <| s_y y_mv <| s_y (y_add (p := ((i : Nat) : Int)) (q := 3)) <| s_y (y_rem (p := ((i : Nat) : Int) + 3) (q := 4)) <| s_y (y_add (p := 12) (q := (((i : Nat) : Int) + 3) % 4)) <| s_chg (σ := Unit) (val := fun _ => .tuple #[]) (b := b8) (o' := fun _ => .cells (ws (dgU U' (i + 1))).toArray 125 (0, 0)) (lx := fun _ => []) (φ := fun _ => True) (hc := fun w' hw => (by
        have h9 := c_mix_ok w' b8 125 (dgU U' i) i (4 + (i + 1) % 4) (8 + (i + 2) % 4) (12 + (i + 3) % 4) hw.blk_at hCl (by omega) (by omega) (by omega) (by omega)
        rw [show ((4 + (i + 1) % 4 : Nat) : Int) = 4 + (((i : Nat) : Int) + 1) % 4 by omega, show ((8 + (i + 2) % 4 : Nat) : Int) = 8 + (((i : Nat) : Int) + 2) % 4 by omega, show ((12 + (i + 3) % 4 : Nat) : Int) = 12 + (((i : Nat) : Int) + 3) % 4 by omega] at h9
        exact h9)) (hrep := fun _ => .head _) fun _ _ => s_nil <| q_nb <| q_then <| c_reg <| s_y (y_add (p := ((i : Nat) : Int)) (q := 1)) <| s_y y_mv <| s_nil <| ?_
      rw [show ((i : Nat) : Int) + 1 = ((i + 1 : Nat) : Int) by omega]
      exact q_round (i + 1) (by omega) (by omega) ⟨rfl, rfl, rfl, rfl, rfl, trivial⟩ (.refl _)
    obtain rfl : i = 4 := by omega
    rw [hnx]
    refine c_seq <| c_reg <| s_kf (y_lss (p := ((4 : Nat) : Int)) (q := 4)) (by omega) <| s_nil <| q_then <| c_seq <| c_f <| c_exit <| q_ex <| q_ex <| q_exb <| q_nb <| q_then <| c_reg <| s_y (y_add (p := ((r : Nat) : Int)) (q := 1)) <| s_y y_mv <| s_nil <| ?_
    rw [show ((r : Nat) : Int) + 1 = ((r + 1 : Nat) : Int) by omega]
    exact q_round (r + 1) (by omega) (by omega) ⟨rfl, rfl, rfl, rfl, trivial⟩ (.refl _)
  obtain rfl : r = 10 := by omega
  have hVl := hR 10
  obtain ⟨V, hV⟩ : ∃ V, rndU S 10 = V := ⟨_, rfl⟩
  rw [hV] at hVl hblk ⊢
  refine c_seq <| c_reg <| s_kf (y_lss (p := ((10 : Nat) : Int)) (q := 10)) (by omega) <| s_nil <| q_then <| c_seq <| c_f <| c_exit <| q_ex <| q_ex <| q_exb <| q_then <| c_seq <| c_reg <| s_mkb (i := 0) (j := 64) fun b12 => s_y y_as <| s_nil <| q_then <| ?_
  rw [show (64 : Int).toNat = 64 from rfl, show (0 : Int).toNat = 0 from rfl]
  refine c_torow0 (b := b12) (s := 1) (m := 64) (cs := (bs (List.replicate 64 0)).toArray) (e := 5) (.head _) (hzn List.length_replicate) (by unfold maxLen; omega) ?_
  refine c_seq <| c_seq <| c_reg <| s_y (y_lda (b := b8) (cs := (ws V).toArray) (hl := hzw hVl)) <| s_y y_mv <| s_nil <| q_then <| c_block <| ?_
  refine c_loop3 (fun (i : Nat) (a : Option Addr) (cc : Nat) => [(7, .pointer (some ⟨b7, 0, none⟩)), (12, .slice a (4 * i) cc), (57, .agg (ws V).toArray), (58, I i)]) (fun i a cc => [.row a cc 5 1 (4 * i) (bs (outU V S i)), .blk b7 (.cells (ws S).toArray 125 (0, 0))]) (fun i _ _ => i ≤ 16) (fun i _ _ => 16 - i) 0 (some ⟨b12, 0, none⟩) 64 (by omega) ⟨rfl, rfl, rfl, rfl, trivial⟩ (.cons_cons _ (.cons _ (.cons_cons _ (List.nil_sublist _)))) ?_
  intro i a cc hi
  by_cases h16 : i < 16
  · have hix : (ws V).toArray[i]? = some (W32 (V.getD i 0)) := by rw [List.getElem?_toArray]; exact ws_get (by omega)
    refine c_seq <| c_reg <| s_kt (y_lss (p := ((i : Nat) : Int)) (q := 16)) (by omega) <| s_nil <| q_then <| c_seq <| c_t <| c_skip <| q_then <| c_seq <| c_block <| c_seq <| c_reg <| s_y y_mv <| s_y (y_ixv (v := W32 (V.getD i 0)) i hix) <| s_y y_as <| s_y y_as <| s_nil <| q_then <| c_seq <| c_reg <| s_y y_mv <| s_y y_mv <| s_y (y_ixn i (m := 16)) <| s_y (y_ldwb (q := S) i (by omega)) <| s_y y_add32 <| s_y y_as <| s_nil <| q_then <| ?_
    have hsucc := outU_succ V S i
    obtain ⟨z, hz⟩ : ∃ z, V.getD i 0 + S.getD i 0 = z := ⟨_, rfl⟩
    rw [hz] at hsucc ⊢
    refine c_reg <| s_y y_mv <| s_y y_mv <| s_y y_cv8w <| s_y y_mv <| s_y y_shr32 <| s_y y_cv8w <| s_y y_mv <| s_y y_shr32 <| s_y y_cv8w <| s_y y_mv <| s_y y_shr32 <| s_y y_cv8w <| s_bslr (cs := bs (le4 z)) fun b79 => s_app (m := 4) (srcB (q := le4 z) (rdR (.head _)) rfl) (h1 := fun v hv => bs_one hv) (hm := .tail _ (.head _)) (hrep := fun _ _ => .tail _ (.head _)) fun a80 c80 h80 => ?_
    rw [← bs_append, ← hsucc, show 4 * i + 4 = 4 * (i + 1) by omega]
    refine s_y y_as <| s_nil <| q_nb <| q_then <| c_reg <| s_y (y_add (p := ((i : Nat) : Int)) (q := 1)) <| s_y y_mv <| s_nil <| ?_
    rw [show ((i : Nat) : Int) + 1 = ((i + 1 : Nat) : Int) by omega]
    exact q_round3 (x := i) (y := a) (z := cc) (i + 1) a80 c80 (by omega) (by omega) ⟨rfl, rfl, rfl, rfl, trivial⟩ (.cons _ (.refl _))
  obtain rfl : i = 16 := by omega
  rw [← hblk]
  refine c_seq <| c_reg <| s_kf (y_lss (p := ((16 : Nat) : Int)) (q := 16)) (by omega) <| s_nil <| q_then <| c_seq <| c_f <| c_exit <| q_ex <| q_ex <| q_exb <| q_then <| c_seq <| c_reg <| s_y y_mv <| s_y y_as <| s_nil <| q_then <| c_ret <| ?_
  exact ret1 Tryd.results63 rv_t fun w' hw => ⟨(a, cc), trivial, rfl, hw.sub (.cons_cons _ (List.nil_sublist _))⟩
end Go.Proofs.YtchpcabehchfjaaDoor
