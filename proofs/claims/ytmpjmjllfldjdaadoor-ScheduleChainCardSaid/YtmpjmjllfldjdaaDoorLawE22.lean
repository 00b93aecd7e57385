/- The law on chains of epochs. -/
import Derived.Test.YtmpjmjllfldjdaaDoorLaw22
namespace Go.Proofs.YtmpjmjllfldjdaaDoor
open Go Eng Sha Cod
set_option maxRecDepth 100000
/-- the secrets of a chain of epochs -/
def chN (s : List UInt8) (rs : List (List UInt8)) : Nat → List UInt8
  | 0 => s
  | i + 1 => mix lbEpoch (expand (chN s rs i) lbInit []) (expand (rs.getD i []) lbCommit [])
theorem chN_length {s : List UInt8} (h : s.length = 32) (rs : List (List UInt8)) (i : Nat) : (chN s rs i).length = 32 := by cases i with | zero => exact h | succ i => exact mix_length _ _ _
def chL (s : List UInt8) (rs : List (List UInt8)) (m : Nat) : List (List UInt8) := (List.range m).map (chN s rs)
theorem chL_succ (s : List UInt8) (rs : List (List UInt8)) (m : Nat) : chL s rs m ++ [chN s rs m] = chL s rs (m + 1) := by simp [chL, List.range_succ]
theorem chL_length (s : List UInt8) (rs : List (List UInt8)) (m : Nat) : (chL s rs m).length = m := by simp [chL]
theorem chL_32 {s : List UInt8} (h : s.length = 32) (rs : List (List UInt8)) (m : Nat) : K32 (chL s rs m) := fun x hx => by
  obtain ⟨i, _, rfl⟩ := List.mem_map.1 hx
  exact chN_length h rs i
theorem chL_get (s : List UInt8) (rs : List (List UInt8)) {m i : Nat} (h : i < m) : (chL s rs m).getD i [] = chN s rs i := by
  rw [List.getD_eq_getElem?_getD, chL, List.getElem?_map, List.getElem?_range h]; rfl

theorem law_ScheduleChain_ok (w : World) (k : List UInt8) (a1 : Option Addr) (c1 : Nat) (rs : List (List UInt8)) (z : Nat) (hg : LS2 w) (hk : k.length = 32) (hr : Rd w a1 (kcs rs)) (h32 : K32 rs) (hz : z < 18446744073709551616) : Pure Tryd.prog 6 [.agg (bs k).toArray, .slice a1 rs.length c1, U z] w (.bool true) := by
  refine enter Tryd.func6 Tryd.ntmps6 ?_
  refine c_seq <| c_reg <| s_box rfl fun b3 => s_y y_as <| s_nil <| q_then <| c_seq <| c_seq <| c_reg <| s_pure (fun w' hw => sane22_ok w' (hg.st hw)) <| s_y (v := .bool false) (y_not (b := true)) <| s_nil <| q_then <| c_f <| c_skip <| q_then <| c_seq <| c_seq <| c_reg <| s_y y_mv <| s_y y_len <| s_y (y_gtr (p := rs.length) (q := 12)) <| s_nil <| q_then <| c_ifd (fun h16 => ?_) (fun h16 => ?_)
  · refine c_seq <| c_reg <| s_y y_as <| s_nil <| q_then <| c_ret <| q_ret <| ?_
    exact ret1 Tryd.results6 rv_t fun w' hw => ⟨rfl, hw.sub (List.nil_sublist _)⟩
  · refine c_skip <| q_then <| c_seq <| c_reg <| s_y (y_lda (b := b3) (cs := (bs k).toArray) (hl := (hz32 hk))) <| s_bslr (cs := bs k) (hf := fillK hk) (hsz := by rw [bs_length, hk]) fun b18 => s_y y_as <| s_nil <| q_then <| c_seq <| c_seq <| c_reg <| s_y y_as <| s_nil <| q_then <| c_block <| ?_
    refine c_loop3 (fun (i : Nat) (a : Option Addr) (c : Nat) => [(1, .slice a1 rs.length c1), (2, U z), (3, .pointer (some ⟨b3, 0, none⟩)), (7, .slice a (chL k rs (i + 1)).length c), (8, I i)]) (fun i a c => [.row a c 23 32 (chL k rs (i + 1)).length (kcs (chL k rs (i + 1))), .blk b3 (.cells (bs (chN k rs i)).toArray 23 (0, 0))]) (fun i _ _ => i ≤ rs.length) (fun i _ _ => rs.length - i) 0 (some ⟨b18, 0, none⟩) 1 (by omega) ⟨rfl, rfl, rfl, rfl, rfl, trivial⟩ (by rw [show kcs (chL k rs (0 + 1)) = bs k by rw [show chL k rs (0 + 1) = [k] from rfl, kcs_one]]; exact .refl _) ?_
    intro i a c hi
    refine c_seq <| c_seq <| c_reg <| s_y y_mv <| s_y y_mv <| s_y y_len <| s_y (y_lss (p := (i : Int)) (q := rs.length)) <| s_nil <| q_then <| c_ifd (fun h22 => ?_) (fun h22 => ?_)
    · refine c_skip <| q_then <| c_seq <| c_block <| c_seq <| c_regF 7 <| f_y 0 rfl (y_lda (b := b3) (cs := (bs (chN k rs i)).toArray) (hl := (hz32 (chN_length hk rs i)))) <| f_y 2 rfl y_mv <| f_y 3 rfl y_mv <| f_y 4 rfl (y_ixk (a := a1) (ks := rs) (i := i) (m := rs.length) h32 (rdW0 hr) (show i < rs.length by omega) rfl) <| f_y 5 rfl (y_ldk (a := a1) (ks := rs) (i := i) h32 (show i < rs.length by omega) (rdW0 hr)) <| f_w 1 rfl <| s_pure (fun w' hw => sch_Init_ok w' (chN k rs i) (hg.st hw) (chN_length hk rs i)) <| f_k <| f_w 6 rfl <| s_pure (fun w' hw => sch_Epoch_ok w' (expand (chN k rs i) lbInit []) (rs.getD i []) (hg.st hw) (expand_length _ _ _) (h32.get (show i < rs.length by omega))) <| f_k <| f_w 7 rfl <| s_sta (b := b3) (vs := (bs (chN k rs (i + 1))).toArray) (cs := (bs (chN k rs i)).toArray) (h1 := fun v hv => bs_one (by simpa using hv)) (hl := by rw [hz32 (chN_length hk rs (i + 1)), hz32 (chN_length hk rs i)]) (hs1 := hz32 (chN_length hk rs (i + 1))) ?_
      refine f_z <| q_then <| c_reg <| s_y y_mv <| s_y (y_lda (b := b3) (cs := (bs (chN k rs (i + 1))).toArray) (hl := (hz32 (chN_length hk rs (i + 1))))) <| s_bslr (cs := bs (chN k rs (i + 1))) (hf := fillK (chN_length hk rs (i + 1))) (hsz := by rw [bs_length, chN_length hk rs (i + 1)]) fun b34 => s_app (m := 1) (fun w' hw => Src.slice (rdR (.head _) w' hw) (by rw [bs_length, chN_length hk])) (h1 := fun v hv => bs_one hv) (hm := .tail _ (.head _)) (hrep := fun _ _ => .tail _ (.head _)) (hfit := by rw [chL_length]; unfold maxLen; omega) (hby := by rw [chL_length]; omega) fun a35 c35 h35 => ?_
      rw [show kcs (chL k rs (i + 1)) ++ bs (chN k rs (i + 1)) = kcs (chL k rs (i + 1 + 1)) by rw [← chL_succ k rs (i + 1), kcs_append, kcs_one], show (chL k rs (i + 1)).length + 1 = (chL k rs (i + 1 + 1)).length by simp only [chL_length]]
      refine s_y y_as <| s_nil <| q_nb <| q_then <| c_reg <| s_y y_mv <| s_y (y_add (p := (i : Int)) (q := 1)) <| s_y y_as <| s_nil <| ?_
      exact q_round3 (x := i) (y := a) (z := c) (i + 1) a35 c35 (by omega) (by omega) ⟨rfl, rfl, rfl, rfl, rfl, trivial⟩ (.cons _ (.refl _))
    · obtain rfl : i = rs.length := by omega
      have hll := chL_length k rs (rs.length + 1)
      obtain ⟨at', hat⟩ : ∃ at', z % (rs.length + 1) = at' := ⟨_, rfl⟩
      have hatl : at' < rs.length + 1 := by rw [← hat]; exact Nat.mod_lt _ (by omega)
      refine c_exit <| q_ex <| q_ex <| q_exb <| q_then <| c_seq <| c_reg <| s_y y_mv <| s_y y_mv <| s_y y_len <| s_y (y_cvn (k := .u64) (p := ((chL k rs (rs.length + 1)).length : Int)) (hw := wrap_u64 (by omega) (by omega))) <| s_y (y_rem64 (p := z) (q := (chL k rs (rs.length + 1)).length) (hp := hz)) <| ?_
      rw [show z % (chL k rs (rs.length + 1)).length = at' by rw [hll]; exact hat]
      refine s_y (y_cvn (k := .i64) (p := (at' : Int))) <| s_y y_as <| s_nil <| q_then <| c_seq <| c_reg <| s_y y_mv <| s_y y_mv <| s_y (y_ixk (a := a) (ks := chL k rs (rs.length + 1)) (i := at') (m := (chL k rs (rs.length + 1)).length) (chL_32 hk rs _) (rdR (by repeat (first | exact .head _ | apply List.Mem.tail))) (by rw [chL_length]; omega) rfl) <| s_y (y_ldk (a := a) (ks := chL k rs (rs.length + 1)) (i := at') (chL_32 hk rs _) (by rw [chL_length]; omega) (rdR (by repeat (first | exact .head _ | apply List.Mem.tail)))) <| ?_
      rw [chL_get k rs hatl]
      refine s_alloc fun b10 => s_sta (b := b10) (vs := (bs (chN k rs at')).toArray) (cs := (List.replicate 32 (B 0)).toArray) (h1 := fun v hv => bs_one (by simpa using hv)) (hl := by rw [(hz32 (chN_length hk rs at'))]; rfl) (hs1 := (hz32 (chN_length hk rs at'))) ?_
      refine s_nil <| q_then <| c_seq <| c_seq <| c_reg <| s_y y_mv <| s_y y_as <| s_nil <| q_then <| c_block <| ?_
      refine c_loop (fun i : Nat => [(1, .slice a1 rs.length c1), (3, .pointer (some ⟨b3, 0, none⟩)), (7, .slice a (chL k rs (rs.length + 1)).length c), (10, .pointer (some ⟨b10, 0, none⟩)), (11, I i)]) (fun i => [.blk b10 (.cells (bs (chN k rs i)).toArray 23 (0, 0)), .row a c 23 32 (chL k rs (rs.length + 1)).length (kcs (chL k rs (rs.length + 1))), .blk b3 (.cells (bs (chN k rs rs.length)).toArray 23 (0, 0))]) (fun i => i ≤ rs.length) (fun i => rs.length - i) at' (by omega) ⟨rfl, rfl, rfl, rfl, rfl, trivial⟩ (List.Sublist.refl _) ?_
      intro i hi
      refine c_seq <| c_seq <| c_reg <| s_y y_mv <| s_y y_mv <| s_y y_len <| s_y (y_lss (p := (i : Int)) (q := rs.length)) <| s_nil <| q_then <| c_ifd (fun h50 => ?_) (fun h50 => ?_)
      · refine c_skip <| q_then <| c_seq <| c_block <| c_seq <| c_regF 8 <| f_y 0 rfl (y_lda (b := b10) (cs := (bs (chN k rs i)).toArray) (hl := (hz32 (chN_length hk rs i)))) <| f_y 2 rfl y_mv <| f_y 3 rfl y_mv <| f_y 4 rfl (y_ixk (a := a1) (ks := rs) (i := i) (m := rs.length) h32 (rdW0 hr) (show i < rs.length by omega) rfl) <| f_y 5 rfl (y_ldk (a := a1) (ks := rs) (i := i) h32 (show i < rs.length by omega) (rdW0 hr)) <| f_w 1 rfl <| s_pure (fun w' hw => derive_Expand_ok w' (chN k rs i) lbInit none 0 [] (hg.1.st hw) (chN_length hk rs i) (Rd.nil _ _) (by simp) (by decide) (by simp)) <| f_k <| f_w 6 rfl <| s_pure (fun w' hw => derive_Expand_ok w' (rs.getD i []) lbCommit none 0 [] (hg.1.st hw) (h32.get (show i < rs.length by omega)) (Rd.nil _ _) (by simp) (by decide) (by simp)) <| f_k <| f_w 7 rfl <| s_pure (fun w' hw => derive_Mix_ok w' lbEpoch (expand (chN k rs i) lbInit []) (expand (rs.getD i []) lbCommit []) (hg.1.st hw) (expand_length _ _ _) (expand_length _ _ _) (by decide)) <| f_k <| f_w 8 rfl <| s_sta (b := b10) (vs := (bs (chN k rs (i + 1))).toArray) (cs := (bs (chN k rs i)).toArray) (h1 := fun v hv => bs_one (by simpa using hv)) (hl := by rw [hz32 (chN_length hk rs (i + 1)), hz32 (chN_length hk rs i)]) (hs1 := hz32 (chN_length hk rs (i + 1))) ?_
        refine f_z <| q_then <| c_seq <| c_regd <| d_y (y_lda (b := b10) (cs := (bs (chN k rs (i + 1))).toArray) (hl := (hz32 (chN_length hk rs (i + 1))))) <| d_y y_mv <| d_y y_mv <| d_y (y_add (p := (i : Int)) (q := 1)) <| ?_
        rw [show (i : Int) + 1 = ((i + 1 : Nat) : Int) by omega]
        refine d_y (y_ixk (a := a) (ks := chL k rs (rs.length + 1)) (i := i + 1) (m := (chL k rs (rs.length + 1)).length) (chL_32 hk rs _) (rdR (by repeat (first | exact .head _ | apply List.Mem.tail))) (by rw [chL_length]; omega) rfl) <| d_y (y_ldk (a := a) (ks := chL k rs (rs.length + 1)) (i := i + 1) (chL_32 hk rs _) (by rw [chL_length]; omega) (rdR (by repeat (first | exact .head _ | apply List.Mem.tail)))) <| ?_
        rw [chL_get k rs (show i + 1 < rs.length + 1 by omega)]
        refine d_nf (y_neqa (p := chN k rs (i + 1)) (q := chN k rs (i + 1)) (chN_length hk rs (i + 1)) (chN_length hk rs (i + 1)) hgk) rfl <| d_nil <| q_then <| c_f <| c_skip <| q_nb <| q_then <| c_reg <| s_y y_mv <| s_y (y_add (p := (i : Int)) (q := 1)) <| s_y y_as <| s_nil <| ?_
        exact q_round (i + 1) (by omega) (by omega) ⟨rfl, rfl, rfl, rfl, rfl, trivial⟩ (List.Sublist.refl _)
      · obtain rfl : i = rs.length := by omega
        refine c_exit <| q_ex <| q_ex <| q_exb <| q_then <| c_seq <| c_reg <| s_y (y_lda (b := b10) (cs := (bs (chN k rs rs.length)).toArray) (hl := (hz32 (chN_length hk rs _)))) <| s_y (y_lda (b := b3) (cs := (bs (chN k rs rs.length)).toArray) (hl := (hz32 (chN_length hk rs _)))) <| s_kt (y_eqla (p := chN k rs rs.length) (q := chN k rs rs.length) (chN_length hk rs _) (chN_length hk rs _) hgk) rfl <| s_y y_as <| s_nil <| q_then <| c_ret <| ?_
        exact ret1 Tryd.results6 rv_t fun w' hw => ⟨rfl, hw.sub (List.nil_sublist _)⟩
end Go.Proofs.YtmpjmjllfldjdaaDoor
