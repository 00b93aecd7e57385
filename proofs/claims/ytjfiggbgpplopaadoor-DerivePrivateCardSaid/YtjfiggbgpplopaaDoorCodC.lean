/- Checks of values: both programs. -/
import Derived.Test.YtjfiggbgpplopaaDoorCodB
namespace Go.Proofs.YtjfiggbgpplopaaDoor
open Go Eng Cod

theorem Vv.agg {w : World} {v : V} {val : Value} (h : Vv w v val) : ∃ cs : Array Value, val = .agg cs ∧ cs.size = 4 := by
  obtain ⟨k, n, s, l⟩ := v
  rw [Vv] at h
  obtain ⟨a, c, cells, rfl, _⟩ := h
  exact ⟨_, rfl, rfl⟩

theorem codec_Check_ok (w : World) (v : V) (val : Value) (hv : Vv w v val) (hd : v.dep < 9000000000000000000) : Pure Tryd.prog 43 [val] w (I v.chk) := by
  obtain ⟨cs, rfl, hcs⟩ := Vv.agg hv
  refine enter Tryd.func43 Tryd.ntmps43 ?_
  refine c_seq <| c_reg <| s_box rfl fun b1 => s_y y_as <| s_nil <| q_then <| c_seq <| c_reg <| s_y (y_lda (cs := cs) (hl := hcs)) <| s_pure (fun w' hw => codec_formed_ok v w' (.agg cs) (hv.st hw) hd) <| s_y y_mv <| s_y y_ext <| s_y y_ext <| s_y y_as <| s_y y_as <| s_nil <| q_then <| c_seq <| c_block <| c_seq <| c_reg <| s_y y_mv <| s_y y_not <| s_y y_as <| s_nil <| q_then <| c_if rfl (fun h10 => ?_) (fun h10 => ?_)
  · have hno : v.ok = false := by simpa using h10
    refine c_seq <| c_reg <| s_y y_as <| s_nil <| q_then <| c_ret <| q_retb <| q_ret <| ?_
    exact ret1 Tryd.results43 rv_t fun w' hw => ⟨by simp [V.chk, hno], hw.sub (List.nil_sublist _)⟩
  · have hyes : v.ok = true := by simpa using h10
    rw [hyes, if_pos rfl]
    refine c_seq <| c_reg <| s_y y_mv <| s_y y_gtr <| s_y y_as <| s_nil <| q_then <| c_ifd (fun h13 => ?_) (fun h13 => ?_)
    · refine c_seq <| c_reg <| s_y y_as <| s_nil <| q_then <| c_ret <| q_retb <| q_ret <| ?_
      exact ret1 Tryd.results43 rv_t fun w' hw => ⟨by rw [V.chk, if_pos hyes, if_pos (by omega)], hw.sub (List.nil_sublist _)⟩
    · refine c_skip <| q_nb <| q_then <| c_seq <| c_reg <| s_y y_as <| s_nil <| q_then <| c_ret <| ?_
      exact ret1 Tryd.results43 rv_t fun w' hw => ⟨by rw [V.chk, if_pos hyes, if_neg (by omega)], hw.sub (List.nil_sublist _)⟩

theorem ref01_Formed_ok (v : V) : ∀ (w : World) (val : Value), Vv w v val → Pure Tryd.prog 90 [val] w (.bool v.ok) := by
  induction v using V.ind with
  | h k n s l ih =>
    intro w val hv
    rw [Vv] at hv
    obtain ⟨a, c, cells, rfl, hn, ⟨hsl, hll⟩, hr, hcl, hel⟩ := hv
    have hok := ok_eq k n s l
    refine enter Tryd.func90 Tryd.ntmps90 ?_
    refine c_seq <| c_reg <| s_box rfl fun b1 => s_y y_as <| s_nil <| q_then <| c_seq <| c_seq <| c_reg <| s_y y_fa <| s_y (y_ld (v := I k)) <| s_nil <| q_then <| c_block <| c_seq <| c_reg <| s_y y_eql <| s_y y_as <| s_nil <| q_then <| c_ifd (fun h6 => ?_) (fun h6 => ?_)
    · subst h6
      have hok' : V.ok (.mk 1 n s l) = (decide (sb s = sb []) && decide ((l.length : Int) = 0)) := by rw [hok]; simp
      rw [hok']
      refine c_seq <| c_reg <| s_y y_fa <| s_y y_ld <| s_ifd (y_eqls (b := sb [])) (fun h10 => ?_) (fun h10 => ?_)
      · refine s_y y_mv <| s_y y_fa <| s_y y_ld <| s_y y_len <| s_y y_eql <| s_y y_pk <| s_y y_as <| s_nil <| q_then <| c_ret <| q_retb <| q_ret <| ?_
        exact ret1 Tryd.results90 rv_t fun w' hw => ⟨by rw [decide_eq_true h10]; rfl, hw.sub (List.nil_sublist _)⟩
      · refine s_y y_mv <| s_no <| s_no <| s_no <| s_no <| s_y y_pk <| s_y y_as <| s_nil <| q_then <| c_ret <| q_retb <| q_ret <| ?_
        exact ret1 Tryd.results90 rv_t fun w' hw => ⟨by rw [decide_eq_false h10]; rfl, hw.sub (List.nil_sublist _)⟩
    · refine c_seq <| c_reg <| s_y y_eql <| s_y y_as <| s_nil <| q_then <| c_ifd (fun h17 => ?_) (fun h17 => ?_)
      · subst h17
        have hok' : V.ok (.mk 2 n s l) = (decide (n = 0) && decide ((l.length : Int) = 0)) := by rw [hok]; simp
        rw [hok']
        refine c_seq <| c_reg <| s_y y_fa <| s_y y_ld <| s_ifd y_eql (fun h21 => ?_) (fun h21 => ?_)
        · refine s_y y_mv <| s_y y_fa <| s_y y_ld <| s_y y_len <| s_y y_eql <| s_y y_pk <| s_y y_as <| s_nil <| q_then <| c_ret <| q_retb <| q_ret <| ?_
          exact ret1 Tryd.results90 rv_t fun w' hw => ⟨by rw [decide_eq_true h21]; rfl, hw.sub (List.nil_sublist _)⟩
        · refine s_y y_mv <| s_no <| s_no <| s_no <| s_no <| s_y y_pk <| s_y y_as <| s_nil <| q_then <| c_ret <| q_retb <| q_ret <| ?_
          exact ret1 Tryd.results90 rv_t fun w' hw => ⟨by rw [decide_eq_false h21]; rfl, hw.sub (List.nil_sublist _)⟩
      · refine c_seq <| c_reg <| s_y y_eql <| s_y y_as <| s_nil <| q_then <| c_ifd (fun h28 => ?_) (fun h28 => ?_)
        · subst h28
          have hok' : V.ok (.mk 3 n s l) = ((decide (n = 0) && decide (sb s = sb [])) && okL l) := by rw [hok]; simp
          rw [hok']
          refine c_seq <| c_seq <| c_reg <| s_y y_as <| s_nil <| q_then <| c_block <| ?_
          refine c_loop (fun i : Nat => [(1, .pointer (some ⟨b1, 0, none⟩)), (2, .bool false), (3, I i)]) (fun _ => [.blk b1 (.cells #[I 3, I n, .string (sb s), .slice a l.length c] 48 (0, 0))]) (fun i => i ≤ l.length ∧ okL (l.take i) = true) (fun i => l.length - i) 0 ⟨by omega, rfl⟩ ⟨rfl, rfl, rfl, trivial⟩ (List.Sublist.refl _) ?_
          rintro i ⟨hi, hoki⟩
          refine c_seq <| c_seq <| c_reg <| s_y y_mv <| s_y y_fa <| s_y y_ld <| s_y y_len <| s_y y_lss <| s_nil <| q_then <| c_ifd (fun h34 => ?_) (fun h34 => ?_)
          · have hil : i < l.length := by omega
            obtain ⟨hvi, h4, hcell⟩ := Vv.get hcl hel hil
            have hot := okL_take l i hil
            generalize (cells.drop (i * 4)).take 4 = cs at *
            refine c_skip <| q_then <| c_seq <| c_block <| c_seq <| c_reg <| s_y y_fa <| s_y (y_ld (v := .slice a l.length c)) <| s_y y_mv <| s_y (y_ixs (xs := cells) (hl := by omega)) <| s_y (y_ldra (i := i * 4) (cs := cs) (rdW0 hr) h4 hcell) <| s_pure (fun w' hw => ih i hil w' (.agg cs.toArray) (hvi.st hw)) <| s_y y_not <| s_nil <| q_then <| c_if rfl (fun h43 => ?_) (fun h43 => ?_)
            · have hoe : (l[i]).ok = false := by simpa using h43
              refine c_seq <| c_reg <| s_y y_as <| s_nil <| q_then <| c_ret <| q_retb <| q_ret <| q_ret <| q_retb <| q_ret <| q_retb <| q_ret <| ?_
              exact ret1 Tryd.results90 rv_t fun w' hw => ⟨by rw [okL_not i hil hoe, Bool.and_false], hw.sub (List.nil_sublist _)⟩
            · have hoe : (l[i]).ok = true := by simpa using h43
              refine c_skip <| q_nb <| q_then <| c_reg <| s_y y_mv <| s_y y_add <| s_y y_as <| s_nil <| q_round (i + 1) ⟨by omega, by rw [hot, hoki, hoe]; rfl⟩ (by omega) ⟨rfl, rfl, rfl, trivial⟩ (List.Sublist.refl _)
          · have hlt : l.take i = l := List.take_of_length_le (by omega)
            rw [hlt] at hoki
            rw [hoki, Bool.and_true]
            refine c_exit <| q_ex <| q_ex <| q_exb <| q_then <| c_seq <| c_reg <| s_y y_fa <| s_y y_ld <| s_ifd y_eql (fun h46 => ?_) (fun h46 => ?_)
            · refine s_y y_mv <| s_y y_fa <| s_y y_ld <| s_y (y_eqls (b := sb [])) <| s_y y_pk <| s_y y_as <| s_nil <| q_then <| c_ret <| q_retb <| q_ret <| ?_
              exact ret1 Tryd.results90 rv_t fun w' hw => ⟨by rw [decide_eq_true h46]; rfl, hw.sub (List.nil_sublist _)⟩
            · refine s_y y_mv <| s_no <| s_no <| s_no <| s_y y_pk <| s_y y_as <| s_nil <| q_then <| c_ret <| q_retb <| q_ret <| ?_
              exact ret1 Tryd.results90 rv_t fun w' hw => ⟨by rw [decide_eq_false h46]; rfl, hw.sub (List.nil_sublist _)⟩
        · refine c_skip <| q_nb <| q_then <| c_seq <| c_reg <| s_y y_as <| s_nil <| q_then <| c_ret <| ?_
          exact ret1 Tryd.results90 rv_t fun w' hw => ⟨by rw [hok, decide_eq_false h6, decide_eq_false h17, decide_eq_false h28]; rfl, hw.sub (List.nil_sublist _)⟩

theorem ref01_Depth_ok (v : V) : ∀ (w : World) (val : Value), Vv w v val → v.dep < 9000000000000000000 → Pure Tryd.prog 91 [val] w (I v.dep) := by
  induction v using V.ind with
  | h k n s l ih =>
    intro w val hv hdep
    rw [Vv] at hv
    obtain ⟨a, c, cells, rfl, hn, ⟨hsl, hll⟩, hr, hcl, hel⟩ := hv
    refine enter Tryd.func91 Tryd.ntmps91 ?_
    refine c_seq <| c_reg <| s_box rfl fun b1 => s_y y_as <| s_nil <| q_then <| c_seq <| c_seq <| c_reg <| s_y y_fa <| s_y (y_ld (v := I k)) <| s_y y_neq <| s_nil <| q_then <| c_ifn (fun h7 => ?_) (fun h7 => ?_)
    · refine c_seq <| c_reg <| s_y y_as <| s_nil <| q_then <| c_ret <| q_ret <| ?_
      exact ret1 Tryd.results91 rv_t fun w' hw => ⟨by rw [V.dep, if_neg h7]; rfl, hw.sub (List.nil_sublist _)⟩
    · subst h7
      have hde : (V.mk 3 n s l).dep = depL l + 1 := by rw [V.dep, if_pos rfl]
      rw [hde]
      refine c_skip <| q_then <| c_seq <| c_reg <| s_y y_as <| s_nil <| q_then <| c_seq <| c_seq <| c_reg <| s_y y_as <| s_nil <| q_then <| c_block <| ?_
      refine c_loop (fun i : Nat => [(1, .pointer (some ⟨b1, 0, none⟩)), (3, I ((depL (l.take i) : Nat) : Int)), (4, I i)]) (fun _ => [.blk b1 (.cells #[I 3, I n, .string (sb s), .slice a l.length c] 48 (0, 0))]) (fun i => i ≤ l.length) (fun i => l.length - i) 0 (by omega) ⟨rfl, rfl, rfl, trivial⟩ (List.Sublist.refl _) ?_
      intro i hi
      refine c_seq <| c_seq <| c_reg <| s_y y_mv <| s_y y_fa <| s_y y_ld <| s_y y_len <| s_y y_lss <| s_nil <| q_then <| c_ifd (fun h12 => ?_) (fun h12 => ?_)
      · have hil : i < l.length := by omega
        obtain ⟨hvi, h4, hcell⟩ := Vv.get hcl hel hil
        have hdi := dep_le i hil
        have hdt := depL_take l i hil
        generalize (cells.drop (i * 4)).take 4 = cs at *
        refine c_skip <| q_then <| c_seq <| c_block <| c_reg <| s_y y_mv <| s_y y_fa <| s_y (y_ld (v := .slice a l.length c)) <| s_y y_mv <| s_y (y_ixs (xs := cells) (hl := by omega)) <| s_y (y_ldra (i := i * 4) (cs := cs) (rdW0 hr) h4 hcell) <| s_pure (fun w' hw => ih i hil w' (.agg cs.toArray) (hvi.st hw) (by omega)) <| s_y y_max <| ?_
        rw [show max ((depL (l.take i) : Nat) : Int) ((l[i]).dep : Int) = ((depL (l.take (i + 1)) : Nat) : Int) by rw [hdt]; omega]
        exact s_y y_as <| s_nil <| q_nb <| q_then <| c_reg <| s_y y_mv <| s_y y_add <| s_y y_as <| s_nil <| q_round (i + 1) (by omega) (by omega) ⟨rfl, rfl, rfl, trivial⟩ (List.Sublist.refl _)
      · have hlt : l.take i = l := List.take_of_length_le (by omega)
        rw [hlt]
        refine c_exit <| q_ex <| q_ex <| q_exb <| q_then <| c_seq <| c_reg <| s_y y_mv <| s_y y_add <| s_y y_as <| s_nil <| q_then <| c_ret <| ?_
        exact ret1 Tryd.results91 rv_t fun w' hw => ⟨rfl, hw.sub (List.nil_sublist _)⟩

theorem ref01_Check_ok (w : World) (v : V) (val : Value) (hv : Vv w v val) (hd : v.dep < 9000000000000000000) : Pure Tryd.prog 79 [val] w (I v.chk) := by
  obtain ⟨cs, rfl, hcs⟩ := Vv.agg hv
  refine enter Tryd.func79 Tryd.ntmps79 ?_
  refine c_seq <| c_reg <| s_box rfl fun b1 => s_y y_as <| s_nil <| q_then <| c_seq <| c_seq <| c_reg <| s_y (y_lda (cs := cs) (hl := hcs)) <| s_pure (fun w' hw => ref01_Formed_ok v w' (.agg cs) (hv.st hw)) <| s_y y_not <| s_nil <| q_then <| c_if rfl (fun h5 => ?_) (fun h5 => ?_)
  · have hno : v.ok = false := by simpa using h5
    refine c_seq <| c_reg <| s_y y_as <| s_nil <| q_then <| c_ret <| q_ret <| ?_
    exact ret1 Tryd.results79 rv_t fun w' hw => ⟨by simp [V.chk, hno], hw.sub (List.nil_sublist _)⟩
  · have hyes : v.ok = true := by simpa using h5
    refine c_skip <| q_then <| c_seq <| c_seq <| c_reg <| s_y (y_lda (cs := cs) (hl := hcs)) <| s_pure (fun w' hw => ref01_Depth_ok v w' (.agg cs) (hv.st hw) hd) <| s_y y_gtr <| s_nil <| q_then <| c_ifd (fun h8 => ?_) (fun h8 => ?_)
    · refine c_seq <| c_reg <| s_y y_as <| s_nil <| q_then <| c_ret <| q_ret <| ?_
      exact ret1 Tryd.results79 rv_t fun w' hw => ⟨by rw [V.chk, if_pos hyes, if_pos (by omega)], hw.sub (List.nil_sublist _)⟩
    · refine c_skip <| q_then <| c_seq <| c_reg <| s_y y_as <| s_nil <| q_then <| c_ret <| ?_
      exact ret1 Tryd.results79 rv_t fun w' hw => ⟨by rw [V.chk, if_pos hyes, if_neg (by omega)], hw.sub (List.nil_sublist _)⟩
end Go.Proofs.YtjfiggbgpplopaaDoor
