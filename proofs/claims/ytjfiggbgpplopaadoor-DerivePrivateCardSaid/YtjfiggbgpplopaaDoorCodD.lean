/- Encodings: the specification. -/
import Derived.Test.YtjfiggbgpplopaaDoorCodC
namespace Go.Proofs.YtjfiggbgpplopaaDoor
open Go Eng Cod

theorem len_app {α : Type} (a b : List α) : (a ++ b).length = a.length + b.length := List.length_append

theorem enc_ge (k n : Int) (s : List UInt8) (l : List V) (h1 : ¬ k = 1) : (if k = 2 then (num s.length).length + s.length + 1 else (num l.length).length + (encL l).length + 1) = (V.enc (.mk k n s l)).length := by
  rw [V.enc, if_neg h1]
  split
  · simp
  · simp

theorem ref01_encode_ok (v : V) : ∀ (w : World) (val : Value), Vv w v val → v.enc.length ≤ 140737488355000 → GivesB Tryd.prog 80 [val] w v.enc := by
  induction v using V.ind with
  | h k n s l ih =>
    intro w val hv hlen
    rw [Vv] at hv
    obtain ⟨a, c, cells, rfl, hn, ⟨hsl, hll⟩, hr, hcl, hel⟩ := hv
    refine enter Tryd.func80 Tryd.ntmps80 ?_
    refine c_seq <| c_reg <| s_box rfl fun b1 => s_y y_as <| s_nil <| q_then <| c_seq <| c_seq <| c_reg <| s_y y_fa <| s_y (y_ld (v := I k)) <| s_nil <| q_then <| c_block <| c_seq <| c_reg <| s_y y_eql <| s_y y_as <| s_nil <| q_then <| c_ifd (fun h7 => ?_) (fun h7 => ?_)
    · have henc : V.enc (.mk k n s l) = [1] ++ num (uns n) := by rw [V.enc, if_pos h7]; rfl
      have hn10 := num_le (uns_lt hn)
      rw [henc]
      refine c_seq <| c_reg <| s_bslr (cs := bs [1]) fun b9 => s_y y_fa <| s_y (y_ld (v := I n)) <| s_pure (fun w' hw => ref01_unsigned_ok w' n hn) <| s_gives (fun w' hw => ref01_numeral_ok w' (uns n) (uns_lt hn)) fun x _ => s_app (m := (num (uns n)).length) (srcB (q := num (uns n)) (rdR (.head _)) rfl) (h1 := fun v hv => bs_one hv) fun a14 c14 h14 => s_y y_as <| s_nil <| q_then <| c_ret <| q_retb <| q_ret <| ?_
      refine ret1 Tryd.results80 rv_t fun w' hw => ⟨(a14, c14), trivial, ?_, ?_⟩
      · rw [List.length_append, List.length_singleton]
      · rw [List.length_append, List.length_singleton, bs_append]
        exact hw.sub (.cons _ (.cons_cons _ (List.nil_sublist _)))
    · have hge := enc_ge k n s l h7
      refine c_seq <| c_reg <| s_y y_eql <| s_y y_as <| s_nil <| q_then <| c_ifd (fun h15 => ?_) (fun h15 => ?_)
      · have henc : V.enc (.mk k n s l) = [2] ++ num s.length ++ s := by rw [V.enc, if_neg h7, if_pos h15]; simp
        rw [if_pos h15] at hge
        have hn10 := num_le (u := s.length) (by omega)
        refine c_seq <| c_regL [.blk b1 (.cells #[I k, I n, .string (sb s), .slice a l.length c] 48 (0, 0))] <| r_y 1 rfl y_fa <| r_y 2 rfl (y_ld (v := .string (sb s))) <| r_y 3 rfl y_lens <| ?_
        rw [sb_size]
        refine r_y 4 rfl (y_cvn (p := (s.length : Int))) <| r_y 7 rfl y_fa <| r_y 8 rfl (y_ld (v := .string (sb s))) <| ?_
        rw [henc]
        refine r_w2 0 5 rfl rfl ?_ ?_
        · refine s_bslr (cs := bs [2]) fun b17 => r_K <| r_W 5 rfl <| s_gives (fun w' hw => ref01_numeral_ok w' s.length (by omega)) fun x _ => r_K <| r_W 6 rfl <| s_app (m := (num s.length).length) (srcB (q := num s.length) (rdR (.head _)) rfl) (h1 := fun v hv => bs_one hv) fun a23 c23 h23 => ?_
          refine r_K <| r_W 9 rfl <| s_app (m := (sb s).size) (srcS (b := sb s)) (h1 := fun v hv => bs_one hv) (hfit := by rw [sb_size]; unfold maxLen; omega) (hby := by rw [sb_size]; omega) fun a26 c26 h26 => ?_
          refine r_K <| r_y 10 rfl y_as <| r_E <| q_then <| c_ret <| q_retb <| q_ret <| ?_
          refine ret1 Tryd.results80 rv_t fun w' hw => ⟨(a26, c26), trivial, ?_, ?_⟩
          · rw [List.length_append, List.length_append, List.length_singleton, sb_size]
          · rw [List.length_append, List.length_append, List.length_singleton, bs_append, bs_append]
            exact hw.sub (.cons _ (.cons_cons _ (List.nil_sublist _)))
        · refine s_gives (fun w' hw => ref01_numeral_ok w' s.length (by omega)) fun x _ => r_K <| r_W 0 rfl <| s_bslr (cs := bs [2]) fun b17 => r_K <| r_W 6 rfl <| s_app (m := (num s.length).length) (srcB (q := num s.length) (rdR (.tail _ (.head _))) rfl) (h1 := fun v hv => bs_one hv) fun a23 c23 h23 => ?_
          refine r_K <| r_W 9 rfl <| s_app (m := (sb s).size) (srcS (b := sb s)) (h1 := fun v hv => bs_one hv) (hfit := by rw [sb_size]; unfold maxLen; omega) (hby := by rw [sb_size]; omega) fun a26 c26 h26 => ?_
          refine r_K <| r_y 10 rfl y_as <| r_E <| q_then <| c_ret <| q_retb <| q_ret <| ?_
          refine ret1 Tryd.results80 rv_t fun w' hw => ⟨(a26, c26), trivial, ?_, ?_⟩
          · rw [List.length_append, List.length_append, List.length_singleton, sb_size]
          · rw [List.length_append, List.length_append, List.length_singleton, bs_append, bs_append]
            exact hw.sub (.cons_cons _ (List.nil_sublist _))
      · have henc : V.enc (.mk k n s l) = [3] ++ num l.length ++ encL l := by rw [V.enc, if_neg h7, if_neg h15]; simp
        rw [if_neg h15] at hge
        have hn10 := num_le (u := l.length) (by omega)
        rw [henc]
        refine c_skip <| q_nb <| q_then <| c_seq <| c_reg <| s_bslr (cs := bs [3]) fun b27 => s_y y_fa <| s_y (y_ld (v := .slice a l.length c)) <| s_y y_len <| s_y y_cvn <| s_gives (fun w' hw => ref01_numeral_ok w' l.length (by omega)) fun x _ => s_app (m := (num l.length).length) (srcB (q := num l.length) (rdR (.head _)) rfl) (h1 := fun v hv => bs_one hv) fun a33 c33 h33 => ?_
        rw [show 1 + (num l.length).length = ([3] ++ num l.length ++ encL (l.take 0)).length by simp [encL]; omega, ← bs_append, show bs ([3] ++ num l.length) = bs ([3] ++ num l.length ++ encL (l.take 0)) by simp [encL]]
        refine s_y y_as <| s_nil <| q_then <| c_seq <| c_seq <| c_reg <| s_y y_as <| s_nil <| q_then <| c_block <| ?_
        refine c_loop3 (fun (i : Nat) (a' : Option Addr) (c' : Nat) => [(1, .pointer (some ⟨b1, 0, none⟩)), (3, .slice a' ([3] ++ num l.length ++ encL (l.take i)).length c'), (4, I i)]) (fun i a' c' => [.row a' c' 5 1 ([3] ++ num l.length ++ encL (l.take i)).length (bs ([3] ++ num l.length ++ encL (l.take i))), .blk b1 (.cells #[I k, I n, .string (sb s), .slice a l.length c] 48 (0, 0))]) (fun i _ _ => i ≤ l.length) (fun i _ _ => l.length - i) 0 a33 c33 (by omega) ⟨rfl, rfl, rfl, trivial⟩ (.cons _ (.refl _)) ?_
        intro i a' c' hi
        refine c_seq <| c_seq <| c_reg <| s_y y_mv <| s_y y_fa <| s_y (y_ld (v := .slice a l.length c)) <| s_y y_len <| s_y y_lss <| s_nil <| q_then <| c_ifd (fun h38 => ?_) (fun h38 => ?_)
        · have hil : i < l.length := by omega
          obtain ⟨hvi, h4, hcell⟩ := Vv.get hcl hel hil
          have hel2 := encL_ge l i hil
          have het := encL_take l i hil
          generalize (cells.drop (i * 4)).take 4 = cs at *
          have hal : ([3] ++ num l.length ++ encL (l.take i)).length = 1 + (num l.length).length + (encL (l.take i)).length := by simp only [List.length_append, List.length_singleton]
          have hae : [3] ++ num l.length ++ encL (l.take (i + 1)) = [3] ++ num l.length ++ encL (l.take i) ++ (l[i]).enc := by rw [het]; simp
          refine c_skip <| q_then <| c_seq <| c_block <| c_reg <| s_y y_mv <| s_y y_fa <| s_y (y_ld (v := .slice a l.length c)) <| s_y y_mv <| s_y (y_ixs (xs := cells) (hl := by omega)) <| s_y (y_ldra (i := i * 4) (cs := cs) (rdW0 hr) h4 hcell) <| s_gives (fun w' hw => ih i hil w' (.agg cs.toArray) (hvi.st hw) (by omega)) fun x _ => s_app (m := (l[i]).enc.length) (srcB (q := (l[i]).enc) (rdR (.head _)) rfl) (h1 := fun v hv => bs_one hv) fun a48 c48 h48 => s_y y_as <| s_nil <| q_nb <| q_then <| c_reg <| s_y y_mv <| s_y y_add <| s_y y_as <| s_nil <| ?_
          refine q_round3 (y := a') (z := c') (i + 1) a48 c48 (by omega) (by omega) ⟨rfl, ?_, rfl, trivial⟩ ?_
          · rw [hae, len_app ([3] ++ num l.length ++ encL (l.take i))]; rfl
          · rw [hae, len_app ([3] ++ num l.length ++ encL (l.take i)), bs_append ([3] ++ num l.length ++ encL (l.take i))]
            exact List.sublist_cons_self _ _
        · have hlt : l.take i = l := List.take_of_length_le (by omega)
          rw [hlt]
          refine c_exit <| q_ex <| q_ex <| q_exb <| q_then <| c_seq <| c_reg <| s_y y_mv <| s_y y_as <| s_nil <| q_then <| c_ret <| ?_
          exact ret1 Tryd.results80 rv_t fun w' hw => ⟨(a', c'), trivial, rfl, hw.sub (.cons_cons _ (List.nil_sublist _))⟩

theorem ref01_Encode_ok (w : World) (v : V) (val : Value) (hv : Vv w v val) (hd : v.dep < 9000000000000000000) (hlen : v.enc.length ≤ 140737488355000) :
    Gives Tryd.prog 54 [val] w [] (fun x : Option Addr × Nat => .tuple #[.slice x.1 v.encd.length x.2, I v.chk]) (fun x => [.row x.1 x.2 5 1 v.encd.length (bs v.encd)]) (fun _ => True) := by
  obtain ⟨cs, rfl, hcs⟩ := Vv.agg hv
  refine enter Tryd.func54 Tryd.ntmps54 ?_
  refine c_seq <| c_reg <| s_box rfl fun b1 => s_y y_as <| s_y y_as <| s_nil <| q_then <| c_seq <| c_reg <| s_y (y_lda (cs := cs) (hl := hcs)) <| s_pure (fun w' hw => ref01_Check_ok w' v (.agg cs) (hv.st hw) hd) <| s_y y_as <| s_nil <| q_then <| c_seq <| c_seq <| c_reg <| s_y y_mv <| s_y y_neq <| s_nil <| q_then <| c_ifn (fun h8 => ?_) (fun h8 => ?_)
  · have he : v.encd = [] := by rw [V.encd, if_neg h8]
    rw [he]
    refine c_seq <| c_reg <| s_y y_mv <| s_y y_as <| s_y y_as <| s_nil <| q_then <| c_ret <| q_ret <| ?_
    exact ret2 Tryd.results54 rv_t rv_t fun w' hw => ⟨(none, 0), trivial, rfl, (hw.sub (List.nil_sublist _)).nilRow _ _⟩
  · have he : v.encd = v.enc := by rw [V.encd, if_pos h8]
    rw [he, h8]
    refine c_skip <| q_then <| c_seq <| c_reg <| s_y (y_lda (cs := cs) (hl := hcs)) <| s_gives (fun w' hw => ref01_encode_ok v w' (.agg cs) (hv.st hw) hlen) fun x _ => s_y y_as <| s_y y_as <| s_nil <| q_then <| c_ret <| ?_
    exact ret2 Tryd.results54 rv_t rv_t fun w' hw => ⟨x, trivial, rfl, hw.sub (.cons_cons _ (List.nil_sublist _))⟩
end Go.Proofs.YtjfiggbgpplopaaDoor
