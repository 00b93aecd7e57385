/- Encodings: the program. -/
import Derived.Test.YtjfiggbgpplopaaDoorCodD
namespace Go.Proofs.YtjfiggbgpplopaaDoor
open Go Eng Cod

/-- the writers, in memory -/
def wcells (b1 : Nat) : List Value := [.nilFunc, .func (.func 66) #[] #[], .func (.func 69) #[] #[], .func (.func 70) #[] #[.pointer (some ⟨b1, 0, none⟩)]]
def Wr (W0 : World) (b1 bw : Nat) : Prop := Rd W0 (some ⟨b1, 0, none⟩) [.pointer (some ⟨bw, 0, none⟩)] ∧ Rd W0 (some ⟨bw, 0, none⟩) (wcells b1)
def wf (k : Int) : FuncId := if k = 1 then 66 else if k = 2 then 69 else 70
def wc (k : Int) (b1 : Nat) : List Value := if k = 3 then [.pointer (some ⟨b1, 0, none⟩)] else []
theorem hfW (k : Int) : HF Tryd.prog (wf k) := by
  unfold wf
  split
  · infer_instance
  · split <;> infer_instance
theorem wcell {k : Int} (b1 : Nat) (h : k = 1 ∨ k = 2 ∨ k = 3) : (wcells b1)[k.toNat]? = some (.func (.func (wf k)) #[] (wc k b1).toArray) := by
  rcases h with rfl | rfl | rfl <;> rfl
theorem ok_kind {v : V} (h : v.ok = true) : v.k = 1 ∨ v.k = 2 ∨ v.k = 3 := by
  obtain ⟨k, n, s, l⟩ := v
  rw [ok_eq] at h
  show k = 1 ∨ k = 2 ∨ k = 3
  by_cases h1 : k = 1
  · exact .inl h1
  · by_cases h2 : k = 2
    · exact .inr (.inl h2)
    · by_cases h3 : k = 3
      · exact .inr (.inr h3)
      · rw [decide_eq_false h1, decide_eq_false h2, decide_eq_false h3] at h; cases h
theorem Vv.kind {w : World} {v : V} {cs : List Value} (h : Vv w v (.agg cs.toArray)) : cs[0]? = some (I v.k) := by
  obtain ⟨k, n, s, l⟩ := v
  rw [Vv] at h
  obtain ⟨a, c, cells, he, _⟩ := h
  simp only [Value.agg.injEq] at he
  have := congrArg Array.toList he
  simp only at this
  rw [this]; rfl

theorem write_ok (v : V) : ∀ (W0 w : World) (val : Value) (b1 bw : Nat) (a : Option Addr) (c : Nat) (q : List UInt8), Vv W0 v val → v.ok = true → Wr W0 b1 bw → St W0 [] w [.row a c 5 1 q.length (bs q)] → q.length + v.enc.length ≤ 140737488355000 →
    Gives Tryd.prog (wf v.k) ([.slice a q.length c, val] ++ wc v.k b1) w (keys [.row a c 5 1 q.length (bs q)]) (fun x : Option Addr × Nat => .slice x.1 (q ++ v.enc).length x.2) (fun x => [.row x.1 x.2 5 1 (q ++ v.enc).length (bs (q ++ v.enc))]) (fun _ => True) := by
  induction v using V.ind with
  | h k n s l ih =>
    intro W0 w val b1 bw a c q hv hok hwr hs hlen
    have hkind : k = 1 ∨ k = 2 ∨ k = 3 := ok_kind hok
    rw [Vv] at hv
    obtain ⟨av, cv, cells, rfl, hn, ⟨hsl, hll⟩, hr, hcl, hel⟩ := hv
    have hrow := (hs.own _ (.head _)).1
    rcases hkind with rfl | rfl | rfl
    · have henc : V.enc (.mk 1 n s l) = [1] ++ num (uns n) := by rw [V.enc, if_pos rfl]; rfl
      rw [henc] at hlen ⊢
      have hn10 := num_le (uns_lt hn)
      refine enterR Tryd.func66 Tryd.ntmps66 hrow ?_
      refine c_seq <| c_reg <| s_box rfl fun b3 => s_y y_as <| s_nil <| q_then <| c_seq <| c_regL [.blk b3 (.cells #[I 1, I n, .string (sb s), .slice av l.length cv] 48 (0, 0))] <| r_y 0 rfl y_mv <| r_y 3 rfl y_fa <| r_y 4 rfl (y_ld (v := I n)) <| r_W 1 rfl <| s_bslr (cs := bs [1]) fun b6 => r_K <| r_W 2 rfl <| s_app (m := 1) (srcB (q := [1]) (rdR (.head _))) (h1 := fun v hv => bs_one hv) (hfit := by unfold maxLen; simp at hlen; omega) (hby := by simp at hlen; omega) fun a7 c7 h7 => ?_
      rw [← bs_append, show q.length + 1 = (q ++ [1]).length by simp]
      refine r_K <| r_W 5 rfl <| s_pure (fun w' hw => codec_unsigned_ok w' n hn) <| r_K <| r_W 6 rfl <| s_upd (fun w' hw => codec_numeral_ok w' (uns n) a7 c7 (q ++ [1]) (uns_lt hn) (hw.own _ (.tail _ (.tail _ (.head _)))).1 (by simp at hlen ⊢; omega)) (fun _ => .tail _ (.tail _ (.head _))) (fun x _ => ?_)
      rw [List.append_assoc]
      refine r_K <| r_y 7 rfl y_as <| r_E <| q_then <| c_ret <| ?_
      exact ret1 Tryd.results66 rv_t fun w' hw => ⟨x, trivial, rfl, hw.sub (.cons _ (.cons _ (.refl _)))⟩
    · have henc : V.enc (.mk 2 n s l) = [2] ++ num s.length ++ s := by rw [V.enc, if_neg (by decide), if_pos rfl]; simp
      rw [henc] at hlen ⊢
      have hn10 := num_le (u := s.length) (by omega)
      have hle : q.length + (1 + (num s.length).length + s.length) ≤ 140737488355000 := by simp at hlen; omega
      refine enterR Tryd.func69 Tryd.ntmps69 hrow ?_
      refine c_seq <| c_reg <| s_box rfl fun b3 => s_y y_as <| s_nil <| q_then <| c_seq <| c_regL [.blk b3 (.cells #[I 2, I n, .string (sb s), .slice av l.length cv] 48 (0, 0))] <| r_y 0 rfl y_mv <| r_y 3 rfl y_fa <| r_y 4 rfl (y_ld (v := .string (sb s))) <| r_y 5 rfl y_lens <| ?_
      rw [sb_size]
      refine r_y 6 rfl (y_cvn (p := (s.length : Int))) <| r_y 8 rfl y_fa <| r_y 9 rfl (y_ld (v := .string (sb s))) <| r_W 1 rfl <| s_bslr (cs := bs [2]) fun b6 => r_K <| r_W 2 rfl <| s_app (m := 1) (srcB (q := [2]) (rdR (.head _))) (h1 := fun v hv => bs_one hv) fun a7 c7 h7 => ?_
      rw [← bs_append, show q.length + 1 = (q ++ [2]).length by simp]
      refine r_K <| r_W 7 rfl <| s_upd (fun w' hw => codec_numeral_ok w' s.length a7 c7 (q ++ [2]) (by omega) (hw.own _ (.tail _ (.tail _ (.head _)))).1 (by simp; omega)) (fun _ => .tail _ (.tail _ (.head _))) (fun x _ => ?_)
      have hq2 : (q ++ [2] ++ num s.length).length = q.length + 1 + (num s.length).length := by rw [len_app, len_app]; rfl
      refine r_K <| r_W 10 rfl <| s_app (m := (sb s).size) (srcS (b := sb s)) (h1 := fun v hv => bs_one hv) (hfit := by rw [sb_size]; unfold maxLen; omega) (hby := by rw [sb_size]; omega) fun a15 c15 h15 => ?_
      have hall : q ++ ([2] ++ num s.length ++ s) = q ++ [2] ++ num s.length ++ s := by simp only [List.append_assoc]
      rw [hall]
      refine r_K <| r_y 11 rfl y_as <| r_E <| q_then <| c_ret <| ?_
      refine ret1 Tryd.results69 rv_t fun w' hw => ⟨(a15, c15), trivial, ?_, ?_⟩
      · rw [len_app (q ++ [2] ++ num s.length), sb_size]
      · rw [len_app (q ++ [2] ++ num s.length), bs_append (q ++ [2] ++ num s.length)]
        exact hw.sub (.cons _ (.cons _ (.refl _)))
    · have henc : V.enc (.mk 3 n s l) = [3] ++ num l.length ++ encL l := by rw [V.enc, if_neg (by decide), if_neg (by decide)]; simp
      have hokl : okL l = true := by
        rw [ok_eq] at hok
        simp at hok
        exact hok.2
      rw [henc] at hlen ⊢
      have hn10 := num_le (u := l.length) (by omega)
      have hle : q.length + (1 + (num l.length).length + (encL l).length) ≤ 140737488355000 := by simp at hlen; omega
      refine enterR Tryd.func70 Tryd.ntmps70 hrow ?_
      refine c_seq <| c_reg <| s_box rfl fun b4 => s_y y_as <| s_nil <| q_then <| c_seq <| c_regL [.blk b4 (.cells #[I 3, I n, .string (sb s), .slice av l.length cv] 48 (0, 0))] <| r_y 0 rfl y_mv <| r_y 3 rfl y_fa <| r_y 4 rfl (y_ld (v := .slice av l.length cv)) <| r_y 5 rfl y_len <| r_y 6 rfl y_cvn <| r_W 1 rfl <| s_bslr (cs := bs [3]) fun b9 => r_K <| r_W 2 rfl <| s_app (m := 1) (srcB (q := [3]) (rdR (.head _))) (h1 := fun v hv => bs_one hv) fun a10 c10 h10 => ?_
      rw [← bs_append, show q.length + 1 = (q ++ [3]).length by simp]
      refine r_K <| r_W 7 rfl <| s_upd (fun w' hw => codec_numeral_ok w' l.length a10 c10 (q ++ [3]) (by omega) (hw.own _ (.tail _ (.tail _ (.head _)))).1 (by simp; omega)) (fun _ => .tail _ (.tail _ (.head _))) (fun x _ => ?_)
      have h0 : q ++ [3] ++ num l.length = q ++ [3] ++ num l.length ++ encL (l.take 0) := by simp [encL]
      rw [h0]
      refine r_K <| r_y 8 rfl y_as <| r_E <| q_then <| c_seq <| c_seq <| c_reg <| s_y y_fa <| s_y (y_ld (v := .slice av l.length cv)) <| s_y y_len <| s_y y_mv <| s_nil <| q_then <| c_block <| ?_
      refine c_loop3 (fun (i : Nat) (a' : Option Addr) (c' : Nat) => [(0, .slice a' (q ++ [3] ++ num l.length ++ encL (l.take i)).length c'), (2, .pointer (some ⟨b1, 0, none⟩)), (17, .slice av l.length cv), (18, I l.length), (19, I i)]) (fun i a' c' => [.row a' c' 5 1 (q ++ [3] ++ num l.length ++ encL (l.take i)).length (bs (q ++ [3] ++ num l.length ++ encL (l.take i)))]) (fun i _ _ => i ≤ l.length) (fun i _ _ => l.length - i) 0 x.1 x.2 (by omega) ⟨rfl, rfl, rfl, rfl, rfl, trivial⟩ (.cons _ (.cons _ (.refl _))) ?_
      intro i a' c' hi
      refine c_seq <| c_reg <| s_y y_lss <| s_nil <| q_then <| c_seq <| c_ifd (fun h20 => ?_) (fun h20 => ?_)
      · have hil : i < l.length := by omega
        obtain ⟨hvi, h4, hcell⟩ := Vv.get hcl hel hil
        have hel2 := encL_ge l i hil
        have het := encL_take l i hil
        have hoki := okL_get hokl i hil
        have hki := ok_kind hoki
        have hcs0 := Vv.kind hvi
        have hone := Vv.one _ hvi
        generalize (cells.drop (i * 4)).take 4 = cs at *
        haveI := hfW (l[i]).k
        have hal : (q ++ [3] ++ num l.length ++ encL (l.take i)).length = q.length + 1 + (num l.length).length + (encL (l.take i)).length := by simp only [List.length_append, List.length_singleton]
        have hae : q ++ [3] ++ num l.length ++ encL (l.take (i + 1)) = q ++ [3] ++ num l.length ++ encL (l.take i) ++ (l[i]).enc := by rw [het]; simp
        obtain ⟨qq, hqq⟩ : ∃ qq, q ++ [3] ++ num l.length ++ encL (l.take i) = qq := ⟨_, rfl⟩
        rw [hqq] at hal hae
        rw [hqq]
        have hk0 : 0 ≤ (l[i]).k ∧ (l[i]).k < 4 := by omega
        refine c_skip <| q_then <| c_seq <| c_block <| c_seq <| c_reg <| s_y (y_ixs (xs := cells) (hr := rdO hs hr) (hl := by omega)) <| s_y (y_ldra (i := i * 4) (cs := cs) (rdO hs hr) h4 hcell) <| s_alloc fun b7 => s_sta (vs := cs.toArray) (h1 := hone) (hl := by rw [List.size_toArray, h4]; rfl) (hs1 := by rw [List.size_toArray, h4]) ?_
        refine s_nil <| q_then <| c_regL [.blk b7 (.cells cs.toArray 48 (0, 0))] <| r_y 0 rfl (y_ldr (a := some ⟨b1, 0, none⟩) (i := 0) (xs := [.pointer (some ⟨bw, 0, none⟩)]) rfl (hr := rdO hs hwr.1)) <| r_y 1 rfl y_fa <| r_y 2 rfl (y_ld (v := I (l[i]).k) (hv := by rw [List.getElem?_toArray]; exact hcs0)) <| r_y 3 rfl y_nc <| r_y 4 rfl (y_ixa1 (h0 := hk0.1) (h1 := hk0.2)) <| r_y 5 rfl y_fa <| r_y 6 rfl (y_ldr (a := some ⟨bw, 0, none⟩) (i := ((l[i]).k).toNat) (xs := wcells b1) (wcell b1 hki) (hr := rdO hs hwr.2)) <| r_y 7 rfl y_mv <| r_y 8 rfl (y_lda (cs := cs.toArray) (hl := by rw [List.size_toArray, h4])) <| r_W 9 rfl <| ?_
        refine s_upd (k := wf (l[i]).k) (fs := []) (cs := wc (l[i]).k b1) (fun w' hw => ih i hil W0 w' (.agg cs.toArray) b1 bw a' c' qq hvi hoki hwr (St.over hs hw (.tail _ (.head _))) (by omega)) (fun _ => .tail _ (.head _)) (fun x _ => ?_)
        refine r_K <| r_y 10 rfl y_as <| r_E <| q_nb <| q_then <| c_reg <| s_y y_add <| s_y y_mv <| s_nil <| ?_
        refine q_round3 (y := a') (z := c') (i + 1) x.1 x.2 (by omega) (by omega) ⟨?_, rfl, rfl, rfl, rfl, trivial⟩ ?_
        · rw [hae]; rfl
        · rw [hae]; exact .cons _ (.refl _)
      · have hlt : l.take i = l := List.take_of_length_le (by omega)
        have hall : q ++ ([3] ++ num l.length ++ encL l) = q ++ [3] ++ num l.length ++ encL l := by simp only [List.append_assoc]
        rw [hlt, hall]
        refine c_exit <| q_ex <| q_ex <| q_exb <| q_then <| c_seq <| c_reg <| s_y y_mv <| s_y y_as <| s_nil <| q_then <| c_ret <| ?_
        exact ret1 Tryd.results70 rv_t fun w' hw => ⟨(a', c'), trivial, rfl, hw⟩

theorem codec_newWriter_ok (w : World) : Gives Tryd.prog 44 [] w [] (fun x : Nat × Nat => .pointer (some ⟨x.2, 0, none⟩)) (fun x => [.blk x.1 (.cells #[.pointer (some ⟨x.2, 0, none⟩)] 86 (0, 0)), .blk x.2 (.cells (wcells x.1).toArray 120 (0, 0))]) (fun _ => True) := by
  refine enter Tryd.func44 Tryd.ntmps44 ?_
  refine c_seq <| c_reg <| s_y y_as <| s_nil <| q_then <| c_seq <| c_reg <| s_y (y_blda (cs := [.nilFunc, .nilFunc, .nilFunc, .nilFunc])) <| s_box rfl fun b3 => s_alloc fun b1 => s_st ?_
  refine s_nil <| q_then <| c_seq <| c_reg <| s_y (y_ld (v := .pointer (some ⟨b3, 0, none⟩))) <| s_y y_nc <| s_y y_ixa1 <| s_y y_fa <| s_st ?_
  refine s_nil <| q_then <| c_seq <| c_reg <| s_y (y_ld (v := .pointer (some ⟨b3, 0, none⟩))) <| s_y y_nc <| s_y y_ixa1 <| s_y y_fa <| s_st ?_
  refine s_nil <| q_then <| c_seq <| c_reg <| s_y (y_ld (v := .pointer (some ⟨b3, 0, none⟩))) <| s_y y_func <| s_y y_nc <| s_y y_ixa1 <| s_y y_fa <| s_st ?_
  refine s_nil <| q_then <| c_seq <| c_reg <| s_y (y_ld (v := .pointer (some ⟨b3, 0, none⟩))) <| s_y y_as <| s_nil <| q_then <| c_ret <| ?_
  exact ret1 Tryd.results44 rv_t fun w' hw => ⟨(b1, b3), trivial, rfl, hw⟩

theorem codec_Encode_ok (w : World) (v : V) (val : Value) (hv : Vv w v val) (hd : v.dep < 9000000000000000000) (hlen : v.enc.length ≤ 140737488355000) :
    Gives Tryd.prog 26 [val] w [] (fun x : Option Addr × Nat => .tuple #[.slice x.1 v.encd.length x.2, I v.chk]) (fun x => [.row x.1 x.2 5 1 v.encd.length (bs v.encd)]) (fun _ => True) := by
  obtain ⟨cs, rfl, hcs⟩ := Vv.agg hv
  have hcs0 : cs[0]? = some (I v.k) := by
    have := Vv.kind (cs := cs.toList) (by simpa using hv)
    rwa [Array.getElem?_toList] at this
  refine enter Tryd.func26 Tryd.ntmps26 ?_
  refine c_seq <| c_reg <| s_box rfl fun b1 => s_y y_as <| s_y y_as <| s_nil <| q_then <| c_seq <| c_seq <| c_reg <| s_y (y_lda (cs := cs) (hl := hcs)) <| s_pure (fun w' hw => codec_Check_ok w' v (.agg cs) (hv.st hw) hd) <| s_y y_as <| s_nil <| q_then <| c_seq <| c_reg <| s_y y_mv <| s_y y_neq <| s_nil <| q_then <| c_ifn (fun h8 => ?_) (fun h8 => ?_)
  · have he : v.encd = [] := by rw [V.encd, if_neg h8]
    rw [he]
    refine c_seq <| c_reg <| s_y y_mv <| s_y y_as <| s_y y_as <| s_nil <| q_then <| c_ret <| q_ret <| ?_
    exact ret2 Tryd.results26 rv_t rv_t fun w' hw => ⟨(none, 0), trivial, rfl, (hw.sub (List.nil_sublist _)).nilRow _ _⟩
  · have he : v.encd = v.enc := by rw [V.encd, if_pos h8]
    have hok : v.ok = true := by
      cases h : v.ok with
      | true => rfl
      | false => rw [V.chk, if_neg (by rw [h]; decide)] at h8; cases h8
    have hki := ok_kind hok
    have hk0 : 0 ≤ v.k ∧ v.k < 4 := by omega
    haveI := hfW v.k
    rw [he, h8]
    refine c_skip <| q_then <| c_seq <| c_regL [.blk b1 (.cells cs 48 (0, 0))] <| r_y 1 rfl y_fa <| r_y 2 rfl (y_ld (v := I v.k) (hv := hcs0)) <| r_y 7 rfl (y_lda (cs := cs) (hl := hcs)) <| r_W 0 rfl <| s_gives (fun w' hw => codec_newWriter_ok w') fun x _ => ?_
    refine r_kl (hlp := .cons _ (.cons _ (.refl _))) <| r_y 3 rfl y_nc <| r_y 4 rfl (y_ixa1 (h0 := hk0.1) (h1 := hk0.2)) <| r_y 5 rfl y_fa <| r_y 6 rfl (y_ld (v := .func (.func (wf v.k)) #[] (wc v.k x.1).toArray) (hv := by rw [List.getElem?_toArray, Nat.zero_add, Nat.add_zero]; exact wcell x.1 hki)) <| r_W 8 rfl <| s_nilrow 5 1 <| ?_
    refine s_upd (k := wf v.k) (fs := []) (cs := wc v.k x.1) (p := .row none 0 5 1 0 []) (fun w' hw => write_ok v w' w' (.agg cs) x.1 x.2 none 0 [] (hv.st hw) hok ⟨rdB (.tail _ (.head _)) (fun i v h => by rw [Nat.zero_add]; simpa using h) w' hw, rdB (.tail _ (.tail _ (.head _))) (fun i v h => by rw [Nat.zero_add]; simpa using h) w' hw⟩ ((St.refl w').nilRow _ _) (by simp; omega)) (fun _ => .head _) (fun y _ => ?_)
    rw [List.nil_append]
    refine r_K <| r_y 9 rfl y_as <| r_y 10 rfl y_as <| r_E <| q_then <| c_ret <| ?_
    exact ret2 Tryd.results26 rv_t rv_t fun w' hw => ⟨y, trivial, rfl, hw.sub (.cons_cons _ (List.nil_sublist _))⟩
end Go.Proofs.YtjfiggbgpplopaaDoor
