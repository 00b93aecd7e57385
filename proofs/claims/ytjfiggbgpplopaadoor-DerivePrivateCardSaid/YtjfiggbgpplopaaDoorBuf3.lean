/- bytes.Buffer: growing and writing. -/
import Derived.Test.YtjfiggbgpplopaaDoorBuf2
namespace Eng
open Go Go.RowKit
section
variable {r : Option Nat} {P : Program} {n : Nat} {D : List Deferred} {W : World} {Bo : List Nat} {F : List (Nat × Value)} {l : SH} {e : TypeId}
  {Q : Exit → Act → World → Prop} {ops : Array Oper} {rest : List Oper}
theorem s_rowg {a : Option Addr} {cc s k : Nat} {xs : List Value} (h : ∀ g, a = some ⟨g, 0, none⟩ → LP r P n D W Bo ops Q rest F l) (hne : a ≠ none) (hm : Res.row a cc e s k xs ∈ l := by repeat (first | exact .head _ | apply List.Mem.tail)) : LP r P n D W Bo ops Q rest F l :=
  fun ac w ha hw => by
    obtain ⟨_, _, h3⟩ := (hw.own _ hm).1
    rcases h3 with ⟨h4, _⟩ | ⟨g, cur, h4, _⟩
    · exact absurd h4 hne
    · exact h g h4 ac w ha hw
theorem run_cf {k : FuncId} [hf : HF P k] (w : World) : (callFunc k #[]).run P w = .ok (.enter k #[]) w := by
  obtain ⟨fn, c, h1, h2, h3⟩ := hf.h
  have h4 : fn.name ≠ "runtime.NumGoroutine" := by simpa using h3
  simp [callFunc, h1, h4, h2]
theorem buf_cat {cur : List Value} {q p : List UInt8} (ht : cur.take q.length = bs q) : (cur.take q.length ++ bs p ++ cur.drop (q.length + p.length)).take (q ++ p).length = bs (q ++ p) := by
  rw [ht, ← bs_append, List.take_append_of_le_length (by rw [bs_length]; omega), List.take_of_length_le (by rw [bs_length]; omega)]
end
end Eng
namespace Go.Proofs.YtjfiggbgpplopaaDoor
open Go Eng

theorem growSlice_ok (w : World) (a : Option Addr) (c n : Nat) (q : List UInt8) (hr : Rd w a (bs q)) (hn : 0 < n) (h1 : 2 * c ≤ 140737488355000) (h2 : q.length + n ≤ 140737488355000) :
    Gives Tryd.prog 78 [.slice a q.length c, I n] w [] (fun x : Nat × Nat => .slice (some ⟨x.1, 0, none⟩) q.length x.2) (fun x => [.row (some ⟨x.1, 0, none⟩) x.2 5 1 q.length (bs q)]) (fun x => q.length + n ≤ x.2) := by
  refine enterD Tryd.func78 Tryd.ntmps78 ?_
  refine c_seq <| c_reg <| s_y y_as <| s_nil <| q_then <| c_seq <| c_reg <| s_defer <| s_nil <| q_then <| c_seq <| c_reg <| s_y y_mv <| s_y y_len <| s_y y_mv <| s_y (y_add (p := q.length) (q := n)) <| s_y y_as <| s_nil <| q_then <| c_seq <| c_seq <| c_reg <| s_y y_mv <| s_y y_mv <| s_y y_cap <| s_y (y_mul (p := 2) (q := c)) <| s_y y_lss <| s_nil <| q_then <| c_ifd (fun h16 => ?_) (fun h16 => ?_)
  · obtain ⟨K, hK, hk1, hk2⟩ : ∃ K : Nat, (2 : Int) * c = (K : Int) ∧ q.length + n ≤ K ∧ K ≤ 140737488355000 := ⟨2 * c, by omega, by omega, h1⟩
    refine c_reg <| s_y y_mv <| s_y y_cap <| s_y (y_mul (p := 2) (q := c)) <| ?_
    rw [hK]
    refine s_y y_as <| s_nil <| q_then <| ?_
    refine c_seq <| c_reg <| s_y y_mv <| s_nilrow 5 1 <| s_apz (m := K) (k := 0) (xs := []) (hm := .head _) (hrep := fun _ _ => .head _) fun a21 c21 h21 => ?_
    refine s_row (fun hk1 hk2 => s_rowg (fun g hg => ?_) (fun e => by have := (h21 e).2; omega) (.head _)) (.head _)
    subst hg
    refine s_y y_as <| s_nil <| q_then <| c_seq <| c_reg <| s_y y_mv <| s_y y_mv <| ?_
    refine s_cpr (gb := g) (off := 0) (mm := 0 + K) (mc := c21) (k := q.length) (m' := q.length) (xs' := bs q) (ys := bs q) (fun cur hcur ht => ?_) (rdW0 hr) (bs_length q).symm (fun v hv => bs_one hv) (by omega) (by omega) (by omega) (.head _) ?_
    · rw [List.take_zero, List.nil_append, List.take_append_of_le_length (by rw [bs_length]; omega), List.take_of_length_le (by rw [bs_length]; omega)]
    refine s_y y_as <| s_nil <| q_then <| c_seq <| c_reg <| s_y y_mv <| s_y y_mv <| s_y (y_slh (j := q.length)) <| ?_
    rw [show ((q.length : Nat) : Int).toNat = q.length by omega]
    refine s_y y_as <| s_nil <| q_then <| c_ret <| ?_
    exact ret1D Tryd.results78 (fun w' => run_cf w') (fun w' => catch_idle w') rv_t fun w' hw => ⟨(g, c21), by omega, rfl, hw.sub (.cons_cons _ (List.nil_sublist _))⟩
  · obtain ⟨K, hK, hk1, hk2⟩ : ∃ K : Nat, (q.length : Int) + n = (K : Int) ∧ q.length + n ≤ K ∧ K ≤ 140737488355000 := ⟨q.length + n, by omega, by omega, h2⟩
    rw [hK]
    refine c_skip <| q_then <| ?_
    refine c_seq <| c_reg <| s_y y_mv <| s_nilrow 5 1 <| s_apz (m := K) (k := 0) (xs := []) (hm := .head _) (hrep := fun _ _ => .head _) fun a21 c21 h21 => ?_
    refine s_row (fun hk1 hk2 => s_rowg (fun g hg => ?_) (fun e => by have := (h21 e).2; omega) (.head _)) (.head _)
    subst hg
    refine s_y y_as <| s_nil <| q_then <| c_seq <| c_reg <| s_y y_mv <| s_y y_mv <| ?_
    refine s_cpr (gb := g) (off := 0) (mm := 0 + K) (mc := c21) (k := q.length) (m' := q.length) (xs' := bs q) (ys := bs q) (fun cur hcur ht => ?_) (rdW0 hr) (bs_length q).symm (fun v hv => bs_one hv) (by omega) (by omega) (by omega) (.head _) ?_
    · rw [List.take_zero, List.nil_append, List.take_append_of_le_length (by rw [bs_length]; omega), List.take_of_length_le (by rw [bs_length]; omega)]
    refine s_y y_as <| s_nil <| q_then <| c_seq <| c_reg <| s_y y_mv <| s_y y_mv <| s_y (y_slh (j := q.length)) <| ?_
    rw [show ((q.length : Nat) : Int).toNat = q.length by omega]
    refine s_y y_as <| s_nil <| q_then <| c_ret <| ?_
    exact ret1D Tryd.results78 (fun w' => run_cf w') (fun w' => catch_idle w') rv_t fun w' hw => ⟨(g, c21), by omega, rfl, hw.sub (.cons_cons _ (List.nil_sublist _))⟩

theorem growA_ok (w : World) (b : Nat) (T : TypeId) (n : Nat) (hb : (bblk b T none 0 0).holds w) (hn : 0 < n) (h : n ≤ 64) :
    Gives Tryd.prog 52 [.pointer (some ⟨b, 0, none⟩), I n] w (keys [bblk b T none 0 0]) (fun _ : Nat => I 0) (fun g => [bblk b T (some ⟨g, 0, none⟩) n 64, .row (some ⟨g, 0, none⟩) 64 5 1 0 []]) (fun _ => True) := by
  refine enterR Tryd.func52 Tryd.ntmps52 hb ?_
  have hrd : ∀ {w' : World} {Bo : List Nat} {W : World}, St W Bo w' [bblk b T none 0 0] → Rd w' (some ⟨b, 0, none⟩) (bufc none 0 0).toList := fun {w'} _ _ hw => rdB (.head _) (fun i v h => by rw [Nat.zero_add]; simpa using h) w' hw
  refine c_seq <| c_reg <| s_y y_as <| s_nil <| q_then <| c_seq <| c_reg <| s_y y_mv <| s_pure (fun w' hw => Buffer_Len_ok w' b none 0 0 (hrd hw) (by omega)) <| s_y y_as <| s_nil <| q_then <| c_seq <| c_seq <| c_reg <| s_y y_mv <| s_kt (y_eql (p := 0) (q := 0)) (by omega) <| s_y y_mv <| s_y y_mv <| s_y y_nc <| s_y y_fa <| s_y (y_ld (v := I 0)) <| s_nf (y_neq (p := 0) (q := 0)) (by omega) <| s_y y_pk <| s_nil <| q_then <| c_f <| c_skip <| q_then <| c_seq <| c_seq <| c_reg <| s_y y_mv <| s_y y_mv <| s_pure (fun w' hw => tryGrow_no w' b none 0 0 n (hrd hw) (by omega) (by omega) (by omega)) <| s_y y_mv <| s_y y_ext <| s_y y_ext <| s_y y_as <| s_y y_as <| s_nil <| q_then <| c_seq <| c_reg <| s_y y_mv <| s_nil <| q_then <| c_f <| c_skip <| q_then <| c_seq <| c_seq <| c_reg <| s_y y_mv <| s_y y_nc <| s_y y_fa <| s_y (y_ld (v := .slice none 0 0)) <| s_y (v := .bool true) (y_eqln (a := none)) <| s_y y_mv <| s_y y_mv <| s_kt (y_leq (p := n) (q := 64)) (by omega) <| s_y y_pk <| s_nil <| q_then <| c_t <| c_seq <| c_reg <| s_y y_mv <| s_y y_mv <| s_mks (i := n) (j := 64) fun b41 => s_y y_nc <| s_y y_fa <| s_st (v := .slice (some ⟨b41, 0, none⟩) (n : Int).toNat 64) (hl := show 0 + 0 < 3 by decide) ?_
  rw [show ((n : Nat) : Int).toNat = n by omega]
  refine s_nil <| q_then <| c_seq <| c_reg <| s_y y_as <| s_nil <| q_then <| c_ret <| q_ret <| ?_
  refine ret1 Tryd.results52 rv_t fun w' hw => ⟨b41, trivial, rfl, ?_⟩
  have h2 := (hw.toRow (m := 64) (s := 1) (by rw [madeB]; simp [bs_length]) (by unfold maxLen; omega) (.head _)).trunc 0 (by omega) (.head _)
  exact h2.perm (.swap _ _ _)

theorem growB_ok (w : World) (b : Nat) (T : TypeId) (g c n : Nat) (q : List UInt8) (hb : (bblk b T (some ⟨g, 0, none⟩) q.length c).holds w) (hr : Rd w (some ⟨g, 0, none⟩) (bs q)) (hne : b ≠ g) (hq : 0 < q.length) (hn : 0 < n) (hqc : q.length ≤ c) (hcn : c < q.length + n) (hc : c ≤ 64) (h2 : q.length + n ≤ 140737488355000) :
    Gives Tryd.prog 52 [.pointer (some ⟨b, 0, none⟩), I n] w (keys [bblk b T (some ⟨g, 0, none⟩) q.length c]) (fun _ : Nat × Nat => I q.length) (fun x => [bblk b T (some ⟨x.1, 0, none⟩) (q.length + n) x.2, .row (some ⟨x.1, 0, none⟩) x.2 5 1 q.length (bs q)]) (fun x => q.length + n ≤ x.2) := by
  refine enterR Tryd.func52 Tryd.ntmps52 hb ?_
  have hrd : ∀ {w' : World} {Bo : List Nat} {W : World}, St W Bo w' [bblk b T (some ⟨g, 0, none⟩) q.length c] → Rd w' (some ⟨b, 0, none⟩) (bufc (some ⟨g, 0, none⟩) q.length c).toList := fun {w'} _ _ hw => rdB (.head _) (fun i v h => by rw [Nat.zero_add]; simpa using h) w' hw
  have hap : ∀ b' ∈ keys [bblk b T (some ⟨g, 0, none⟩) q.length c], (some (⟨g, 0, none⟩ : Addr)).map (·.block) ≠ some b' := fun b' hb' e => by
    obtain ⟨q', hq', hk⟩ := mem_keys.1 hb'
    rw [List.mem_singleton] at hq'
    subst hq'
    cases hk; cases e; exact hne rfl
  have hql : q.length ≤ 64 := by omega
  refine c_seq <| c_reg <| s_y y_as <| s_nil <| q_then <| c_seq <| c_reg <| s_y y_mv <| s_pure (fun w' hw => Buffer_Len_ok w' b (some ⟨g, 0, none⟩) q.length c (hrd hw) (by omega)) <| s_y y_as <| s_nil <| q_then <| c_seq <| c_seq <| c_reg <| s_y y_mv <| s_kf (y_eql (p := q.length) (q := 0)) (by omega) <| s_y y_mv <| s_no <| s_no <| s_no <| s_no <| s_no <| s_y y_pk <| s_nil <| q_then <| c_f <| c_skip <| q_then <| c_seq <| c_seq <| c_reg <| s_y y_mv <| s_y y_mv <| s_pure (fun w' hw => tryGrow_no w' b (some ⟨g, 0, none⟩) q.length c n (hrd hw) (by omega) (by omega) (by omega)) <| s_y y_mv <| s_y y_ext <| s_y y_ext <| s_y y_as <| s_y y_as <| s_nil <| q_then <| c_seq <| c_reg <| s_y y_mv <| s_nil <| q_then <| c_f <| c_skip <| q_then <| c_seq <| c_seq <| c_reg <| s_y y_mv <| s_y y_nc <| s_y y_fa <| s_y (y_ld (v := .slice (some ⟨g, 0, none⟩) q.length c)) <| s_y (v := .bool false) (y_eqln (a := some ⟨g, 0, none⟩)) <| s_y y_mv <| s_no <| s_no <| s_y y_pk <| s_nil <| q_then <| c_f <| c_skip <| q_then <| c_seq <| c_reg <| s_y y_mv <| s_y y_nc <| s_y y_fa <| s_y (y_ld (v := .slice (some ⟨g, 0, none⟩) q.length c)) <| s_y y_cap <| s_y y_as <| s_nil <| q_then <| c_seq <| c_seq <| c_reg <| s_y y_mv <| s_y y_mv <| s_y (y_quo (p := c) (q := 2)) <| s_y y_mv <| s_y (y_sub (p := (c : Int) / 2) (q := q.length)) <| s_kf (y_leq (p := n) (q := (c : Int) / 2 - q.length)) (by omega) <| s_nil <| q_then <| c_f <| c_seq <| c_reg <| s_y y_mv <| s_y y_mv <| s_y (y_sub (p := 9223372036854775807) (q := c)) <| s_y y_mv <| s_y (y_sub (p := 9223372036854775807 - (c : Int)) (q := n)) <| s_kf (y_gtr (p := c) (q := 9223372036854775807 - (c : Int) - n)) (by omega) <| s_nil <| q_then <| c_f <| ?_
  refine c_regF 19 <| f_y 0 rfl y_mv <| f_y 1 rfl y_mv <| f_y 2 rfl y_nc <| f_y 3 rfl y_fa <| f_y 4 rfl (y_ld (v := .slice (some ⟨g, 0, none⟩) q.length c)) <| f_y 5 rfl y_mv <| f_y 6 rfl y_nc <| f_y 7 rfl y_fa <| f_y 8 rfl (y_ld (v := I 0)) <| f_y 9 rfl (y_sll (i := 0)) <| ?_
  rw [show (0 : Int).toNat = 0 from rfl, sa_zero, Nat.sub_zero, Nat.sub_zero]
  refine f_y 10 rfl y_mv <| f_y 11 rfl y_nc <| f_y 12 rfl y_fa <| f_y 13 rfl (y_ld (v := I 0)) <| f_y 14 rfl y_mv <| f_y 15 rfl (y_add (p := 0) (q := n)) <| ?_
  rw [Int.zero_add]
  refine f_w 16 rfl <| s_gives (fun w' hw => growSlice_ok w' (some ⟨g, 0, none⟩) c n q (rdW hr hap w' hw) hn (by omega) h2) fun x hx => f_k <| f_w 17 rfl <| s_y y_nc <| f_k <| f_y 18 rfl y_fa <| f_w 19 rfl <| s_st (v := .slice (some ⟨x.1, 0, none⟩) q.length x.2) (hl := show 0 + 0 < 3 by decide) ?_
  refine f_z <| q_then <| c_seq <| c_reg <| s_y y_mv <| s_y y_nc <| s_y y_fa <| s_st (v := I 0) (hl := show 0 + 1 < 3 by decide) ?_
  refine s_nil <| q_then <| c_seq <| c_reg <| s_y y_mv <| s_y y_mv <| s_y y_nc <| s_y y_fa <| s_y (y_ld (v := .slice (some ⟨x.1, 0, none⟩) q.length x.2)) <| s_y y_mv <| s_y y_mv <| s_y (y_add (p := q.length) (q := n)) <| s_row fun hk1 hk2 => s_y (y_slh (j := (q.length : Int) + n)) <| s_y y_nc <| s_y y_fa <| s_st (v := .slice (some ⟨x.1, 0, none⟩) ((q.length : Int) + n).toNat x.2) (hl := show 0 + 0 < 3 by decide) ?_
  rw [show ((q.length : Int) + n).toNat = q.length + n by omega]
  refine s_nil <| q_then <| c_seq <| c_reg <| s_y y_mv <| s_y y_as <| s_nil <| q_then <| c_ret <| ?_
  exact ret1 Tryd.results52 rv_t fun w' hw => ⟨x, hx, rfl, hw.perm (.swap _ _ _)⟩
theorem Buffer_Write_ok (w : World) (b : Nat) (T : TypeId) (a : Option Addr) (c : Nat) (q p : List UInt8) (ap : Option Addr) (cp : Nat) (hs : ∀ r ∈ [bblk b T a q.length c, .row a c 5 1 q.length (bs q)], r.holds w) (hnd : (keys [bblk b T a q.length c, .row a c 5 1 q.length (bs q)]).Nodup) (hp : Rd w ap (bs p)) (hap : ∀ k ∈ keys [bblk b T a q.length c, .row a c 5 1 q.length (bs q)], ap.map (·.block) ≠ some k)
    (h0 : 0 < p.length) (hcase : (a = none ∧ q = [] ∧ c = 0 ∧ p.length ≤ 64) ∨ (∃ g, a = some ⟨g, 0, none⟩ ∧ 0 < q.length ∧ c ≤ 64)) (h2 : q.length + p.length ≤ 140737488355000) :
    Gives Tryd.prog 33 [.pointer (some ⟨b, 0, none⟩), .slice ap p.length cp] w (keys [bblk b T a q.length c, .row a c 5 1 q.length (bs q)]) (fun _ : Nat × Nat => .tuple #[I p.length, .nilIface])
      (fun x => [bblk b T (some ⟨x.1, 0, none⟩) (q ++ p).length x.2, .row (some ⟨x.1, 0, none⟩) x.2 5 1 (q ++ p).length (bs (q ++ p))]) (fun x => (a = none → x.2 = 64) ∧ (q.length + p.length ≤ c → x.2 = c)) := by
  refine enterL Tryd.func33 Tryd.ntmps33 hs hnd ?_
  have hrow := hs _ (.tail _ (.head _))
  have hqc : q.length ≤ c := hrow.2.1
  have e1 : ∀ (a : Option Addr) (m c : Nat), (bufc a m c).setIfInBounds (0 + 2) (.int .i8 0) = bufc a m c := fun _ _ _ => rfl
  refine c_seq <| c_reg <| s_y y_as <| s_y y_as <| s_nil <| q_then <| c_seq <| c_reg <| s_y y_mv <| s_y y_nc <| s_y y_fa <| s_st (v := .int .i8 0) (hl := show 0 + 2 < 3 by decide) ?_
  rw [e1]
  refine s_nil <| q_then <| ?_
  rcases hcase with ⟨rfl, rfl, rfl, h64⟩ | ⟨g, rfl, hq0, hc64⟩
  · refine c_seq <| c_reg <| s_y y_mv <| s_y y_mv <| s_y y_len <| s_pure (fun w' hw => tryGrow_no w' b none 0 0 p.length (rdB (.head _) (fun i v h => by rw [Nat.zero_add]; simpa using h) w' hw) (by omega) (by omega) (by omega)) <| s_y y_mv <| s_y y_ext <| s_y y_ext <| s_y y_as <| s_y y_as <| s_nil <| q_then <| c_seq <| c_seq <| c_reg <| s_y y_mv <| s_y (v := .bool true) (y_not (b := false)) <| s_nil <| q_then <| c_t <| c_reg <| s_y y_mv <| s_y y_mv <| s_y y_len <| s_upd (fun w' hw => growA_ok w' b T p.length (hw.own _ (.head _)).1 h0 h64) (fun _ => .head _) (fun g _ => ?_)
    refine s_y y_as <| s_nil <| q_then <| ?_
    refine c_seq <| c_reg <| s_y y_mv <| s_y y_nc <| s_y y_fa <| s_y (y_ld (v := .slice (some ⟨g, 0, none⟩) p.length 64)) <| s_y y_mv <| s_y (y_sll (i := 0)) <| ?_
    rw [show (0 : Int).toNat = 0 from rfl, sa_zero, Nat.sub_zero, Nat.sub_zero]
    refine s_y y_mv <| ?_
    refine s_cpr (gb := g) (off := 0) (mm := p.length) (mc := 64) (k := p.length) (m' := p.length) (xs' := bs p) (ys := bs p) (fun cur hcur ht => ?_) (rdW hp hap) (bs_length p).symm (fun v hv => bs_one hv) (Nat.le_refl _) (by omega) (by omega) (.head _) ?_
    · exact buf_cat (q := []) ht
    refine s_y y_as <| s_y y_as <| s_nil <| q_then <| c_ret <| ?_
    exact ret2 Tryd.results33 rv_t rv_t fun w' hw => ⟨(g, 64), ⟨fun _ => rfl, fun h9 => by have h8 : 0 + p.length ≤ 0 := h9; omega⟩, rfl, (hw.perm (.swap _ _ _)).sub (.cons_cons _ (.cons_cons _ (List.nil_sublist _)))⟩
  · by_cases hfit : q.length + p.length ≤ c
    · obtain ⟨c', hc'⟩ : ∃ c', c = c' := ⟨_, rfl⟩
      refine c_seq <| c_reg <| s_y y_mv <| s_y y_mv <| s_y y_len <| s_upd (fun w' hw => tryGrow_yes w' b T (some ⟨g, 0, none⟩) q.length c p.length (hw.own _ (.head _)).1 hfit (by omega)) (fun _ => .head _) (fun _ _ => ?_)
      refine s_y y_mv <| s_y y_ext <| s_y y_ext <| s_y y_as <| s_y y_as <| s_nil <| q_then <| c_seq <| c_seq <| c_reg <| s_y y_mv <| s_y (v := .bool false) (y_not (b := true)) <| s_nil <| q_then <| c_f <| c_skip <| q_then <| ?_
      refine c_seq <| c_reg <| s_y y_mv <| s_y y_nc <| s_y y_fa <| s_y (y_ld (v := .slice (some ⟨g, 0, none⟩) (q.length + p.length) c)) <| s_y y_mv <| s_y (y_sll (i := q.length)) <| ?_
      rw [show ((q.length : Nat) : Int).toNat = q.length by omega, sa_lt (show q.length < c by omega), Nat.zero_add, Nat.mul_one, show q.length + p.length - q.length = p.length by omega]
      refine s_y y_mv <| ?_
      refine s_cpr (gb := g) (off := q.length) (mm := p.length) (mc := c - q.length) (k := p.length) (m' := (q ++ p).length) (xs' := bs (q ++ p)) (ys := bs p) (fun cur hcur ht => ?_) (rdW hp hap) (bs_length p).symm (fun v hv => bs_one hv) (Nat.le_refl _) (by omega) (by rw [List.length_append]; omega) (.tail _ (.head _)) ?_
      · exact buf_cat ht
      rw [← List.length_append]
      refine s_y y_as <| s_y y_as <| s_nil <| q_then <| c_ret <| ?_
      exact ret2 Tryd.results33 rv_t rv_t fun w' hw => ⟨(g, c), ⟨fun h9 => (by cases h9), fun _ => rfl⟩, rfl, hw⟩
    · have hbg : b ≠ g := by
        intro e
        subst e
        have : (keys [bblk b T (some ⟨b, 0, none⟩) q.length c, .row (some ⟨b, 0, none⟩) c 5 1 q.length (bs q)]) = [b, b] := rfl
        rw [this] at hnd
        simp at hnd
      refine c_seq <| c_reg <| s_y y_mv <| s_y y_mv <| s_y y_len <| s_pure (fun w' hw => tryGrow_no w' b (some ⟨g, 0, none⟩) q.length c p.length (rdB (.head _) (fun i v h => by rw [Nat.zero_add]; simpa using h) w' hw) (by omega) (by omega) (by omega)) <| s_y y_mv <| s_y y_ext <| s_y y_ext <| s_y y_as <| s_y y_as <| s_nil <| q_then <| c_seq <| c_seq <| c_reg <| s_y y_mv <| s_y (v := .bool true) (y_not (b := false)) <| s_nil <| q_then <| c_t <| c_reg <| s_y y_mv <| s_y y_mv <| s_y y_len <| s_upd (fun w' hw => growB_ok w' b T g c p.length q (hw.own _ (.head _)).1 (Res.rd (hw.own _ (.tail _ (.head _))).1) hbg hq0 h0 hqc (by omega) hc64 h2) (fun _ => .head _) (fun x hx => ?_)
      refine s_y y_as <| s_nil <| q_then <| ?_
      refine c_seq <| c_reg <| s_y y_mv <| s_y y_nc <| s_y y_fa <| s_y (y_ld (v := .slice (some ⟨x.1, 0, none⟩) (q.length + p.length) x.2)) <| s_y y_mv <| s_y (y_sll (i := q.length)) <| ?_
      rw [show ((q.length : Nat) : Int).toNat = q.length by omega, sa_lt (show q.length < x.2 by omega), Nat.zero_add, Nat.mul_one, show q.length + p.length - q.length = p.length by omega]
      refine s_y y_mv <| ?_
      refine s_cpr (gb := x.1) (off := q.length) (mm := p.length) (mc := x.2 - q.length) (k := p.length) (m' := (q ++ p).length) (xs' := bs (q ++ p)) (ys := bs p) (fun cur hcur ht => ?_) (rdW hp hap) (bs_length p).symm (fun v hv => bs_one hv) (Nat.le_refl _) (by omega) (by rw [List.length_append]; omega) (.head _) ?_
      · exact buf_cat ht
      rw [← List.length_append]
      refine s_y y_as <| s_y y_as <| s_nil <| q_then <| c_ret <| ?_
      exact ret2 Tryd.results33 rv_t rv_t fun w' hw => ⟨(x.1, x.2), ⟨fun h9 => (by cases h9), fun h9 => by rw [List.length_append] at h9; exact absurd h9 hfit⟩, rfl, (hw.perm (.swap _ _ _)).sub (.cons_cons _ (.cons_cons _ (List.nil_sublist _)))⟩
end Go.Proofs.YtjfiggbgpplopaaDoor
