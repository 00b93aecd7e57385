/- The numbers of the cipher's blocks, in both programs. -/
import Derived.Test.YtchpcabehchfjaaDoorCha
namespace Eng
open Go Go.RowKit
section
variable {P : Program} {n : Nat} {D : List Deferred} {W : World} {Bo : List Nat} {F : List (Nat × Value)} {l : SH}
  {d : Option Tmp} {ty : TypeId} {ps : String} {af : Array Edge} {g : Option (Nat × Bool)} {x y : Operand} {t : TypeId}
theorem y_ldwb [hu : HT P t true] {b : Nat} {q : List UInt32} (j : Nat) (hj : j < q.length) {et : TypeId} {fz : Nat × Nat} (hx : evO F x = some (.pointer (some ⟨b, j, none⟩)) := by rfl)
    (hm : Res.blk b (.cells (ws q).toArray et fz) ∈ l := by repeat (first | exact .head _ | apply List.Mem.tail)) : Y P n D W Bo ⟨d, .load t x, ty, ps, af, g⟩ F l (W32 (q.getD j 0)) :=
  y_ld hx hm (by rw [List.getElem?_toArray]; exact ws_get hj)
end
section
variable {P : Program} {n : Nat} {D : List Deferred} {W : World} {Bo : List Nat} {F F' : List (Nat × Value)} {l lp : SH}
  {dd : Nat} {ty : TypeId} {ps : String} {af : Array Edge} {g : Option (Nat × Bool)} {x : Operand}
  {Q : Exit → Act → World → Prop} {ops : Array Oper} {f fuel : Nat} {listed : Array Bool}
/-- one whose value no memory changes may be taken first, whether the last one waits for it or not -/
theorem AnyF.firstT {C : World → Prop} {f i : Nat} {oi : Oper} {v : Value} (hi : ops[i]? = some oi) (hsel : ∀ (j : Nat) (o : Oper) cs b, ops[j]? = some o → o.op ≠ .select cs b)
    (hQ : ∀ c a w, Q (.panic c) (a.put oi.dst v) w → Q (.panic c) a w) (hif : i ≠ f) :
    ∀ (fuel : Nat) (listed : Array Bool) (a : Act) (w : World),
      (∀ j oj, ops[j]? = some oj → j ≠ i → listed.getD j true = false → (∀ e ∈ oj.after, Region.binds .any e = true → e.on ≠ i) → oi.apart ops oj = true) →
      i ∈ Region.ready .any ops listed → YC P ops (fun _ => True) oi v a →
      AnyF P ops Q C f fuel (listed.setIfInBounds i true) (a.put oi.dst v) w → AnyF P ops Q C f (fuel + 1) listed a w := by
  have hat : ∀ {fuel : Nat} {listed : Array Bool} {a : Act} {w : World}, AnyF P ops Q C f fuel (listed.setIfInBounds i true) a w → (listed.getD f false = true ∨ C w) := by
    intro fuel listed a w H
    rcases H.at with h | h
    · rw [getD_set_ne false hif] at h; exact .inl h
    · exact .inr h
  intro fuel
  induction fuel with
  | zero =>
    intro listed a w _ hr hy H
    refine ⟨hat H, fun h => (by rw [h] at hr; cases hr), fun j hj => ?_⟩
    by_cases hji : j = i
    · subst hji; exact hy.op hi trivial H
    · have := ready_mono hj hji
      rw [H.2.1] at this
      cases this
  | succ fuel ih =>
    intro listed a w hfree hr hy H
    refine ⟨hat H, fun h => (by rw [h] at hr; cases hr), fun j hj => ?_⟩
    by_cases hji : j = i
    · subst hji; exact hy.op hi trivial H
    · have h1 := H.2.2 j (ready_mono hj hji)
      obtain ⟨hjun, oj, hoj, hall⟩ := mem_ready.1 hj
      have hnot : ∀ e ∈ oj.after, Region.binds .any e = true → e.on ≠ i := fun e he hb heq => by
        have h1 := hall e he hb
        have h0 := (mem_ready.1 hr).1
        rw [heq] at h1
        rcases Nat.lt_or_ge i listed.size with h' | h'
        · simp [h'] at h0 h1; rw [h0] at h1; cases h1
        · simp [Array.getElem?_eq_none h'] at h1
      have h2 := opIn_put hoj (hfree j oj hoj hji hjun hnot) (fun cs b => hsel i oi cs b hi) (fun cs b => hsel j oj cs b hoj) hQ hy h1
      have hfree' : ∀ k ok, ops[k]? = some ok → k ≠ i → (listed.setIfInBounds j true).getD k true = false →
          (∀ e ∈ ok.after, Region.binds .any e = true → e.on ≠ i) → oi.apart ops ok = true := fun k ok hk hki hun hno => by
        refine hfree k ok hk hki ?_ hno
        by_cases hjk : j = k
        · subst hjk; exact hjun
        · rw [getD_set_ne true hjk] at hun; exact hun
      refine wpOpIn_mono (fun a' w' h3 => ih (listed.setIfInBounds j true) a' w' hfree' (ready_mono hr (Ne.symm hji)) h3.1 ?_) h2
      rw [Array.setIfInBounds_comm _ _ hji]
      exact h3.2
def okT (ops : Array Oper) (f : Nat) (listed : Array Bool) (i : Nat) : Bool :=
  (Region.ready .any ops listed).contains i && (Region.free .any ops listed i && !Nat.beq i f)
theorem f_nc {a0 : Addr} (i : Nat) (hi : ops[i]? = some ⟨some dd, .nilCheck x, ty, ps, af, g⟩) (h : DF P n D W Bo ops Q lp f fuel (listed.setIfInBounds i true) ((dd, .pointer (some a0)) :: F) l)
    (hx : evO F x = some (.pointer (some a0)) := by rfl) (hn : Nat.blt dd n = true := by rfl) (hg : Wn ops F g := by first | exact .none | exact .some rfl rfl) (hok : okT ops f listed i = true := by kernel_rfl) : DF P n D W Bo ops Q lp f (fuel + 1) listed F l := by
  intro hs a w ha hw
  unfold okT at hok
  simp only [Bool.and_eq_true, Bool.not_eq_true', List.contains_iff_mem] at hok
  obtain ⟨h1, h2, h3⟩ := hok
  refine AnyF.firstT hi (Region.noSelect_spec hs) (fun c a w hq => by cases hq.1) (Nat.ne_of_beq_eq_false h3) fuel listed a w (Region.free_spec hi h2) h1 (.inl ⟨hg.wanted rfl ha, fun w _ => ?_⟩) (h hs _ w (ha.put dd _ hn) hw)
  simp only [execOp, ha.eval hx]; rfl
end
end Eng
namespace Go.Proofs.YtchpcabehchfjaaDoor
open Go Eng Sha Cha
set_option maxRecDepth 100000
theorem bits_RotateLeft32_pos (w : World) (v : UInt32) (k : Nat) (h0 : 0 < k) (h1 : k < 32) :
    Pure Tryd.prog 85 [W32 v, I k] w (W32 (rl v k)) := by
  have e1 : IntKind.u64.wrap (k : Int) = ((k : Nat) : Int) := wrap_u64 (by omega) (by omega)
  have e2 : k % 2 ^ 5 = k := by omega
  refine enter Tryd.func85 Tryd.ntmps85 ?_
  refine c_seq <| c_reg <| s_y y_as <| s_nil <| q_then <| c_seq <| c_reg <| s_y y_mv <| s_y y_cvw <| ?_
  rw [e1]
  refine s_y (y_mask 5) <| ?_
  rw [e2]
  refine s_y y_as <| s_nil <| q_then <| c_seq <| c_reg <| s_y y_mv <| s_y y_mv <| s_y (y_shl32 (h0 := by omega) (h1 := by omega)) <| s_y y_mv <| s_y y_mv <| s_y (y_sub64 (p := 32) (q := k)) <| s_y (y_shr32 (h0 := by omega) (h1 := by omega)) <| s_y y_or32 <| s_y y_as <| s_nil <| q_then <| c_ret <| ?_
  rw [Int.toNat_natCast, Int.toNat_natCast]
  have e3 : (v <<< UInt32.ofNat k) ||| (v >>> UInt32.ofNat (32 - k)) = rl v k := by
    have := rr_comm v (32 - k)
    rwa [show 32 - (32 - k) = k by omega] at this
  rw [e3]
  exact ret1 Tryd.results85 rv_t fun w' hw => ⟨rfl, hw⟩
theorem r6_rol_ok (w : World) (v : UInt32) (k : Nat) (h0 : 0 < k) (h1 : k < 32) : Pure Tryd.prog 103 [W32 v, I k] w (W32 (rl v k)) := by
  refine enter Tryd.func103 Tryd.ntmps103 ?_
  refine c_seq <| c_reg <| s_y y_as <| s_nil <| q_then <| c_seq <| c_regd <| d_y y_mv <| d_y y_mv <| d_y (y_shl32 (h0 := by omega) (h1 := by omega)) <| d_y y_mv <| d_y y_mv <| d_y (y_sub (p := 32) (q := ((k : Nat) : Int))) <| ?_
  rw [show (32 : Int) - ((k : Nat) : Int) = ((32 - k : Nat) : Int) by omega]
  refine d_y (y_shr32 (h0 := by omega) (h1 := by omega)) <| d_y y_or32 <| d_y y_as <| d_nil <| q_then <| c_ret <| ?_
  rw [Int.toNat_natCast, Int.toNat_natCast]
  have e3 : (v <<< UInt32.ofNat k) ||| (v >>> UInt32.ofNat (32 - k)) = rl v k := by
    have := rr_comm v (32 - k)
    rwa [show 32 - (32 - k) = k by omega] at this
  rw [e3]
  exact ret1 Tryd.results103 rv_t fun w' hw => ⟨rfl, hw⟩
theorem c_word_ok (w : World) (a : Option Addr) (m c : Nat) (q : List UInt8) (hr : Rd w a (bs q)) (hm : 4 ≤ m) (hq : m ≤ q.length) :
    Pure Tryd.prog 102 [.slice a m c] w (W32 (wle q 0)) := by
  refine enter Tryd.func102 Tryd.ntmps102 ?_
  refine c_seq <| c_reg <| s_y y_as <| s_nil <| q_then <| c_seq <| c_regd <| d_y y_mv <| d_y (y_ixs1 (xs := bs q) (i := 0) (hr := rdW0 hr) (hl := by rw [bs_length]; exact hq)) <| d_y (y_ldb (q := q) (i := 0) (hr := rdW0 hr)) <| d_y y_cv32 <| d_y y_mv <| d_y (y_ixs1 (xs := bs q) (i := 1) (hr := rdW0 hr) (hl := by rw [bs_length]; exact hq)) <| d_y (y_ldb (q := q) (i := 1) (hr := rdW0 hr)) <| d_y y_cv32 <| d_y y_shl32 <| d_y y_or32 <| d_y y_mv <| d_y (y_ixs1 (xs := bs q) (i := 2) (hr := rdW0 hr) (hl := by rw [bs_length]; exact hq)) <| d_y (y_ldb (q := q) (i := 2) (hr := rdW0 hr)) <| d_y y_cv32 <| d_y y_shl32 <| d_y y_or32 <| d_y y_mv <| d_y (y_ixs1 (xs := bs q) (i := 3) (hr := rdW0 hr) (hl := by rw [bs_length]; exact hq)) <| d_y (y_ldb (q := q) (i := 3) (hr := rdW0 hr)) <| d_y y_cv32 <| d_y y_shl32 <| d_y y_or32 <| d_y y_as <| d_nil <| q_then <| c_ret <| ?_
  exact ret1 Tryd.results102 rv_t fun w' hw => ⟨rfl, hw⟩
theorem r6_word_ok (w : World) (a : Option Addr) (m c : Nat) (q : List UInt8) (hr : Rd w a (bs q)) (hm : 4 ≤ m) (hq : m ≤ q.length) :
    Pure Tryd.prog 88 [.slice a m c] w (W32 (wle q 0)) := by
  refine enter Tryd.func88 Tryd.ntmps88 ?_
  refine c_seq <| c_reg <| s_y y_as <| s_nil <| q_then <| c_seq <| c_regd <| d_y y_mv <| d_y (y_ixs1 (xs := bs q) (i := 0) (hr := rdW0 hr) (hl := by rw [bs_length]; exact hq)) <| d_y (y_ldb (q := q) (i := 0) (hr := rdW0 hr)) <| d_y y_cv32 <| d_y y_mv <| d_y (y_ixs1 (xs := bs q) (i := 1) (hr := rdW0 hr) (hl := by rw [bs_length]; exact hq)) <| d_y (y_ldb (q := q) (i := 1) (hr := rdW0 hr)) <| d_y y_cv32 <| d_y y_shl32 <| d_y y_or32 <| d_y y_mv <| d_y (y_ixs1 (xs := bs q) (i := 2) (hr := rdW0 hr) (hl := by rw [bs_length]; exact hq)) <| d_y (y_ldb (q := q) (i := 2) (hr := rdW0 hr)) <| d_y y_cv32 <| d_y y_shl32 <| d_y y_or32 <| d_y y_mv <| d_y (y_ixs1 (xs := bs q) (i := 3) (hr := rdW0 hr) (hl := by rw [bs_length]; exact hq)) <| d_y (y_ldb (q := q) (i := 3) (hr := rdW0 hr)) <| d_y y_cv32 <| d_y y_shl32 <| d_y y_or32 <| d_y y_as <| d_nil <| q_then <| c_ret <| ?_
  exact ret1 Tryd.results88 rv_t fun w' hw => ⟨rfl, hw⟩

theorem c_mix_ok (w : World) (p : Nat) (et : TypeId) (v : List UInt32) (a b c d : Nat) (hp : w.heap[p]? = some (.cells (ws v).toArray et (0, 0))) (hv : v.length = 16) (ha : a < 16) (hb : b < 16) (hc : c < 16) (hd : d < 16) :
    Gives Tryd.prog 83 [.pointer (some ⟨p, 0, none⟩), I a, I b, I c, I d] w [p] (fun _ : Unit => .tuple #[]) (fun _ => [.blk p (.cells (ws (mix v a b c d)).toArray et (0, 0))]) (fun _ => True) := by
  have h0 : ∀ i, i < 16 → i < v.length := fun i hi => by omega
  refine enterB Tryd.func83 Tryd.ntmps83 hp ?_
  refine c_seq <| c_regF 13 <| f_y 0 rfl y_mv <| f_y 1 rfl y_mv <| f_y 2 rfl y_nc <| f_y 3 rfl (y_ixn a) <| f_y 4 rfl (y_ldwb (q := v) a (h0 a ha)) <| f_y 5 rfl y_mv <| f_y 6 rfl y_mv <| f_y 7 rfl y_nc <| f_y 8 rfl (y_ixn b) <| f_y 9 rfl (y_ldwb (q := v) b (h0 b hb)) <| f_y 10 rfl y_add32 <| f_nc 11 rfl <| f_y 12 rfl (y_ixn a) <| f_w 13 rfl <| s_stw (?_) (hl := h0 a ha)
  obtain ⟨v1, e1⟩ : ∃ u, addAt v a b = u := ⟨_, rfl⟩
  have h1 : ∀ i, i < 16 → i < v1.length := fun i hi => by rw [← e1]; simp only [addAt_length, xrAt_length]; exact h0 i hi
  rw [show (v).set a ((v).getD a 0 + (v).getD b 0) = v1 from e1]
  refine f_z <| q_then <| ?_
  refine c_seq <| c_regF 16 <| f_y 0 rfl y_mv <| f_y 1 rfl y_mv <| f_y 2 rfl y_mv <| f_y 3 rfl y_mv <| f_y 4 rfl y_nc <| f_y 5 rfl (y_ixn d) <| f_y 6 rfl (y_ldwb (q := v1) d (h1 d hd)) <| f_y 7 rfl y_mv <| f_y 8 rfl y_mv <| f_y 9 rfl y_nc <| f_y 10 rfl (y_ixn a) <| f_y 11 rfl (y_ldwb (q := v1) a (h1 a ha)) <| f_y 12 rfl y_xor32 <| f_nc 14 rfl <| f_w 13 rfl <| s_pure (fun w' hw => bits_RotateLeft32_pos w' _ 16 (by decide) (by decide)) <| f_k <| f_y 15 rfl (y_ixn d) <| f_w 16 rfl <| s_stw (?_) (hl := h1 d hd)
  obtain ⟨v2, e2⟩ : ∃ u, xrAt (v1) d a 16 = u := ⟨_, rfl⟩
  have h2 : ∀ i, i < 16 → i < v2.length := fun i hi => by rw [← e2]; simp only [addAt_length, xrAt_length]; exact h1 i hi
  rw [show (v1).set d (rl ((v1).getD d 0 ^^^ (v1).getD a 0) 16) = v2 from e2]
  refine f_z <| q_then <| ?_
  refine c_seq <| c_regF 13 <| f_y 0 rfl y_mv <| f_y 1 rfl y_mv <| f_y 2 rfl y_nc <| f_y 3 rfl (y_ixn c) <| f_y 4 rfl (y_ldwb (q := v2) c (h2 c hc)) <| f_y 5 rfl y_mv <| f_y 6 rfl y_mv <| f_y 7 rfl y_nc <| f_y 8 rfl (y_ixn d) <| f_y 9 rfl (y_ldwb (q := v2) d (h2 d hd)) <| f_y 10 rfl y_add32 <| f_nc 11 rfl <| f_y 12 rfl (y_ixn c) <| f_w 13 rfl <| s_stw (?_) (hl := h2 c hc)
  obtain ⟨v3, e3⟩ : ∃ u, addAt (v2) c d = u := ⟨_, rfl⟩
  have h3 : ∀ i, i < 16 → i < v3.length := fun i hi => by rw [← e3]; simp only [addAt_length, xrAt_length]; exact h2 i hi
  rw [show (v2).set c ((v2).getD c 0 + (v2).getD d 0) = v3 from e3]
  refine f_z <| q_then <| ?_
  refine c_seq <| c_regF 16 <| f_y 0 rfl y_mv <| f_y 1 rfl y_mv <| f_y 2 rfl y_mv <| f_y 3 rfl y_mv <| f_y 4 rfl y_nc <| f_y 5 rfl (y_ixn b) <| f_y 6 rfl (y_ldwb (q := v3) b (h3 b hb)) <| f_y 7 rfl y_mv <| f_y 8 rfl y_mv <| f_y 9 rfl y_nc <| f_y 10 rfl (y_ixn c) <| f_y 11 rfl (y_ldwb (q := v3) c (h3 c hc)) <| f_y 12 rfl y_xor32 <| f_nc 14 rfl <| f_w 13 rfl <| s_pure (fun w' hw => bits_RotateLeft32_pos w' _ 12 (by decide) (by decide)) <| f_k <| f_y 15 rfl (y_ixn b) <| f_w 16 rfl <| s_stw (?_) (hl := h3 b hb)
  obtain ⟨v4, e4⟩ : ∃ u, xrAt (v3) b c 12 = u := ⟨_, rfl⟩
  have h4 : ∀ i, i < 16 → i < v4.length := fun i hi => by rw [← e4]; simp only [addAt_length, xrAt_length]; exact h3 i hi
  rw [show (v3).set b (rl ((v3).getD b 0 ^^^ (v3).getD c 0) 12) = v4 from e4]
  refine f_z <| q_then <| ?_
  refine c_seq <| c_regF 13 <| f_y 0 rfl y_mv <| f_y 1 rfl y_mv <| f_y 2 rfl y_nc <| f_y 3 rfl (y_ixn a) <| f_y 4 rfl (y_ldwb (q := v4) a (h4 a ha)) <| f_y 5 rfl y_mv <| f_y 6 rfl y_mv <| f_y 7 rfl y_nc <| f_y 8 rfl (y_ixn b) <| f_y 9 rfl (y_ldwb (q := v4) b (h4 b hb)) <| f_y 10 rfl y_add32 <| f_nc 11 rfl <| f_y 12 rfl (y_ixn a) <| f_w 13 rfl <| s_stw (?_) (hl := h4 a ha)
  obtain ⟨v5, e5⟩ : ∃ u, addAt (v4) a b = u := ⟨_, rfl⟩
  have h5 : ∀ i, i < 16 → i < v5.length := fun i hi => by rw [← e5]; simp only [addAt_length, xrAt_length]; exact h4 i hi
  rw [show (v4).set a ((v4).getD a 0 + (v4).getD b 0) = v5 from e5]
  refine f_z <| q_then <| ?_
  refine c_seq <| c_regF 16 <| f_y 0 rfl y_mv <| f_y 1 rfl y_mv <| f_y 2 rfl y_mv <| f_y 3 rfl y_mv <| f_y 4 rfl y_nc <| f_y 5 rfl (y_ixn d) <| f_y 6 rfl (y_ldwb (q := v5) d (h5 d hd)) <| f_y 7 rfl y_mv <| f_y 8 rfl y_mv <| f_y 9 rfl y_nc <| f_y 10 rfl (y_ixn a) <| f_y 11 rfl (y_ldwb (q := v5) a (h5 a ha)) <| f_y 12 rfl y_xor32 <| f_nc 14 rfl <| f_w 13 rfl <| s_pure (fun w' hw => bits_RotateLeft32_pos w' _ 8 (by decide) (by decide)) <| f_k <| f_y 15 rfl (y_ixn d) <| f_w 16 rfl <| s_stw (?_) (hl := h5 d hd)
  obtain ⟨v6, e6⟩ : ∃ u, xrAt (v5) d a 8 = u := ⟨_, rfl⟩
  have h6 : ∀ i, i < 16 → i < v6.length := fun i hi => by rw [← e6]; simp only [addAt_length, xrAt_length]; exact h5 i hi
  rw [show (v5).set d (rl ((v5).getD d 0 ^^^ (v5).getD a 0) 8) = v6 from e6]
  refine f_z <| q_then <| ?_
  refine c_seq <| c_regF 13 <| f_y 0 rfl y_mv <| f_y 1 rfl y_mv <| f_y 2 rfl y_nc <| f_y 3 rfl (y_ixn c) <| f_y 4 rfl (y_ldwb (q := v6) c (h6 c hc)) <| f_y 5 rfl y_mv <| f_y 6 rfl y_mv <| f_y 7 rfl y_nc <| f_y 8 rfl (y_ixn d) <| f_y 9 rfl (y_ldwb (q := v6) d (h6 d hd)) <| f_y 10 rfl y_add32 <| f_nc 11 rfl <| f_y 12 rfl (y_ixn c) <| f_w 13 rfl <| s_stw (?_) (hl := h6 c hc)
  obtain ⟨v7, e7⟩ : ∃ u, addAt (v6) c d = u := ⟨_, rfl⟩
  have h7 : ∀ i, i < 16 → i < v7.length := fun i hi => by rw [← e7]; simp only [addAt_length, xrAt_length]; exact h6 i hi
  rw [show (v6).set c ((v6).getD c 0 + (v6).getD d 0) = v7 from e7]
  refine f_z <| q_then <| ?_
  refine c_regF 16 <| f_y 0 rfl y_mv <| f_y 1 rfl y_mv <| f_y 2 rfl y_mv <| f_y 3 rfl y_mv <| f_y 4 rfl y_nc <| f_y 5 rfl (y_ixn b) <| f_y 6 rfl (y_ldwb (q := v7) b (h7 b hb)) <| f_y 7 rfl y_mv <| f_y 8 rfl y_mv <| f_y 9 rfl y_nc <| f_y 10 rfl (y_ixn c) <| f_y 11 rfl (y_ldwb (q := v7) c (h7 c hc)) <| f_y 12 rfl y_xor32 <| f_nc 14 rfl <| f_w 13 rfl <| s_pure (fun w' hw => bits_RotateLeft32_pos w' _ 7 (by decide) (by decide)) <| f_k <| f_y 15 rfl (y_ixn b) <| f_w 16 rfl <| s_stw (?_) (hl := h7 b hb)
  subst e1; subst e2; subst e3; subst e4; subst e5; subst e6; subst e7
  refine f_z <| ?_
  exact ret0 Tryd.results83 (fun w' hw => ⟨(), trivial, rfl, hw⟩) _ (.inr rfl)
theorem r6_mix_ok (w : World) (v : List UInt32) (a b c d : Nat) (hv : v.length = 16) (ha : a < 16) (hb : b < 16) (hc : c < 16) (hd : d < 16) :
    Pure Tryd.prog 89 [.agg (ws v).toArray, I a, I b, I c, I d] w (.agg (ws (mix v a b c d)).toArray) := by
  have h0 : ∀ i, i < 16 → i < v.length := fun i hi => by omega
  refine enter Tryd.func89 Tryd.ntmps89 ?_
  refine c_seq <| c_reg <| s_box rfl fun b5 => s_alloc fun b10 => s_nil <| q_then <| ?_
  refine c_seq <| c_regF 9 <| f_y 0 rfl y_mv <| f_y 1 rfl y_mv <| f_y 2 rfl (y_ixn a) <| f_y 3 rfl (y_ldwb (q := v) a (h0 a ha)) <| f_y 4 rfl y_mv <| f_y 5 rfl (y_ixn b) <| f_y 6 rfl (y_ldwb (q := v) b (h0 b hb)) <| f_y 7 rfl y_add32 <| f_y 8 rfl (y_ixn a) <| f_w 9 rfl <| s_stw (?_) (hl := h0 a ha)
  obtain ⟨v1, e1⟩ : ∃ u, addAt v a b = u := ⟨_, rfl⟩
  have h1 : ∀ i, i < 16 → i < v1.length := fun i hi => by rw [← e1]; simp only [addAt_length, xrAt_length]; exact h0 i hi
  rw [show (v).set a ((v).getD a 0 + (v).getD b 0) = v1 from e1]
  refine f_z <| q_then <| ?_
  refine c_seq <| c_regF 10 <| f_y 0 rfl y_mv <| f_y 1 rfl y_mv <| f_y 2 rfl (y_ixn d) <| f_y 3 rfl (y_ldwb (q := v1) d (h1 d hd)) <| f_y 4 rfl y_mv <| f_y 5 rfl (y_ixn a) <| f_y 6 rfl (y_ldwb (q := v1) a (h1 a ha)) <| f_y 7 rfl y_xor32 <| f_w 8 rfl <| s_pure (fun w' hw => r6_rol_ok w' _ 16 (by decide) (by decide)) <| f_k <| f_y 9 rfl (y_ixn d) <| f_w 10 rfl <| s_stw (?_) (hl := h1 d hd)
  obtain ⟨v2, e2⟩ : ∃ u, xrAt v1 d a 16 = u := ⟨_, rfl⟩
  have h2 : ∀ i, i < 16 → i < v2.length := fun i hi => by rw [← e2]; simp only [addAt_length, xrAt_length]; exact h1 i hi
  rw [show (v1).set d (rl ((v1).getD d 0 ^^^ (v1).getD a 0) 16) = v2 from e2]
  refine f_z <| q_then <| ?_
  refine c_seq <| c_regF 9 <| f_y 0 rfl y_mv <| f_y 1 rfl y_mv <| f_y 2 rfl (y_ixn c) <| f_y 3 rfl (y_ldwb (q := v2) c (h2 c hc)) <| f_y 4 rfl y_mv <| f_y 5 rfl (y_ixn d) <| f_y 6 rfl (y_ldwb (q := v2) d (h2 d hd)) <| f_y 7 rfl y_add32 <| f_y 8 rfl (y_ixn c) <| f_w 9 rfl <| s_stw (?_) (hl := h2 c hc)
  obtain ⟨v3, e3⟩ : ∃ u, addAt v2 c d = u := ⟨_, rfl⟩
  have h3 : ∀ i, i < 16 → i < v3.length := fun i hi => by rw [← e3]; simp only [addAt_length, xrAt_length]; exact h2 i hi
  rw [show (v2).set c ((v2).getD c 0 + (v2).getD d 0) = v3 from e3]
  refine f_z <| q_then <| ?_
  refine c_seq <| c_regF 10 <| f_y 0 rfl y_mv <| f_y 1 rfl y_mv <| f_y 2 rfl (y_ixn b) <| f_y 3 rfl (y_ldwb (q := v3) b (h3 b hb)) <| f_y 4 rfl y_mv <| f_y 5 rfl (y_ixn c) <| f_y 6 rfl (y_ldwb (q := v3) c (h3 c hc)) <| f_y 7 rfl y_xor32 <| f_w 8 rfl <| s_pure (fun w' hw => r6_rol_ok w' _ 12 (by decide) (by decide)) <| f_k <| f_y 9 rfl (y_ixn b) <| f_w 10 rfl <| s_stw (?_) (hl := h3 b hb)
  obtain ⟨v4, e4⟩ : ∃ u, xrAt v3 b c 12 = u := ⟨_, rfl⟩
  have h4 : ∀ i, i < 16 → i < v4.length := fun i hi => by rw [← e4]; simp only [addAt_length, xrAt_length]; exact h3 i hi
  rw [show (v3).set b (rl ((v3).getD b 0 ^^^ (v3).getD c 0) 12) = v4 from e4]
  refine f_z <| q_then <| ?_
  refine c_seq <| c_regF 9 <| f_y 0 rfl y_mv <| f_y 1 rfl y_mv <| f_y 2 rfl (y_ixn a) <| f_y 3 rfl (y_ldwb (q := v4) a (h4 a ha)) <| f_y 4 rfl y_mv <| f_y 5 rfl (y_ixn b) <| f_y 6 rfl (y_ldwb (q := v4) b (h4 b hb)) <| f_y 7 rfl y_add32 <| f_y 8 rfl (y_ixn a) <| f_w 9 rfl <| s_stw (?_) (hl := h4 a ha)
  obtain ⟨v5, e5⟩ : ∃ u, addAt v4 a b = u := ⟨_, rfl⟩
  have h5 : ∀ i, i < 16 → i < v5.length := fun i hi => by rw [← e5]; simp only [addAt_length, xrAt_length]; exact h4 i hi
  rw [show (v4).set a ((v4).getD a 0 + (v4).getD b 0) = v5 from e5]
  refine f_z <| q_then <| ?_
  refine c_seq <| c_regF 10 <| f_y 0 rfl y_mv <| f_y 1 rfl y_mv <| f_y 2 rfl (y_ixn d) <| f_y 3 rfl (y_ldwb (q := v5) d (h5 d hd)) <| f_y 4 rfl y_mv <| f_y 5 rfl (y_ixn a) <| f_y 6 rfl (y_ldwb (q := v5) a (h5 a ha)) <| f_y 7 rfl y_xor32 <| f_w 8 rfl <| s_pure (fun w' hw => r6_rol_ok w' _ 8 (by decide) (by decide)) <| f_k <| f_y 9 rfl (y_ixn d) <| f_w 10 rfl <| s_stw (?_) (hl := h5 d hd)
  obtain ⟨v6, e6⟩ : ∃ u, xrAt v5 d a 8 = u := ⟨_, rfl⟩
  have h6 : ∀ i, i < 16 → i < v6.length := fun i hi => by rw [← e6]; simp only [addAt_length, xrAt_length]; exact h5 i hi
  rw [show (v5).set d (rl ((v5).getD d 0 ^^^ (v5).getD a 0) 8) = v6 from e6]
  refine f_z <| q_then <| ?_
  refine c_seq <| c_regF 9 <| f_y 0 rfl y_mv <| f_y 1 rfl y_mv <| f_y 2 rfl (y_ixn c) <| f_y 3 rfl (y_ldwb (q := v6) c (h6 c hc)) <| f_y 4 rfl y_mv <| f_y 5 rfl (y_ixn d) <| f_y 6 rfl (y_ldwb (q := v6) d (h6 d hd)) <| f_y 7 rfl y_add32 <| f_y 8 rfl (y_ixn c) <| f_w 9 rfl <| s_stw (?_) (hl := h6 c hc)
  obtain ⟨v7, e7⟩ : ∃ u, addAt v6 c d = u := ⟨_, rfl⟩
  have h7 : ∀ i, i < 16 → i < v7.length := fun i hi => by rw [← e7]; simp only [addAt_length, xrAt_length]; exact h6 i hi
  rw [show (v6).set c ((v6).getD c 0 + (v6).getD d 0) = v7 from e7]
  refine f_z <| q_then <| ?_
  refine c_seq <| c_regF 10 <| f_y 0 rfl y_mv <| f_y 1 rfl y_mv <| f_y 2 rfl (y_ixn b) <| f_y 3 rfl (y_ldwb (q := v7) b (h7 b hb)) <| f_y 4 rfl y_mv <| f_y 5 rfl (y_ixn c) <| f_y 6 rfl (y_ldwb (q := v7) c (h7 c hc)) <| f_y 7 rfl y_xor32 <| f_w 8 rfl <| s_pure (fun w' hw => r6_rol_ok w' _ 7 (by decide) (by decide)) <| f_k <| f_y 9 rfl (y_ixn b) <| f_w 10 rfl <| s_stw (?_) (hl := h7 b hb)
  obtain ⟨v8, e8⟩ : ∃ u, xrAt v7 b c 7 = u := ⟨_, rfl⟩
  have h8 : ∀ i, i < 16 → i < v8.length := fun i hi => by rw [← e8]; simp only [addAt_length, xrAt_length]; exact h7 i hi
  rw [show (v7).set b (rl ((v7).getD b 0 ^^^ (v7).getD c 0) 7) = v8 from e8]
  refine f_z <| q_then <| ?_
  have hl8 : v8.length = 16 := by rw [← e8, ← e7, ← e6, ← e5, ← e4, ← e3, ← e2, ← e1]; simp only [addAt_length, xrAt_length]; exact hv
  have hl8' : (ws v8).length = 16 := by rw [ws_length]; exact hl8
  refine c_seq <| c_reg <| s_y (y_lda (b := b5) (cs := (ws v8).toArray) (hl := by simpa using hl8')) <| s_sta (b := b10) (vs := (ws v8).toArray) (cs := (ws (List.replicate 16 0)).toArray) (h1 := fun u hu => ws_one (by simpa using hu)) (hl := by simp only [List.size_toArray, hl8', ws_length, List.length_replicate]) (hs1 := by simpa using hl8') ?_
  refine s_nil <| q_then <| c_ret <| ?_
  rw [show mix v a b c d = v8 by subst e1; subst e2; subst e3; subst e4; subst e5; subst e6; subst e7; subst e8; rfl]
  exact ret1 Tryd.results89 (rv_ca (b := b10) (hl := by simpa using hl8')) fun w' hw => ⟨rfl, hw.sub (List.nil_sublist _)⟩
end Go.Proofs.YtchpcabehchfjaaDoor
