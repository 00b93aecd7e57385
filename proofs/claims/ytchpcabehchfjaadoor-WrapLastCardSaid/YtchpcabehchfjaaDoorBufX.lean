/- Joined texts. -/
import Derived.Test.YtchpcabehchfjaaDoorBase
import Derived.Test.YtchpcabehchfjaaDoorConc
import Derived.Test.YtchpcabehchfjaaDoorCodX
import Derived.Recover
/- Writing into slices that own their memory; functions that defer a call; several parts taken over. -/
namespace Eng
open Go Go.RowKit
section
variable {r : Option Nat} {P : Program} {n : Nat} {D : List Deferred} {W : World} {Bo : List Nat} {F : List (Nat × Value)} {l l' l1 l2 : SH}
  {d : Option Tmp} {dd : Nat} {ty : TypeId} {ps : String} {af : Array Edge} {g : Option (Nat × Bool)} {x y z : Operand} {v u : Value} {ta tb t e : TypeId}
  {Q : Exit → Act → World → Prop} {ops : Array Oper} {rest : List Oper} {td : TypeDesc} {c : Code}

/-- copy into a slice that owns its memory, and what is then known of it -/
theorem s_cpr [ht : HU P ta (.slice e)] {by' : Nat} [hs : HS P e 1 by'] {gb off mm mc cc m m' : Nat} {a : Option Addr} {k kc : Nat} {xs ys xs' : List Value} {et : TypeId}
    (hres : ∀ cur : List Value, cur.length = cc → cur.take m = xs → (cur.take off ++ ys ++ cur.drop (off + k)).take m' = xs')
    (hr : RdS W Bo l a ys) (hk : k = ys.length) (h1 : ∀ v ∈ ys, v.oneCell' = true) (hmm : k ≤ mm) (hfit : off + k ≤ cc) (hm' : m' ≤ cc)
    (hrep : Rep (.row (some ⟨gb, 0, none⟩) cc et 1 m xs) (.row (some ⟨gb, 0, none⟩) cc et 1 m' xs') l l')
    (h : LP r P n D W Bo ops Q rest ((dd, I k) :: F) l')
    (hx : evO F x = some (.slice (some ⟨gb, off, none⟩) mm mc) := by rfl) (hy : evO F y = some (.slice a k kc) := by rfl)
    (hn : Nat.blt dd n = true := by rfl) (hg : Wn ops F g := by first | exact .none | exact .some rfl rfl) :
    LP r P n D W Bo ops Q (⟨some dd, .call ⟨.builtin .copy, #[x, y], #[ta, tb]⟩, ty, ps, af, g⟩ :: rest) F l :=
  s_new (fun _ : Unit => I k) (fun _ => l') (fun _ => True) (by simp)
    (fun ac w ha hw => by
      have hmin : Nat.min k mm = k := Nat.min_eq_left hmm
      obtain ⟨hl, hkc, hown⟩ := (hw.own _ hrep.mem).1
      rcases hown with ⟨h0, _⟩ | ⟨b, cur, hb0, hb, hcm, hcs, htake⟩
      · cases h0
      · obtain rfl : gb = b := by cases hb0; rfl
        rw [Nat.mul_one] at hcs
        refine ⟨(), w.setRow gb (cur.toList.take off ++ ys ++ cur.toList.drop (off + ys.length)).toArray, trivial, ?_, ?_⟩
        · have e1 : #[x, y].map ac.eval = #[.slice (some ⟨gb, off, none⟩) mm mc, .slice a k kc] := by simp [ha.eval hx, ha.eval hy]
          have hst := run_storeCells_at P gb off et ys 0 cur w hb (by simp; omega) h1
          simp only [Nat.add_zero] at hst
          have hfc : (Builtin.firstCells 1 k (.slice a k kc)).run P w = .ok ys.toArray w := by
            have := first_cells (P := P) (m := k) (c := kc) (k := k) (hr w hw) (by omega)
            have e9 : ys.take k = ys := by rw [hk, List.take_length]
            rwa [e9] at this
          have hlo : (Builtin.lenOf (.slice a k kc)).run P w = .ok k w := rfl
          have hrun : (Builtin.copy_ #[ta, tb] ty #[.slice (some ⟨gb, off, none⟩) mm mc, .slice a k kc]).run P w = .ok (I k) (w.setRow gb (cur.toList.take off ++ ys ++ cur.toList.drop (off + ys.length)).toArray) := by
            simp only [Builtin.copy_]
            simp [run_underlying ht.h, run_sizeOf' hs, hlo, hfc, hst, goInt, Nat.min_def, hmm]
          simp only [execOp, resolve, e1, Sem.run_bind, Sem.run_pure, Result.andThen_ok, invoke, builtin, hrun]
        · refine hw.change hrep rfl rfl rfl (by simp) (fun k' _ hk' => setRow_other w gb _ k' (fun e' => hk' (by rw [e']; rfl))) ⟨?_, hm', .inr ⟨gb, _, rfl, setRow_heap w gb cur _ et (0, 0) hb, hcm, ?_, ?_⟩⟩ (fun k' hk' => .inl hk')
          · rw [← hres cur.toList (by simpa using hcs) (by rwa [Nat.mul_one] at htake), List.length_take]
            simp only [List.length_append, List.length_take, List.length_drop, Array.length_toList]
            omega
          · simp only [List.size_toArray, List.length_append, List.length_take, List.length_drop, Array.length_toList]; omega
          · rw [Nat.mul_one, ← hk, List.toList_toArray]
            exact hres cur.toList (by simpa using hcs) (by rwa [Nat.mul_one] at htake))
    (hn := hn) (hg := hg) (h := fun _ _ => h)

/-- a slice compared with nil -/
theorem y_eqln [hu : HU P ta (.slice e)] {a : Option Addr} {m c : Nat} (hx : evO F x = some (.slice a m c) := by rfl) (hy : evO F y = some (.slice none 0 0) := by rfl) : Y P n D W Bo ⟨d, .binOp .eql ta x y tb, ty, ps, af, g⟩ F l (.bool a.isNone) :=
  .mk (by simp) fun ac w ha _ => by
    have : (Op.equal ta (.slice a m c) (.slice none 0 0)).run P w = .ok a.isNone w := by
      unfold Op.equal Op.equalIn
      cases a <;> simp [Op.maxDepth, run_underlying hu.h]
    simp [execOp, ha.eval hx, ha.eval hy, eqGuard, binOp, this]

/-! several parts taken over -/
theorem keys_app (a b : SH) : keys (a ++ b) = keys a ++ keys b := by unfold keys; rw [List.filterMap_append]
theorem St.transL {w w' : World} {ps ps' : SH} (h : St W Bo w l) (hp : l.Perm (ps ++ l2)) (h' : St w (keys ps) w' ps') : St W Bo w' (ps' ++ l2) := by
  have h0 : St W Bo w (ps ++ l2) := h.perm hp.symm
  have hnd := h0.nd
  rw [keys_app, List.nodup_append] at hnd
  have hps : ∀ k, k ∈ keys ps → (W.heap.size ≤ k ∨ k ∈ Bo) ∧ k < w.heap.size := fun k hk => by
    obtain ⟨q, hq, hqk⟩ := mem_keys.1 hk
    exact ⟨(h0.own q (List.mem_append_left _ hq)).2 k hqk, h0.lt (List.mem_append_left _ hq) hqk⟩
  refine ⟨h'.os.trans h.os, h'.tape.trans h.tape, h'.output.trans h.output, Nat.le_trans h.size h'.size, ?_, ?_, ?_⟩
  · intro k hk hb
    rw [h'.old k (Nat.lt_of_lt_of_le hk h.size) (fun hm => (hps k hm).1.elim (fun h9 => by omega) hb)]
    exact h.old k hk hb
  · intro q hq
    rcases List.mem_append.1 hq with hq | hq
    · refine ⟨(h'.own q hq).1, fun k hk => ?_⟩
      rcases (h'.own q hq).2 k hk with h1 | h1
      · exact .inl (Nat.le_trans h.size h1)
      · exact (hps k h1).1
    · have hq0 := h0.own q (List.mem_append_right _ hq)
      refine ⟨Res.holds_congr hq0.1 fun k hk => h'.old k (h0.lt (List.mem_append_right _ hq) hk) (fun hm => ?_), hq0.2⟩
      exact hnd.2.2 k hm k (mem_keys.2 ⟨q, hq, hk⟩) rfl
  · rw [keys_app, List.nodup_append]
    refine ⟨h'.nd, hnd.2.1, ?_⟩
    intro x hx y hy e
    subst e
    obtain ⟨q, hq, hqk⟩ := mem_keys.1 hx
    obtain ⟨q2, hq2, hqk2⟩ := mem_keys.1 hy
    rcases (h'.own q hq).2 x hqk with h1 | h1
    · have := h0.lt (List.mem_append_right _ hq2) hqk2; omega
    · exact hnd.2.2 x h1 x hy rfl
theorem St.borrowL {W : World} {ps : SH} (h : ∀ p ∈ ps, p.holds W) (hnd : (keys ps).Nodup) : St W (keys ps) W ps :=
  ⟨rfl, rfl, rfl, Nat.le_refl _, fun _ _ _ => rfl, fun q hq => ⟨h q hq, fun k hk => .inr (mem_keys.2 ⟨q, hq, hk⟩)⟩, hnd⟩
theorem enterL {k : FuncId} {fn : Func} {args : List Value} {R : Ending → World → Prop} {ps : SH} (hf : P.funcs[k]? = some fn) (hn : fn.ntmps = n) (hp : ∀ p ∈ ps, p.holds W) (hnd : (keys ps).Nodup)
    (h : CP none P n [] W (keys ps) c (bodyPost P fn R) (argsF 0 args) ps) (hb : fn.body = some c := by rfl) (hle : Nat.ble args.length n = true := by rfl) : Calls P k args.toArray W R :=
  enter0 hf hb hn (Nat.le_of_ble_eq_true hle) (St.borrowL hp hnd) h
theorem s_updL {k : FuncId} [hf : HF P k] {fo : Operand} {fs cs vs args : List Value} {ao : Array Operand} {ts : Array TypeId} {σ : Type} {val : σ → Value} {ps0 l2 : SH} {lx : σ → SH} {φ : σ → Prop}
    (hperm : l.Perm (ps0 ++ l2)) (hc : ∀ w, St W Bo w (ps0 ++ l2) → Gives P k args w (keys ps0) val lx φ)
    (h : ∀ x, φ x → LP r P n D W Bo ops Q rest ((dd, val x) :: F) (lx x ++ l2))
    (hfo : evO F fo = some (.func (.func k) fs.toArray cs.toArray) := by rfl) (hargs : evL F ao.toList = some vs := by rfl) (hap : args = fs ++ vs ++ cs := by rfl) (hn : Nat.blt dd n = true := by rfl) (hg : Wn ops F g := by first | exact .none | exact .some rfl rfl) :
    LP r P n D W Bo ops Q (⟨some dd, .call ⟨.value fo, ao, ts⟩, ty, ps, af, g⟩ :: rest) F l :=
  s_calls val (fun x => lx x ++ l2) φ hfo hargs
    (fun w hw => (hap ▸ hc w (hw.perm hperm.symm) : Gives P k (fs ++ vs ++ cs) w (keys ps0) val lx φ).mono fun _ _ ⟨x, hx, he, hw'⟩ => ⟨x, hx, he, hw.transL hperm hw'⟩) h hn hg

/-! a deferred call -/
theorem enterD {k : FuncId} {fn : Func} {args : List Value} {R : Ending → World → Prop} (hf : P.funcs[k]? = some fn) (hn : fn.ntmps = n) (h : CP none P n [] W [] c (bodyPostD P fn R) (argsF 0 args) [])
    (hb : fn.body = some c := by rfl) (hle : Nat.ble args.length n = true := by rfl) : Calls P k args.toArray W R := by
  refine calls_of_wp_defers hf hb ?_
  rw [← wpIn_wide (n := 0), ← Fw_none]
  have hle' := Nat.le_of_ble_eq_true hle
  refine h _ W ⟨by simp; omega, rfl, ?_⟩ (St.refl W)
  intro t v ht
  have := (argsF_look args 0 t v ht).2
  simp only [Nat.sub_zero] at this
  have hlt : t < args.length := by
    rcases Nat.lt_or_ge t args.length with h1 | h1
    · exact h1
    · rw [List.getElem?_eq_none h1] at this; cases this
  rw [Array.getElem?_append_left (by simpa using hlt)]
  simpa using this

theorem s_defer {k : FuncId} {ts : Array TypeId} (h : LP none P n ({ target := .fn (.func k) #[], args := #[] } :: D) W Bo ops Q rest F l) :
    LP none P n D W Bo ops Q (⟨none, .defer ⟨.value (.func k), #[], ts⟩, ty, ps, af, none⟩ :: rest) F l := by
  intro a w ha hw
  refine wpListIn_of (by simp [Region.wanted]) ?_
  refine ⟨fun f _ => trivial, ?_⟩
  have e : (Oper.semAt (Fw none).round a.eval ⟨none, .defer ⟨.value (.func k), #[], ts⟩, ty, ps, af, none⟩).run P w = .ok (.defer { target := .fn (.func k) #[], args := #[] }) w := by
    rw [show (Fw none).round = none from rfl, Oper.semAt_none]
    simp [execOp, resolve, Act.eval, Deferred.ofValue]
  rw [e]
  exact h _ _ ⟨ha.size, by simp [Act.put, ha.defers], fun t v ht => ha.slot t v ht⟩ hw

/-- the end of a function that has deferred one call, which does nothing -/
theorem ret1D {fn : Func} {R : Ending → World → Prop} {a : ResultVar} {k : FuncId} (hf : fn.results = #[a]) (hk : ∀ w, (callFunc k #[]).run P w = .ok (.enter k #[]) w)
    (hd : ∀ w, CallsD P k #[] .returning w fun e u w' => e = .returned (.tuple #[]) ∧ u = .returning ∧ w' = w) (h : RV P n W Bo F l a v) (hR : ∀ w, St W Bo w l → R (.returned v) w) :
    QP n [{ target := .fn (.func k) #[], args := #[] }] W Bo (bodyPostD P fn R) .ret F l := by
  intro ac w ha hw
  show Leaves P fn ac.tmps R ac.defers .returning w
  rw [ha.defers]
  refine leaves_cons (fv := .func k) (cap := #[]) (dargs := #[]) (f := k) (args := #[]) (by simp) (by simpa [invoke] using hk w) ?_
  refine (hd w).mono fun e u' w' ⟨he, hu, hw'⟩ => ?_
  subst he hu hw'
  refine ⟨v, ?_, hR w' hw⟩
  have hm := h ac _ w' ha hw
  rw [results_eq, hf]
  simp [hm]
end
end Eng
/- bytes.Buffer: the program. -/
namespace Go.Proofs.YtchpcabehchfjaaDoor
open Go Eng

def bufc (a : Option Addr) (m c : Nat) : Array Value := #[.slice a m c, I 0, .int .i8 0]
abbrev bblk (b : Nat) (T : TypeId) (a : Option Addr) (m c : Nat) : Res := .blk b (.cells (bufc a m c) T (0, 0))

theorem Buffer_Len_ok (w : World) (b : Nat) (a : Option Addr) (m c : Nat) (hr : Rd w (some ⟨b, 0, none⟩) (bufc a m c).toList) (hm : m ≤ 9223372036854775807) :
    Pure Tryd.prog 98 [.pointer (some ⟨b, 0, none⟩)] w (I m) := by
  refine enter Tryd.func98 Tryd.ntmps98 ?_
  refine c_seq <| c_reg <| s_y y_as <| s_nil <| q_then <| c_seq <| c_regd <| d_y y_mv <| d_y y_nc <| d_y y_fa <| d_y (y_ldr (a := some ⟨b, 0, none⟩) (i := 0) (xs := (bufc a m c).toList) rfl (hr := rdW0 hr)) <| d_y y_len <| d_y y_mv <| d_y y_nc <| d_y y_fa <| d_y (y_ldr (a := some ⟨b, 0, none⟩) (i := 1) (xs := (bufc a m c).toList) (v := I 0) rfl (hr := rdW0 hr)) <| d_y (y_sub (p := m) (q := 0)) <| ?_
  rw [Int.sub_zero]
  refine d_y y_as <| d_nil <| q_then <| c_ret <| ?_
  exact ret1 Tryd.results98 rv_t fun w' hw => ⟨rfl, hw⟩

theorem Buffer_Bytes_ok (w : World) (b : Nat) (a : Option Addr) (m c : Nat) (hr : Rd w (some ⟨b, 0, none⟩) (bufc a m c).toList) :
    Pure Tryd.prog 75 [.pointer (some ⟨b, 0, none⟩)] w (.slice a m c) := by
  refine enter Tryd.func75 Tryd.ntmps75 ?_
  refine c_seq <| c_reg <| s_y y_as <| s_nil <| q_then <| c_seq <| c_regd <| d_y y_mv <| d_y y_nc <| d_y y_fa <| d_y (y_ldr (a := some ⟨b, 0, none⟩) (i := 0) (xs := (bufc a m c).toList) rfl (hr := rdW0 hr)) <| d_y y_mv <| d_y y_nc <| d_y y_fa <| d_y (y_ldr (a := some ⟨b, 0, none⟩) (i := 1) (xs := (bufc a m c).toList) (v := I 0) rfl (hr := rdW0 hr)) <| d_y (y_sll (i := 0)) <| ?_
  rw [show (0 : Int).toNat = 0 from rfl, sa_zero, Nat.sub_zero, Nat.sub_zero]
  refine d_y y_as <| d_nil <| q_then <| c_ret <| ?_
  exact ret1 Tryd.results75 rv_t fun w' hw => ⟨rfl, hw⟩

theorem tryGrow_no (w : World) (b : Nat) (a : Option Addr) (m c n : Nat) (hr : Rd w (some ⟨b, 0, none⟩) (bufc a m c).toList) (h : c < m + n) (hc : c ≤ 9223372036854775807) (hm : m ≤ c) :
    Pure Tryd.prog 73 [.pointer (some ⟨b, 0, none⟩), I n] w (.tuple #[I 0, .bool false]) := by
  refine enter Tryd.func73 Tryd.ntmps73 ?_
  refine c_seq <| c_reg <| s_y y_as <| s_y y_as <| s_nil <| q_then <| c_seq <| c_seq <| c_reg <| s_y y_mv <| s_y y_nc <| s_y y_fa <| s_y (y_ldr (a := some ⟨b, 0, none⟩) (i := 0) (xs := (bufc a m c).toList) rfl (hr := rdW0 hr)) <| s_y y_len <| s_y y_as <| s_nil <| q_then <| c_seq <| c_reg <| s_y y_mv <| s_y y_mv <| s_y y_nc <| s_y y_fa <| s_y (y_ldr (a := some ⟨b, 0, none⟩) (i := 0) (xs := (bufc a m c).toList) rfl (hr := rdW0 hr)) <| s_y y_cap <| s_y y_mv <| s_y (y_sub (p := c) (q := m)) <| s_kf y_leq (by omega) <| s_nil <| q_then <| c_f <| c_skip <| q_then <| c_seq <| c_reg <| s_y y_as <| s_y y_as <| s_nil <| q_then <| c_ret <| ?_
  exact ret2 Tryd.results73 rv_t rv_t fun w' hw => ⟨rfl, hw⟩

theorem tryGrow_yes (w : World) (b : Nat) (T : TypeId) (a : Option Addr) (m c n : Nat) (hb : (bblk b T a m c).holds w) (h : m + n ≤ c) (hc : c ≤ 9223372036854775807) :
    Gives Tryd.prog 73 [.pointer (some ⟨b, 0, none⟩), I n] w (keys [bblk b T a m c]) (fun _ : Unit => .tuple #[I m, .bool true]) (fun _ => [bblk b T a (m + n) c]) (fun _ => True) := by
  refine enterR Tryd.func73 Tryd.ntmps73 hb ?_
  refine c_seq <| c_reg <| s_y y_as <| s_y y_as <| s_nil <| q_then <| c_seq <| c_seq <| c_reg <| s_y y_mv <| s_y y_nc <| s_y y_fa <| s_y (y_ld (v := .slice a m c)) <| s_y y_len <| s_y y_as <| s_nil <| q_then <| c_seq <| c_reg <| s_y y_mv <| s_y y_mv <| s_y y_nc <| s_y y_fa <| s_y (y_ld (v := .slice a m c)) <| s_y y_cap <| s_y y_mv <| s_y (y_sub (p := c) (q := m)) <| s_kt y_leq (by omega) <| s_nil <| q_then <| c_t <| c_seq <| c_reg <| s_y y_mv <| s_y y_mv <| s_y y_nc <| s_y y_fa <| s_y (y_ld (v := .slice a m c)) <| s_y y_mv <| s_y y_mv <| s_y (y_add (p := m) (q := n)) <| s_y (y_slh (j := (m : Int) + n)) <| s_y y_nc <| s_y y_fa <| s_st (v := .slice a ((m : Int) + n).toNat c) (hl := show 0 + 0 < 3 by decide) ?_
  rw [show ((m : Int) + n).toNat = m + n by omega]
  refine s_nil <| q_then <| c_seq <| c_reg <| s_y y_mv <| s_y y_as <| s_y y_as <| s_nil <| q_then <| c_ret <| q_ret <| ?_
  exact ret2 Tryd.results73 rv_t rv_t fun w' hw => ⟨(), trivial, rfl, hw⟩

theorem catch_idle (w : World) : CallsD Tryd.prog 107 #[] .returning w fun e u' w' => e = .returned (.tuple #[]) ∧ u' = .returning ∧ w' = w := by
  have hnn : ∀ w : World, (binOp .neq 20 .nilIface .nilIface).run Tryd.prog w = .ok (.bool false) w := fun _ => by kernel_rfl
  refine callsD_of_wpS Tryd.func107 rfl fun c₀ cs hu => ?_
  apply wpS_seq
  apply wpS_region
  simp [wpOpsS, go_sem, recoverD, hu, hnn, Tryd.ntmps107, Exit.thenS]
  refine wpS_cond (t := false) (by simp [Act.eval, Array.replicate]) ?_
  simp only [Bool.false_eq_true, if_false]
  refine wpS_of_wp (wp_skip ?_)
  cases c₀
  simp_all [bodyPostS, results, Tryd.results107]
end Go.Proofs.YtchpcabehchfjaaDoor
/- bytes.Buffer: growing and writing. -/
namespace Eng
open Go Go.RowKit
section
variable {r : Option Nat} {P : Program} {n : Nat} {D : List Deferred} {W : World} {Bo : List Nat} {F : List (Nat × Value)} {l : SH} {e : TypeId}
  {Q : Exit → Act → World → Prop} {ops : Array Oper} {rest : List Oper}
theorem s_rowg {a : Option Addr} {cc s k : Nat} {xs : List Value} (h : ∀ g, a = some ⟨g, 0, none⟩ → LP r P n D W Bo ops Q rest F l) (hne : a ≠ none) (hm : Res.row a cc e s k xs ∈ l := by repeat (first | exact .head _ | apply List.Mem.tail)) : LP r P n D W Bo ops Q rest F l :=
  fun ac w ha hw => by
    obtain ⟨_, _, h3⟩ := (hw.own _ hm).1
    rcases h3 with ⟨h4, _⟩ | ⟨g, cur, h4, _⟩
    · exact absurd h4 hne
    · exact h g h4 ac w ha hw
theorem run_cf {k : FuncId} [hf : HF P k] (w : World) : (callFunc k #[]).run P w = .ok (.enter k #[]) w := by
  obtain ⟨fn, c, h1, h2, h3⟩ := hf.h
  have h4 : fn.name ≠ "runtime.NumGoroutine" := by simpa using h3
  simp [callFunc, h1, h4, h2]
theorem buf_cat {cur : List Value} {q p : List UInt8} (ht : cur.take q.length = bs q) : (cur.take q.length ++ bs p ++ cur.drop (q.length + p.length)).take (q ++ p).length = bs (q ++ p) := by
  rw [ht, ← bs_append, List.take_append_of_le_length (by rw [bs_length]; omega), List.take_of_length_le (by rw [bs_length]; omega)]
end
end Eng
namespace Go.Proofs.YtchpcabehchfjaaDoor
open Go Eng

theorem growSlice_ok (w : World) (a : Option Addr) (c n : Nat) (q : List UInt8) (hr : Rd w a (bs q)) (hn : 0 < n) (h1 : 2 * c ≤ 140737488355000) (h2 : q.length + n ≤ 140737488355000) :
    Gives Tryd.prog 100 [.slice a q.length c, I n] w [] (fun x : Nat × Nat => .slice (some ⟨x.1, 0, none⟩) q.length x.2) (fun x => [.row (some ⟨x.1, 0, none⟩) x.2 5 1 q.length (bs q)]) (fun x => q.length + n ≤ x.2) := by
  refine enterD Tryd.func100 Tryd.ntmps100 ?_
  refine c_seq <| c_reg <| s_y y_as <| s_nil <| q_then <| c_seq <| c_reg <| s_defer <| s_nil <| q_then <| c_seq <| c_reg <| s_y y_mv <| s_y y_len <| s_y y_mv <| s_y (y_add (p := q.length) (q := n)) <| s_y y_as <| s_nil <| q_then <| c_seq <| c_seq <| c_reg <| s_y y_mv <| s_y y_mv <| s_y y_cap <| s_y (y_mul (p := 2) (q := c)) <| s_y y_lss <| s_nil <| q_then <| c_ifd (fun h16 => ?_) (fun h16 => ?_)
  · obtain ⟨K, hK, hk1, hk2⟩ : ∃ K : Nat, (2 : Int) * c = (K : Int) ∧ q.length + n ≤ K ∧ K ≤ 140737488355000 := ⟨2 * c, by omega, by omega, h1⟩
    refine c_reg <| s_y y_mv <| s_y y_cap <| s_y (y_mul (p := 2) (q := c)) <| ?_
    rw [hK]
    refine s_y y_as <| s_nil <| q_then <| ?_
    refine c_seq <| c_reg <| s_y y_mv <| s_nilrow 5 1 <| s_apz (m := K) (k := 0) (xs := []) (hm := .head _) (hrep := fun _ _ => .head _) fun a21 c21 h21 => ?_
    refine s_row (fun hk1 hk2 => s_rowg (fun g hg => ?_) (fun e => by have := (h21 e).2; omega) (.head _)) (.head _)
    subst hg
    refine s_y y_as <| s_nil <| q_then <| c_seq <| c_reg <| s_y y_mv <| s_y y_mv <| ?_
    refine s_cpr (gb := g) (off := 0) (mm := 0 + K) (mc := c21) (k := q.length) (m' := q.length) (xs' := bs q) (ys := bs q) (fun cur hcur ht => ?_) (rdW0 hr) (bs_length q).symm (fun v hv => bs_one hv) (by omega) (by omega) (by omega) (.head _) ?_
    · rw [List.take_zero, List.nil_append, List.take_append_of_le_length (by rw [bs_length]; omega), List.take_of_length_le (by rw [bs_length]; omega)]
    refine s_y y_as <| s_nil <| q_then <| c_seq <| c_reg <| s_y y_mv <| s_y y_mv <| s_y (y_slh (j := q.length)) <| ?_
    rw [show ((q.length : Nat) : Int).toNat = q.length by omega]
    refine s_y y_as <| s_nil <| q_then <| c_ret <| ?_
    exact ret1D Tryd.results100 (fun w' => run_cf w') (fun w' => catch_idle w') rv_t fun w' hw => ⟨(g, c21), by omega, rfl, hw.sub (.cons_cons _ (List.nil_sublist _))⟩
  · obtain ⟨K, hK, hk1, hk2⟩ : ∃ K : Nat, (q.length : Int) + n = (K : Int) ∧ q.length + n ≤ K ∧ K ≤ 140737488355000 := ⟨q.length + n, by omega, by omega, h2⟩
    rw [hK]
    refine c_skip <| q_then <| ?_
    refine c_seq <| c_reg <| s_y y_mv <| s_nilrow 5 1 <| s_apz (m := K) (k := 0) (xs := []) (hm := .head _) (hrep := fun _ _ => .head _) fun a21 c21 h21 => ?_
    refine s_row (fun hk1 hk2 => s_rowg (fun g hg => ?_) (fun e => by have := (h21 e).2; omega) (.head _)) (.head _)
    subst hg
    refine s_y y_as <| s_nil <| q_then <| c_seq <| c_reg <| s_y y_mv <| s_y y_mv <| ?_
    refine s_cpr (gb := g) (off := 0) (mm := 0 + K) (mc := c21) (k := q.length) (m' := q.length) (xs' := bs q) (ys := bs q) (fun cur hcur ht => ?_) (rdW0 hr) (bs_length q).symm (fun v hv => bs_one hv) (by omega) (by omega) (by omega) (.head _) ?_
    · rw [List.take_zero, List.nil_append, List.take_append_of_le_length (by rw [bs_length]; omega), List.take_of_length_le (by rw [bs_length]; omega)]
    refine s_y y_as <| s_nil <| q_then <| c_seq <| c_reg <| s_y y_mv <| s_y y_mv <| s_y (y_slh (j := q.length)) <| ?_
    rw [show ((q.length : Nat) : Int).toNat = q.length by omega]
    refine s_y y_as <| s_nil <| q_then <| c_ret <| ?_
    exact ret1D Tryd.results100 (fun w' => run_cf w') (fun w' => catch_idle w') rv_t fun w' hw => ⟨(g, c21), by omega, rfl, hw.sub (.cons_cons _ (List.nil_sublist _))⟩

theorem growA_ok (w : World) (b : Nat) (T : TypeId) (n : Nat) (hb : (bblk b T none 0 0).holds w) (hn : 0 < n) (h : n ≤ 64) :
    Gives Tryd.prog 74 [.pointer (some ⟨b, 0, none⟩), I n] w (keys [bblk b T none 0 0]) (fun _ : Nat => I 0) (fun g => [bblk b T (some ⟨g, 0, none⟩) n 64, .row (some ⟨g, 0, none⟩) 64 5 1 0 []]) (fun _ => True) := by
  refine enterR Tryd.func74 Tryd.ntmps74 hb ?_
  have hrd : ∀ {w' : World} {Bo : List Nat} {W : World}, St W Bo w' [bblk b T none 0 0] → Rd w' (some ⟨b, 0, none⟩) (bufc none 0 0).toList := fun {w'} _ _ hw => rdB (.head _) (fun i v h => by rw [Nat.zero_add]; simpa using h) w' hw
  refine c_seq <| c_reg <| s_y y_as <| s_nil <| q_then <| c_seq <| c_reg <| s_y y_mv <| s_pure (fun w' hw => Buffer_Len_ok w' b none 0 0 (hrd hw) (by omega)) <| s_y y_as <| s_nil <| q_then <| c_seq <| c_seq <| c_reg <| s_y y_mv <| s_kt (y_eql (p := 0) (q := 0)) (by omega) <| s_y y_mv <| s_y y_mv <| s_y y_nc <| s_y y_fa <| s_y (y_ld (v := I 0)) <| s_nf (y_neq (p := 0) (q := 0)) (by omega) <| s_y y_pk <| s_nil <| q_then <| c_f <| c_skip <| q_then <| c_seq <| c_seq <| c_reg <| s_y y_mv <| s_y y_mv <| s_pure (fun w' hw => tryGrow_no w' b none 0 0 n (hrd hw) (by omega) (by omega) (by omega)) <| s_y y_mv <| s_y y_ext <| s_y y_ext <| s_y y_as <| s_y y_as <| s_nil <| q_then <| c_seq <| c_reg <| s_y y_mv <| s_nil <| q_then <| c_f <| c_skip <| q_then <| c_seq <| c_seq <| c_reg <| s_y y_mv <| s_y y_nc <| s_y y_fa <| s_y (y_ld (v := .slice none 0 0)) <| s_y (v := .bool true) (y_eqln (a := none)) <| s_y y_mv <| s_y y_mv <| s_kt (y_leq (p := n) (q := 64)) (by omega) <| s_y y_pk <| s_nil <| q_then <| c_t <| c_seq <| c_reg <| s_y y_mv <| s_y y_mv <| s_mks (i := n) (j := 64) fun b41 => s_y y_nc <| s_y y_fa <| s_st (v := .slice (some ⟨b41, 0, none⟩) (n : Int).toNat 64) (hl := show 0 + 0 < 3 by decide) ?_
  rw [show ((n : Nat) : Int).toNat = n by omega]
  refine s_nil <| q_then <| c_seq <| c_reg <| s_y y_as <| s_nil <| q_then <| c_ret <| q_ret <| ?_
  refine ret1 Tryd.results74 rv_t fun w' hw => ⟨b41, trivial, rfl, ?_⟩
  have h2 := (hw.toRow (m := 64) (s := 1) (by rw [madeB]; simp [bs_length]) (by unfold maxLen; omega) (.head _)).trunc 0 (by omega) (.head _)
  exact h2.perm (.swap _ _ _)

theorem growB_ok (w : World) (b : Nat) (T : TypeId) (g c n : Nat) (q : List UInt8) (hb : (bblk b T (some ⟨g, 0, none⟩) q.length c).holds w) (hr : Rd w (some ⟨g, 0, none⟩) (bs q)) (hne : b ≠ g) (hq : 0 < q.length) (hn : 0 < n) (hqc : q.length ≤ c) (hcn : c < q.length + n) (hc : c ≤ 64) (h2 : q.length + n ≤ 140737488355000) :
    Gives Tryd.prog 74 [.pointer (some ⟨b, 0, none⟩), I n] w (keys [bblk b T (some ⟨g, 0, none⟩) q.length c]) (fun _ : Nat × Nat => I q.length) (fun x => [bblk b T (some ⟨x.1, 0, none⟩) (q.length + n) x.2, .row (some ⟨x.1, 0, none⟩) x.2 5 1 q.length (bs q)]) (fun x => q.length + n ≤ x.2) := by
  refine enterR Tryd.func74 Tryd.ntmps74 hb ?_
  have hrd : ∀ {w' : World} {Bo : List Nat} {W : World}, St W Bo w' [bblk b T (some ⟨g, 0, none⟩) q.length c] → Rd w' (some ⟨b, 0, none⟩) (bufc (some ⟨g, 0, none⟩) q.length c).toList := fun {w'} _ _ hw => rdB (.head _) (fun i v h => by rw [Nat.zero_add]; simpa using h) w' hw
  have hap : ∀ b' ∈ keys [bblk b T (some ⟨g, 0, none⟩) q.length c], (some (⟨g, 0, none⟩ : Addr)).map (·.block) ≠ some b' := fun b' hb' e => by
    obtain ⟨q', hq', hk⟩ := mem_keys.1 hb'
    rw [List.mem_singleton] at hq'
    subst hq'
    cases hk; cases e; exact hne rfl
  have hql : q.length ≤ 64 := by omega
  refine c_seq <| c_reg <| s_y y_as <| s_nil <| q_then <| c_seq <| c_reg <| s_y y_mv <| s_pure (fun w' hw => Buffer_Len_ok w' b (some ⟨g, 0, none⟩) q.length c (hrd hw) (by omega)) <| s_y y_as <| s_nil <| q_then <| c_seq <| c_seq <| c_reg <| s_y y_mv <| s_kf (y_eql (p := q.length) (q := 0)) (by omega) <| s_y y_mv <| s_no <| s_no <| s_no <| s_no <| s_no <| s_y y_pk <| s_nil <| q_then <| c_f <| c_skip <| q_then <| c_seq <| c_seq <| c_reg <| s_y y_mv <| s_y y_mv <| s_pure (fun w' hw => tryGrow_no w' b (some ⟨g, 0, none⟩) q.length c n (hrd hw) (by omega) (by omega) (by omega)) <| s_y y_mv <| s_y y_ext <| s_y y_ext <| s_y y_as <| s_y y_as <| s_nil <| q_then <| c_seq <| c_reg <| s_y y_mv <| s_nil <| q_then <| c_f <| c_skip <| q_then <| c_seq <| c_seq <| c_reg <| s_y y_mv <| s_y y_nc <| s_y y_fa <| s_y (y_ld (v := .slice (some ⟨g, 0, none⟩) q.length c)) <| s_y (v := .bool false) (y_eqln (a := some ⟨g, 0, none⟩)) <| s_y y_mv <| s_no <| s_no <| s_y y_pk <| s_nil <| q_then <| c_f <| c_skip <| q_then <| c_seq <| c_reg <| s_y y_mv <| s_y y_nc <| s_y y_fa <| s_y (y_ld (v := .slice (some ⟨g, 0, none⟩) q.length c)) <| s_y y_cap <| s_y y_as <| s_nil <| q_then <| c_seq <| c_seq <| c_reg <| s_y y_mv <| s_y y_mv <| s_y (y_quo (p := c) (q := 2)) <| s_y y_mv <| s_y (y_sub (p := (c : Int) / 2) (q := q.length)) <| s_kf (y_leq (p := n) (q := (c : Int) / 2 - q.length)) (by omega) <| s_nil <| q_then <| c_f <| c_seq <| c_reg <| s_y y_mv <| s_y y_mv <| s_y (y_sub (p := 9223372036854775807) (q := c)) <| s_y y_mv <| s_y (y_sub (p := 9223372036854775807 - (c : Int)) (q := n)) <| s_kf (y_gtr (p := c) (q := 9223372036854775807 - (c : Int) - n)) (by omega) <| s_nil <| q_then <| c_f <| ?_
  refine c_regF 19 <| f_y 0 rfl y_mv <| f_y 1 rfl y_mv <| f_y 2 rfl y_nc <| f_y 3 rfl y_fa <| f_y 4 rfl (y_ld (v := .slice (some ⟨g, 0, none⟩) q.length c)) <| f_y 5 rfl y_mv <| f_y 6 rfl y_nc <| f_y 7 rfl y_fa <| f_y 8 rfl (y_ld (v := I 0)) <| f_y 9 rfl (y_sll (i := 0)) <| ?_
  rw [show (0 : Int).toNat = 0 from rfl, sa_zero, Nat.sub_zero, Nat.sub_zero]
  refine f_y 10 rfl y_mv <| f_y 11 rfl y_nc <| f_y 12 rfl y_fa <| f_y 13 rfl (y_ld (v := I 0)) <| f_y 14 rfl y_mv <| f_y 15 rfl (y_add (p := 0) (q := n)) <| ?_
  rw [Int.zero_add]
  refine f_w 16 rfl <| s_gives (fun w' hw => growSlice_ok w' (some ⟨g, 0, none⟩) c n q (rdW hr hap w' hw) hn (by omega) h2) fun x hx => f_k <| f_w 17 rfl <| s_y y_nc <| f_k <| f_y 18 rfl y_fa <| f_w 19 rfl <| s_st (v := .slice (some ⟨x.1, 0, none⟩) q.length x.2) (hl := show 0 + 0 < 3 by decide) ?_
  refine f_z <| q_then <| c_seq <| c_reg <| s_y y_mv <| s_y y_nc <| s_y y_fa <| s_st (v := I 0) (hl := show 0 + 1 < 3 by decide) ?_
  refine s_nil <| q_then <| c_seq <| c_reg <| s_y y_mv <| s_y y_mv <| s_y y_nc <| s_y y_fa <| s_y (y_ld (v := .slice (some ⟨x.1, 0, none⟩) q.length x.2)) <| s_y y_mv <| s_y y_mv <| s_y (y_add (p := q.length) (q := n)) <| s_row fun hk1 hk2 => s_y (y_slh (j := (q.length : Int) + n)) <| s_y y_nc <| s_y y_fa <| s_st (v := .slice (some ⟨x.1, 0, none⟩) ((q.length : Int) + n).toNat x.2) (hl := show 0 + 0 < 3 by decide) ?_
  rw [show ((q.length : Int) + n).toNat = q.length + n by omega]
  refine s_nil <| q_then <| c_seq <| c_reg <| s_y y_mv <| s_y y_as <| s_nil <| q_then <| c_ret <| ?_
  exact ret1 Tryd.results74 rv_t fun w' hw => ⟨x, hx, rfl, hw.perm (.swap _ _ _)⟩
theorem Buffer_Write_ok (w : World) (b : Nat) (T : TypeId) (a : Option Addr) (c : Nat) (q p : List UInt8) (ap : Option Addr) (cp : Nat) (hs : ∀ r ∈ [bblk b T a q.length c, .row a c 5 1 q.length (bs q)], r.holds w) (hnd : (keys [bblk b T a q.length c, .row a c 5 1 q.length (bs q)]).Nodup) (hp : Rd w ap (bs p)) (hap : ∀ k ∈ keys [bblk b T a q.length c, .row a c 5 1 q.length (bs q)], ap.map (·.block) ≠ some k)
    (h0 : 0 < p.length) (hcase : (a = none ∧ q = [] ∧ c = 0 ∧ p.length ≤ 64) ∨ (∃ g, a = some ⟨g, 0, none⟩ ∧ 0 < q.length ∧ c ≤ 64)) (h2 : q.length + p.length ≤ 140737488355000) :
    Gives Tryd.prog 56 [.pointer (some ⟨b, 0, none⟩), .slice ap p.length cp] w (keys [bblk b T a q.length c, .row a c 5 1 q.length (bs q)]) (fun _ : Nat × Nat => .tuple #[I p.length, .nilIface])
      (fun x => [bblk b T (some ⟨x.1, 0, none⟩) (q ++ p).length x.2, .row (some ⟨x.1, 0, none⟩) x.2 5 1 (q ++ p).length (bs (q ++ p))]) (fun x => (a = none → x.2 = 64) ∧ (q.length + p.length ≤ c → x.2 = c)) := by
  refine enterL Tryd.func56 Tryd.ntmps56 hs hnd ?_
  have hrow := hs _ (.tail _ (.head _))
  have hqc : q.length ≤ c := hrow.2.1
  have e1 : ∀ (a : Option Addr) (m c : Nat), (bufc a m c).setIfInBounds (0 + 2) (.int .i8 0) = bufc a m c := fun _ _ _ => rfl
  refine c_seq <| c_reg <| s_y y_as <| s_y y_as <| s_nil <| q_then <| c_seq <| c_reg <| s_y y_mv <| s_y y_nc <| s_y y_fa <| s_st (v := .int .i8 0) (hl := show 0 + 2 < 3 by decide) ?_
  rw [e1]
  refine s_nil <| q_then <| ?_
  rcases hcase with ⟨rfl, rfl, rfl, h64⟩ | ⟨g, rfl, hq0, hc64⟩
  · refine c_seq <| c_reg <| s_y y_mv <| s_y y_mv <| s_y y_len <| s_pure (fun w' hw => tryGrow_no w' b none 0 0 p.length (rdB (.head _) (fun i v h => by rw [Nat.zero_add]; simpa using h) w' hw) (by omega) (by omega) (by omega)) <| s_y y_mv <| s_y y_ext <| s_y y_ext <| s_y y_as <| s_y y_as <| s_nil <| q_then <| c_seq <| c_seq <| c_reg <| s_y y_mv <| s_y (v := .bool true) (y_not (b := false)) <| s_nil <| q_then <| c_t <| c_reg <| s_y y_mv <| s_y y_mv <| s_y y_len <| s_upd (fun w' hw => growA_ok w' b T p.length (hw.own _ (.head _)).1 h0 h64) (fun _ => .head _) (fun g _ => ?_)
    refine s_y y_as <| s_nil <| q_then <| ?_
    refine c_seq <| c_reg <| s_y y_mv <| s_y y_nc <| s_y y_fa <| s_y (y_ld (v := .slice (some ⟨g, 0, none⟩) p.length 64)) <| s_y y_mv <| s_y (y_sll (i := 0)) <| ?_
    rw [show (0 : Int).toNat = 0 from rfl, sa_zero, Nat.sub_zero, Nat.sub_zero]
    refine s_y y_mv <| ?_
    refine s_cpr (gb := g) (off := 0) (mm := p.length) (mc := 64) (k := p.length) (m' := p.length) (xs' := bs p) (ys := bs p) (fun cur hcur ht => ?_) (rdW hp hap) (bs_length p).symm (fun v hv => bs_one hv) (Nat.le_refl _) (by omega) (by omega) (.head _) ?_
    · exact buf_cat (q := []) ht
    refine s_y y_as <| s_y y_as <| s_nil <| q_then <| c_ret <| ?_
    exact ret2 Tryd.results56 rv_t rv_t fun w' hw => ⟨(g, 64), ⟨fun _ => rfl, fun h9 => by have h8 : 0 + p.length ≤ 0 := h9; omega⟩, rfl, (hw.perm (.swap _ _ _)).sub (.cons_cons _ (.cons_cons _ (List.nil_sublist _)))⟩
  · by_cases hfit : q.length + p.length ≤ c
    · obtain ⟨c', hc'⟩ : ∃ c', c = c' := ⟨_, rfl⟩
      refine c_seq <| c_reg <| s_y y_mv <| s_y y_mv <| s_y y_len <| s_upd (fun w' hw => tryGrow_yes w' b T (some ⟨g, 0, none⟩) q.length c p.length (hw.own _ (.head _)).1 hfit (by omega)) (fun _ => .head _) (fun _ _ => ?_)
      refine s_y y_mv <| s_y y_ext <| s_y y_ext <| s_y y_as <| s_y y_as <| s_nil <| q_then <| c_seq <| c_seq <| c_reg <| s_y y_mv <| s_y (v := .bool false) (y_not (b := true)) <| s_nil <| q_then <| c_f <| c_skip <| q_then <| ?_
      refine c_seq <| c_reg <| s_y y_mv <| s_y y_nc <| s_y y_fa <| s_y (y_ld (v := .slice (some ⟨g, 0, none⟩) (q.length + p.length) c)) <| s_y y_mv <| s_y (y_sll (i := q.length)) <| ?_
      rw [show ((q.length : Nat) : Int).toNat = q.length by omega, sa_lt (show q.length < c by omega), Nat.zero_add, Nat.mul_one, show q.length + p.length - q.length = p.length by omega]
      refine s_y y_mv <| ?_
      refine s_cpr (gb := g) (off := q.length) (mm := p.length) (mc := c - q.length) (k := p.length) (m' := (q ++ p).length) (xs' := bs (q ++ p)) (ys := bs p) (fun cur hcur ht => ?_) (rdW hp hap) (bs_length p).symm (fun v hv => bs_one hv) (Nat.le_refl _) (by omega) (by rw [List.length_append]; omega) (.tail _ (.head _)) ?_
      · exact buf_cat ht
      rw [← List.length_append]
      refine s_y y_as <| s_y y_as <| s_nil <| q_then <| c_ret <| ?_
      exact ret2 Tryd.results56 rv_t rv_t fun w' hw => ⟨(g, c), ⟨fun h9 => (by cases h9), fun _ => rfl⟩, rfl, hw⟩
    · have hbg : b ≠ g := by
        intro e
        subst e
        have : (keys [bblk b T (some ⟨b, 0, none⟩) q.length c, .row (some ⟨b, 0, none⟩) c 5 1 q.length (bs q)]) = [b, b] := rfl
        rw [this] at hnd
        simp at hnd
      refine c_seq <| c_reg <| s_y y_mv <| s_y y_mv <| s_y y_len <| s_pure (fun w' hw => tryGrow_no w' b (some ⟨g, 0, none⟩) q.length c p.length (rdB (.head _) (fun i v h => by rw [Nat.zero_add]; simpa using h) w' hw) (by omega) (by omega) (by omega)) <| s_y y_mv <| s_y y_ext <| s_y y_ext <| s_y y_as <| s_y y_as <| s_nil <| q_then <| c_seq <| c_seq <| c_reg <| s_y y_mv <| s_y (v := .bool true) (y_not (b := false)) <| s_nil <| q_then <| c_t <| c_reg <| s_y y_mv <| s_y y_mv <| s_y y_len <| s_upd (fun w' hw => growB_ok w' b T g c p.length q (hw.own _ (.head _)).1 (Res.rd (hw.own _ (.tail _ (.head _))).1) hbg hq0 h0 hqc (by omega) hc64 h2) (fun _ => .head _) (fun x hx => ?_)
      refine s_y y_as <| s_nil <| q_then <| ?_
      refine c_seq <| c_reg <| s_y y_mv <| s_y y_nc <| s_y y_fa <| s_y (y_ld (v := .slice (some ⟨x.1, 0, none⟩) (q.length + p.length) x.2)) <| s_y y_mv <| s_y (y_sll (i := q.length)) <| ?_
      rw [show ((q.length : Nat) : Int).toNat = q.length by omega, sa_lt (show q.length < x.2 by omega), Nat.zero_add, Nat.mul_one, show q.length + p.length - q.length = p.length by omega]
      refine s_y y_mv <| ?_
      refine s_cpr (gb := x.1) (off := q.length) (mm := p.length) (mc := x.2 - q.length) (k := p.length) (m' := (q ++ p).length) (xs' := bs (q ++ p)) (ys := bs p) (fun cur hcur ht => ?_) (rdW hp hap) (bs_length p).symm (fun v hv => bs_one hv) (Nat.le_refl _) (by omega) (by rw [List.length_append]; omega) (.head _) ?_
      · exact buf_cat ht
      rw [← List.length_append]
      refine s_y y_as <| s_y y_as <| s_nil <| q_then <| c_ret <| ?_
      exact ret2 Tryd.results56 rv_t rv_t fun w' hw => ⟨(x.1, x.2), ⟨fun h9 => (by cases h9), fun h9 => by rw [List.length_append] at h9; exact absurd h9 hfit⟩, rfl, (hw.perm (.swap _ _ _)).sub (.cons_cons _ (.cons_cons _ (List.nil_sublist _)))⟩
end Go.Proofs.YtchpcabehchfjaaDoor
