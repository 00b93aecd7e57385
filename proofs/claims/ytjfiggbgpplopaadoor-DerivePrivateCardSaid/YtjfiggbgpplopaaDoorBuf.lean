/- Writing into slices that own their memory; functions that defer a call; several parts taken over. -/
import Derived.Test.YtjfiggbgpplopaaDoorBorrow
import Derived.Test.YtjfiggbgpplopaaDoorConc
import Derived.Test.YtjfiggbgpplopaaDoorCodA
import Derived.Recover
namespace Eng
open Go Go.RowKit
section
variable {r : Option Nat} {P : Program} {n : Nat} {D : List Deferred} {W : World} {Bo : List Nat} {F : List (Nat × Value)} {l l' l1 l2 : SH}
  {d : Option Tmp} {dd : Nat} {ty : TypeId} {ps : String} {af : Array Edge} {g : Option (Nat × Bool)} {x y z : Operand} {v u : Value} {ta tb t e : TypeId}
  {Q : Exit → Act → World → Prop} {ops : Array Oper} {rest : List Oper} {td : TypeDesc} {c : Code}

/-- copy into a slice that owns its memory, and what is then known of it -/
theorem s_cpr [ht : HU P ta (.slice e)] {by' : Nat} [hs : HS P e 1 by'] {gb off mm mc cc m m' : Nat} {a : Option Addr} {k kc : Nat} {xs ys xs' : List Value} {et : TypeId}
    (hres : ∀ cur : List Value, cur.length = cc → cur.take m = xs → (cur.take off ++ ys ++ cur.drop (off + k)).take m' = xs')
    (hr : RdS W Bo l a ys) (hk : k = ys.length) (h1 : ∀ v ∈ ys, v.oneCell' = true) (hmm : k ≤ mm) (hfit : off + k ≤ cc) (hm' : m' ≤ cc)
    (hrep : Rep (.row (some ⟨gb, 0, none⟩) cc et 1 m xs) (.row (some ⟨gb, 0, none⟩) cc et 1 m' xs') l l')
    (h : LP r P n D W Bo ops Q rest ((dd, I k) :: F) l')
    (hx : evO F x = some (.slice (some ⟨gb, off, none⟩) mm mc) := by rfl) (hy : evO F y = some (.slice a k kc) := by rfl)
    (hn : Nat.blt dd n = true := by rfl) (hg : Wn ops F g := by first | exact .none | exact .some rfl rfl) :
    LP r P n D W Bo ops Q (⟨some dd, .call ⟨.builtin .copy, #[x, y], #[ta, tb]⟩, ty, ps, af, g⟩ :: rest) F l :=
  s_new (fun _ : Unit => I k) (fun _ => l') (fun _ => True) (by simp)
    (fun ac w ha hw => by
      have hmin : Nat.min k mm = k := Nat.min_eq_left hmm
      obtain ⟨hl, hkc, hown⟩ := (hw.own _ hrep.mem).1
      rcases hown with ⟨h0, _⟩ | ⟨b, cur, hb0, hb, hcm, hcs, htake⟩
      · cases h0
      · obtain rfl : gb = b := by cases hb0; rfl
        rw [Nat.mul_one] at hcs
        refine ⟨(), w.setRow gb (cur.toList.take off ++ ys ++ cur.toList.drop (off + ys.length)).toArray, trivial, ?_, ?_⟩
        · have e1 : #[x, y].map ac.eval = #[.slice (some ⟨gb, off, none⟩) mm mc, .slice a k kc] := by simp [ha.eval hx, ha.eval hy]
          have hst := run_storeCells_at P gb off et ys 0 cur w hb (by simp; omega) h1
          simp only [Nat.add_zero] at hst
          have hfc : (Builtin.firstCells 1 k (.slice a k kc)).run P w = .ok ys.toArray w := by
            have := first_cells (P := P) (m := k) (c := kc) (k := k) (hr w hw) (by omega)
            have e9 : ys.take k = ys := by rw [hk, List.take_length]
            rwa [e9] at this
          have hlo : (Builtin.lenOf (.slice a k kc)).run P w = .ok k w := rfl
          have hrun : (Builtin.copy_ #[ta, tb] ty #[.slice (some ⟨gb, off, none⟩) mm mc, .slice a k kc]).run P w = .ok (I k) (w.setRow gb (cur.toList.take off ++ ys ++ cur.toList.drop (off + ys.length)).toArray) := by
            simp only [Builtin.copy_]
            simp [run_underlying ht.h, run_sizeOf' hs, hlo, hfc, hst, goInt, Nat.min_def, hmm]
          simp only [execOp, resolve, e1, Sem.run_bind, Sem.run_pure, Result.andThen_ok, invoke, builtin, hrun]
        · refine hw.change hrep rfl rfl rfl (by simp) (fun k' _ hk' => setRow_other w gb _ k' (fun e' => hk' (by rw [e']; rfl))) ⟨?_, hm', .inr ⟨gb, _, rfl, setRow_heap w gb cur _ et (0, 0) hb, hcm, ?_, ?_⟩⟩ (fun k' hk' => .inl hk')
          · rw [← hres cur.toList (by simpa using hcs) (by rwa [Nat.mul_one] at htake), List.length_take]
            simp only [List.length_append, List.length_take, List.length_drop, Array.length_toList]
            omega
          · simp only [List.size_toArray, List.length_append, List.length_take, List.length_drop, Array.length_toList]; omega
          · rw [Nat.mul_one, ← hk, List.toList_toArray]
            exact hres cur.toList (by simpa using hcs) (by rwa [Nat.mul_one] at htake))
    (hn := hn) (hg := hg) (h := fun _ _ => h)

/-- a slice compared with nil -/
theorem y_eqln [hu : HU P ta (.slice e)] {a : Option Addr} {m c : Nat} (hx : evO F x = some (.slice a m c) := by rfl) (hy : evO F y = some (.slice none 0 0) := by rfl) : Y P n D W Bo ⟨d, .binOp .eql ta x y tb, ty, ps, af, g⟩ F l (.bool a.isNone) :=
  .mk (by simp) fun ac w ha _ => by
    have : (Op.equal ta (.slice a m c) (.slice none 0 0)).run P w = .ok a.isNone w := by
      unfold Op.equal Op.equalIn
      cases a <;> simp [Op.maxDepth, run_underlying hu.h]
    simp [execOp, ha.eval hx, ha.eval hy, eqGuard, binOp, this]

/-! several parts taken over -/
theorem keys_app (a b : SH) : keys (a ++ b) = keys a ++ keys b := by unfold keys; rw [List.filterMap_append]
theorem St.transL {w w' : World} {ps ps' : SH} (h : St W Bo w l) (hp : l.Perm (ps ++ l2)) (h' : St w (keys ps) w' ps') : St W Bo w' (ps' ++ l2) := by
  have h0 : St W Bo w (ps ++ l2) := h.perm hp.symm
  have hnd := h0.nd
  rw [keys_app, List.nodup_append] at hnd
  have hps : ∀ k, k ∈ keys ps → (W.heap.size ≤ k ∨ k ∈ Bo) ∧ k < w.heap.size := fun k hk => by
    obtain ⟨q, hq, hqk⟩ := mem_keys.1 hk
    exact ⟨(h0.own q (List.mem_append_left _ hq)).2 k hqk, h0.lt (List.mem_append_left _ hq) hqk⟩
  refine ⟨h'.os.trans h.os, h'.tape.trans h.tape, h'.output.trans h.output, Nat.le_trans h.size h'.size, ?_, ?_, ?_⟩
  · intro k hk hb
    rw [h'.old k (Nat.lt_of_lt_of_le hk h.size) (fun hm => (hps k hm).1.elim (fun h9 => by omega) hb)]
    exact h.old k hk hb
  · intro q hq
    rcases List.mem_append.1 hq with hq | hq
    · refine ⟨(h'.own q hq).1, fun k hk => ?_⟩
      rcases (h'.own q hq).2 k hk with h1 | h1
      · exact .inl (Nat.le_trans h.size h1)
      · exact (hps k h1).1
    · have hq0 := h0.own q (List.mem_append_right _ hq)
      refine ⟨Res.holds_congr hq0.1 fun k hk => h'.old k (h0.lt (List.mem_append_right _ hq) hk) (fun hm => ?_), hq0.2⟩
      exact hnd.2.2 k hm k (mem_keys.2 ⟨q, hq, hk⟩) rfl
  · rw [keys_app, List.nodup_append]
    refine ⟨h'.nd, hnd.2.1, ?_⟩
    intro x hx y hy e
    subst e
    obtain ⟨q, hq, hqk⟩ := mem_keys.1 hx
    obtain ⟨q2, hq2, hqk2⟩ := mem_keys.1 hy
    rcases (h'.own q hq).2 x hqk with h1 | h1
    · have := h0.lt (List.mem_append_right _ hq2) hqk2; omega
    · exact hnd.2.2 x h1 x hy rfl
theorem St.borrowL {W : World} {ps : SH} (h : ∀ p ∈ ps, p.holds W) (hnd : (keys ps).Nodup) : St W (keys ps) W ps :=
  ⟨rfl, rfl, rfl, Nat.le_refl _, fun _ _ _ => rfl, fun q hq => ⟨h q hq, fun k hk => .inr (mem_keys.2 ⟨q, hq, hk⟩)⟩, hnd⟩
theorem enterL {k : FuncId} {fn : Func} {args : List Value} {R : Ending → World → Prop} {ps : SH} (hf : P.funcs[k]? = some fn) (hn : fn.ntmps = n) (hp : ∀ p ∈ ps, p.holds W) (hnd : (keys ps).Nodup)
    (h : CP none P n [] W (keys ps) c (bodyPost P fn R) (argsF 0 args) ps) (hb : fn.body = some c := by rfl) (hle : Nat.ble args.length n = true := by rfl) : Calls P k args.toArray W R :=
  enter0 hf hb hn (Nat.le_of_ble_eq_true hle) (St.borrowL hp hnd) h
theorem s_updL {k : FuncId} [hf : HF P k] {fo : Operand} {fs cs vs args : List Value} {ao : Array Operand} {ts : Array TypeId} {σ : Type} {val : σ → Value} {ps0 l2 : SH} {lx : σ → SH} {φ : σ → Prop}
    (hperm : l.Perm (ps0 ++ l2)) (hc : ∀ w, St W Bo w (ps0 ++ l2) → Gives P k args w (keys ps0) val lx φ)
    (h : ∀ x, φ x → LP r P n D W Bo ops Q rest ((dd, val x) :: F) (lx x ++ l2))
    (hfo : evO F fo = some (.func (.func k) fs.toArray cs.toArray) := by rfl) (hargs : evL F ao.toList = some vs := by rfl) (hap : args = fs ++ vs ++ cs := by rfl) (hn : Nat.blt dd n = true := by rfl) (hg : Wn ops F g := by first | exact .none | exact .some rfl rfl) :
    LP r P n D W Bo ops Q (⟨some dd, .call ⟨.value fo, ao, ts⟩, ty, ps, af, g⟩ :: rest) F l :=
  s_calls val (fun x => lx x ++ l2) φ hfo hargs
    (fun w hw => (hap ▸ hc w (hw.perm hperm.symm) : Gives P k (fs ++ vs ++ cs) w (keys ps0) val lx φ).mono fun _ _ ⟨x, hx, he, hw'⟩ => ⟨x, hx, he, hw.transL hperm hw'⟩) h hn hg

/-! a deferred call -/
theorem enterD {k : FuncId} {fn : Func} {args : List Value} {R : Ending → World → Prop} (hf : P.funcs[k]? = some fn) (hn : fn.ntmps = n) (h : CP none P n [] W [] c (bodyPostD P fn R) (argsF 0 args) [])
    (hb : fn.body = some c := by rfl) (hle : Nat.ble args.length n = true := by rfl) : Calls P k args.toArray W R := by
  refine calls_of_wp_defers hf hb ?_
  rw [← wpIn_wide (n := 0), ← Fw_none]
  have hle' := Nat.le_of_ble_eq_true hle
  refine h _ W ⟨by simp; omega, rfl, ?_⟩ (St.refl W)
  intro t v ht
  have := (argsF_look args 0 t v ht).2
  simp only [Nat.sub_zero] at this
  have hlt : t < args.length := by
    rcases Nat.lt_or_ge t args.length with h1 | h1
    · exact h1
    · rw [List.getElem?_eq_none h1] at this; cases this
  rw [Array.getElem?_append_left (by simpa using hlt)]
  simpa using this

theorem s_defer {k : FuncId} {ts : Array TypeId} (h : LP none P n ({ target := .fn (.func k) #[], args := #[] } :: D) W Bo ops Q rest F l) :
    LP none P n D W Bo ops Q (⟨none, .defer ⟨.value (.func k), #[], ts⟩, ty, ps, af, none⟩ :: rest) F l := by
  intro a w ha hw
  refine wpListIn_of (by simp [Region.wanted]) ?_
  refine ⟨fun f _ => trivial, ?_⟩
  have e : (Oper.semAt (Fw none).round a.eval ⟨none, .defer ⟨.value (.func k), #[], ts⟩, ty, ps, af, none⟩).run P w = .ok (.defer { target := .fn (.func k) #[], args := #[] }) w := by
    rw [show (Fw none).round = none from rfl, Oper.semAt_none]
    simp [execOp, resolve, Act.eval, Deferred.ofValue]
  rw [e]
  exact h _ _ ⟨ha.size, by simp [Act.put, ha.defers], fun t v ht => ha.slot t v ht⟩ hw

/-- the end of a function that has deferred one call, which does nothing -/
theorem ret1D {fn : Func} {R : Ending → World → Prop} {a : ResultVar} {k : FuncId} (hf : fn.results = #[a]) (hk : ∀ w, (callFunc k #[]).run P w = .ok (.enter k #[]) w)
    (hd : ∀ w, CallsD P k #[] .returning w fun e u w' => e = .returned (.tuple #[]) ∧ u = .returning ∧ w' = w) (h : RV P n W Bo F l a v) (hR : ∀ w, St W Bo w l → R (.returned v) w) :
    QP n [{ target := .fn (.func k) #[], args := #[] }] W Bo (bodyPostD P fn R) .ret F l := by
  intro ac w ha hw
  show Leaves P fn ac.tmps R ac.defers .returning w
  rw [ha.defers]
  refine leaves_cons (fv := .func k) (cap := #[]) (dargs := #[]) (f := k) (args := #[]) (by simp) (by simpa [invoke] using hk w) ?_
  refine (hd w).mono fun e u' w' ⟨he, hu, hw'⟩ => ?_
  subst he hu hw'
  refine ⟨v, ?_, hR w' hw⟩
  have hm := h ac _ w' ha hw
  rw [results_eq, hf]
  simp [hm]
end
end Eng
