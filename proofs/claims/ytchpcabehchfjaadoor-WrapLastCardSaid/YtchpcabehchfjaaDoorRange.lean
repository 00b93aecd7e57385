/- Loops over functions: the loop's record, rounds, and the mark among the deferred calls. -/
import Derived.Test.YtchpcabehchfjaaDoorDerA
import Derived.RangeFuncLeaves
namespace Eng
open Go Go.RowKit
section
variable {r : Option Nat} {P : Program} {n : Nat} {D : List Deferred} {W : World} {Bo : List Nat} {F F0 F1 : List (Nat × Value)} {l l' l1 l2 l3 : SH} {e : TypeId}
  {dd : Nat} {ty : TypeId} {ps : String} {af : Array Edge} {g : Option (Nat × Bool)} {Q : Exit → Act → World → Prop} {ops : Array Oper} {rest : List Oper} {c : Code}

theorem St.putObj {w : World} {b : Nat} {o o' : Obj} (hw : St W Bo w l) (hr : Rep (.blk b o) (.blk b o') l l') : St W Bo (w.putObj b o') l' := by
  have hb := (hw.own _ hr.mem).1
  have hlt := (Array.getElem?_eq_some_iff.1 hb).1
  refine hw.change hr rfl rfl rfl (by simp [World.putObj]) (fun k _ hk => World.putObj_heap_other (fun e => hk (by rw [e]; rfl))) (World.putObj_heap_same hlt) (fun k hk => .inl hk)

/-- a call of yield -/
theorem s_yield {fo : Operand} {ao : Array Operand} {ts : Array TypeId} {L : Nat} {rc : Loop} {v : Value} {σ : Type} (val : σ → Value) (lx : σ → SH) (φ : σ → Prop)
    (hm : Res.blk L (.loop rc) ∈ l) (hpz : rc.params.size = 1)
    (hr : ∀ w, St W Bo w l → RoundIn (Fw none) 0 P L rc.fn ((rc.params.zip #[v]).foldl (fun tmps (t, a) => tmps.setIfInBounds t a) rc.tmps) rc.assign rc.body w fun e w' => ∃ x, φ x ∧ e = .returned (val x) ∧ St W Bo w' (lx x))
    (h : ∀ x, φ x → LP none P n D W Bo ops Q rest ((dd, val x) :: F) (lx x))
    (hfo : evO F fo = some (.func (.yield L) #[] #[]) := by rfl) (hargs : evL F ao.toList = some [v] := by rfl) (hn : Nat.blt dd n = true := by rfl) (hg : Wn ops F g := by first | exact .none | exact .some rfl rfl) :
    LP none P n D W Bo ops Q (⟨some dd, .call ⟨.value fo, ao, ts⟩, ty, ps, af, g⟩ :: rest) F l := by
  intro a w ha hw
  refine wpListIn_of (hg.wanted rfl ha) ?_
  refine ⟨fun f _ => trivial, ?_⟩
  have hy := run_yield (P := P) (args := #[v]) (hw.own _ hm).1 (by simp [hpz])
  have hrun : (execOp a.eval ⟨some dd, .call ⟨.value fo, ao, ts⟩, ty, ps, af, g⟩).run P w = .ok (.round L rc.fn ((rc.params.zip #[v]).foldl (fun tmps (t, a) => tmps.setIfInBounds t a) rc.tmps) rc.assign rc.body) w := by
    simp only [execOp, resolve, ha.eval hfo, evs ha hargs, Deferred.ofValue, Sem.run_bind, Sem.run_pure, Result.andThen_ok, invoke]
    simpa using hy
  rw [semAt_eq _ (by simp), hrun]
  refine ⟨by simp [Fw, Fence.wide], (hr w hw).mono ?_⟩
  rintro e w' ⟨x, hx, rfl, hw'⟩
  exact h x hx _ _ (ha.put dd _ hn) hw'

/-- one round -/
theorem round_ok {tmps : Array Value} {ac : Act} {L : Nat} {rc : Loop} {R : Ending → World → Prop} {w : World} (hw : St W Bo w l) (hfr : Fr n F0 [] ac) (htm : { tmps := tmps, defers := [] } = ac)
    (hst : rc.state = .ready) (hL : Rep (.blk L (.loop rc)) (.blk L (.loop { rc with state := .busy })) l1 l2)
    (ha : CP (some L) P n [] W Bo rc.assign (Exit.then (Jn n [] W Bo F1 l1) (fun _ _ _ => False)) F0 l)
    (hb : CP (some L) P n [] W Bo rc.body (roundPost P L R) F1 l2) : RoundIn (Fw none) 0 P L rc.fn tmps rc.assign rc.body w R := by
  refine roundIn_of_wpIn (Fw_fn _ _) ?_
  rw [htm]
  refine wpIn_mono (ha _ w hfr hw) ?_
  intro e a1 w1 q
  cases e with
  | normal => exact ⟨_, run_beginRound (q.2.own _ hL.mem).1 hst, hb _ _ q.1 (q.2.putObj hL)⟩
  | exit id => exact q
  | goto l => exact q
  | ret => exact q
  | panic ch => exact q
  | outgrown => exact q
theorem q_rn {L : Nat} {rc : Loop} {R : Ending → World → Prop} (hL : Rep (.blk L (.loop rc)) (.blk L (.loop { rc with state := .ready, pending := none })) l l') (h : ∀ w, St W Bo w l' → R (.returned (.bool true)) w) : QP n D W Bo (roundPost P L R) .normal F l :=
  fun _ _ _ hw => ⟨_, _, run_endRound none (hw.own _ hL.mem).1, h _ (hw.putObj hL)⟩
theorem q_rx {L id : Nat} {rc : Loop} {R : Ending → World → Prop} (hL : Rep (.blk L (.loop rc)) (.blk L (.loop { rc with state := .done, pending := some (.exit id) })) l l') (h : ∀ w, St W Bo w l' → R (.returned (.bool false)) w) : QP n D W Bo (roundPost P L R) (.exit id) F l :=
  fun _ _ _ hw => ⟨_, _, run_endRound (some (.exit id)) (hw.own _ hL.mem).1, h _ (hw.putObj hL)⟩

/-- the loop, which is left by a jump out of a round -/
theorem c_range {gf : FuncId} [hf : HF P gf] {go : Operand} {prs : Array Tmp} {assign body : Code} {fs cs : List Value} {σ : Type} (lx : σ → SH) (φ : σ → Prop) {id : Nat}
    (hcall : ∀ (fn : FuncId) (tm : Array Value) (Dk L : Nat), (∀ D', Fr n F D' { tmps := tm, defers := D' }) → ∀ w, St W Bo w (.blk L (.loop { state := .ready, pending := none, fn, tmps := tm, params := prs, assign, body, defers := Dk }) :: .blk Dk (.deferred (some [])) :: l) →
      Calls P gf (fs ++ [Value.func (.yield L) #[] #[]] ++ cs).toArray w fun e w' => (∃ v, e = .returned v) ∧ ∃ x, φ x ∧ St W Bo w' (.blk L (.loop { state := .done, pending := some (.exit id), fn, tmps := tm, params := prs, assign, body, defers := Dk }) :: .blk Dk (.deferred (some [])) :: lx x))
    (hx : ∀ Dk x, φ x → QP n ({ target := .collected Dk, args := #[] } :: D) W Bo Q (.exit id) F (.blk Dk (.deferred (some [])) :: lx x))
    (hgo : evO F go = some (.func (.func gf) fs.toArray cs.toArray) := by rfl) : CP none P n D W Bo (.rangeFunc go prs assign body) Q F l := by
  intro a w ha hw
  refine wpIn_rangeFunc ?_
  intro fn _
  obtain ⟨fnd, bc, h1, h2, h3⟩ := hf.h
  have hcf : ∀ w' : World, (callFunc gf (fs ++ [Value.func (.yield (w.heap.size + 1)) #[] #[]] ++ cs).toArray).run P w' = .ok (.enter gf (fs ++ [Value.func (.yield (w.heap.size + 1)) #[] #[]] ++ cs).toArray) w' := fun w' => by
    have h4 : fnd.name ≠ "runtime.NumGoroutine" := by simpa using h3
    simp [callFunc, h1, h4, h2]
  have hw1 : St W Bo ((w.alloc (.deferred (some []))).alloc (.loop { state := .ready, pending := none, fn, tmps := a.tmps, params := prs, assign, body, defers := w.heap.size })) (.blk (w.heap.size + 1) (.loop { state := .ready, pending := none, fn, tmps := a.tmps, params := prs, assign, body, defers := w.heap.size }) :: .blk w.heap.size (.deferred (some [])) :: l) := by
    have := (hw.alloc (.deferred (some []))).alloc (.loop { state := .ready, pending := none, fn, tmps := a.tmps, params := prs, assign, body, defers := w.heap.size })
    rwa [World.size_alloc] at this
  obtain ⟨W1, hW1⟩ : ∃ W1, W1 = (w.alloc (.deferred (some []))).alloc (.loop { state := .ready, pending := none, fn, tmps := a.tmps, params := prs, assign, body, defers := w.heap.size }) := ⟨_, rfl⟩
  rw [← hW1] at hw1
  refine ⟨w.heap.size + 1, [{ target := .collected w.heap.size, args := #[] }], W1, { target := .fn (.func gf) cs.toArray, args := fs.toArray ++ #[Value.func (.yield (w.heap.size + 1)) #[] #[]] }, W1, gf, (fs ++ [Value.func (.yield (w.heap.size + 1)) #[] #[]] ++ cs).toArray, W1,
    by rw [hW1]; exact run_enterLoop_outer _ _ _ _ _, ?_, fun f' _ => trivial, ?_, by simp [Fw, Fence.wide], ?_⟩
  · simp only [resolve, ha.eval hgo]
    simp [go_sem, Deferred.ofValue]
  · simp only [invoke]
    simpa using hcf _
  · refine callsFw ((hcall fn a.tmps w.heap.size (w.heap.size + 1) (fun D' => ⟨ha.size, rfl, ha.slot⟩) _ hw1).mono ?_)
    rintro e w' ⟨⟨v, rfl⟩, x, hx', hw'⟩
    refine ⟨_, _, run_endLoop (hw'.own _ (.head _)).1 (by simp), ?_⟩
    refine wpIn_exit (hx w.heap.size x hx' _ _ ⟨ha.size, by simp [ha.defers], ha.slot⟩ ?_)
    have := hw'.putObj (Rep.head (p' := .blk (w.heap.size + 1) (.loop { state := .exhausted, pending := some (.exit id), fn, tmps := a.tmps, params := prs, assign, body, defers := w.heap.size })) _)
    exact this.sub (.cons _ (.refl _))

/-- a function that holds such a loop -/
theorem enterM {k : FuncId} {fn : Func} {args : List Value} {R : Ending → World → Prop} (hf : P.funcs[k]? = some fn) (hn : fn.ntmps = n) (h : CP none P n [] W [] c (bodyPostM (Fw none) 0 P fn R) (argsF 0 args) [])
    (hb : fn.body = some c := by rfl) (hle : Nat.ble args.length n = true := by rfl) : Calls P k args.toArray W R := by
  refine (callsIn_wide (n := 0)).1 ?_
  refine callsIn_of_wp_marks hf hb trivial ?_
  have hle' := Nat.le_of_ble_eq_true hle
  refine h _ W ⟨by simp; omega, rfl, ?_⟩ (St.refl W)
  intro t v ht
  have := (argsF_look args 0 t v ht).2
  simp only [Nat.sub_zero] at this
  have hlt : t < args.length := by
    rcases Nat.lt_or_ge t args.length with h1 | h1
    · exact h1
    · rw [List.getElem?_eq_none h1] at this; cases this
  rw [Array.getElem?_append_left (by simpa using hlt)]
  simpa using this
theorem ret2M {fn : Func} {R : Ending → World → Prop} {a b : ResultVar} {v u : Value} (hf : fn.results = #[a, b]) (h : RV P n W Bo F l a v) (h2 : RV P n W Bo F l b u) (hR : ∀ w, St W Bo w l → R (.returned (.tuple #[v, u])) w) : QP n [] W Bo (bodyPostM (Fw none) 0 P fn R) .ret F l := by
  intro ac w ha hw
  have h0 : QP n [] W Bo (bodyPost P fn R) .ret F l := ret2 hf h h2 hR
  have h3 := h0 ac w ha hw
  obtain ⟨hd, h4⟩ := h3
  show LeavesInM _ _ _ _ _ _ ac.defers .returning w
  rw [ha.defers]
  exact h4
theorem ret2D {fn : Func} {R : Ending → World → Prop} {a b : ResultVar} {v u : Value} {Dk : Nat} (hf : fn.results = #[a, b]) (hL : Rep (.blk Dk (.deferred (some []))) (.blk Dk (.deferred none)) l l') (h : RV P n W Bo F l' a v) (h2 : RV P n W Bo F l' b u) (hR : ∀ w, St W Bo w l' → R (.returned (.tuple #[v, u])) w) :
    QP n [{ target := .collected Dk, args := #[] }] W Bo (bodyPostM (Fw none) 0 P fn R) .ret F l := by
  intro ac w ha hw
  have h0 : QP n [] W Bo (bodyPost P fn R) .ret F l' := ret2 hf h h2 hR
  have hw' := hw.putObj hL
  have h3 := h0 { ac with defers := [] } _ ⟨ha.size, rfl, ha.slot⟩ hw'
  obtain ⟨hd, h4⟩ := h3
  show LeavesInM _ _ _ _ _ _ ac.defers .returning w
  rw [ha.defers]
  exact ⟨by simp, .inl ⟨Dk, _, rfl, run_takeDeferred (hw.own _ hL.mem).1, h4⟩⟩
end
end Eng
