/- Panics; deferred closures that recover. -/
import Derived.Test.YtjfiggbgpplopaaDoorBufX
namespace Eng
open Go Go.RowKit
section
variable {r : Option Nat} {P : Program} {n : Nat} {D : List Deferred} {W : World} {Bo : List Nat} {F : List (Nat × Value)} {l l' l2 ps0 lx : SH}
  {d : Option Tmp} {dd : Nat} {ty : TypeId} {ps : String} {af : Array Edge} {g : Option (Nat × Bool)} {x y z : Operand} {v u : Value} {ta tb t e : TypeId}
  {Q : Exit → Act → World → Prop} {ops : Array Oper} {rest : List Oper} {td : TypeDesc} {c : Code}
/-- a call that panics, and changes nothing -/
def Dies (P : Program) (k : FuncId) (args : List Value) (w : World) (v : Value) : Prop :=
  Calls P k args.toArray w fun e w' => e = .panicked [{ v := v, recovered := false }] ∧ St w [] w' []
theorem s_dies {k : FuncId} [hf : HF P k] {fo : Operand} {fs cs vs args : List Value} {ao : Array Operand} {ts : Array TypeId}
    (hc : ∀ w, St W Bo w l → Dies P k args w v)
    (h : QP n D W Bo Q (.panic [{ v := v, recovered := false }]) F l)
    (hfo : evO F fo = some (.func (.func k) fs.toArray cs.toArray) := by rfl) (hargs : evL F ao.toList = some vs := by rfl) (hap : args = fs ++ vs ++ cs := by rfl) (hg : Wn ops F g := by first | exact .none | exact .some rfl rfl) :
    LP r P n D W Bo ops Q (⟨d, .call ⟨.value fo, ao, ts⟩, ty, ps, af, g⟩ :: rest) F l := by
  intro a w ha hw
  refine wpListIn_of (hg.wanted rfl ha) ?_
  refine ⟨fun f _ => trivial, ?_⟩
  rw [semAt_eq _ (by simp), run_call hfo hargs ha]
  refine ⟨by simp [Fw, Fence.wide], callsFw ((hap ▸ hc w hw : Dies P k (fs ++ vs ++ cs) w v).mono ?_)⟩
  rintro e w' ⟨rfl, hw'⟩
  exact h _ _ ha ((hw.trans hw').sub (by simp))
theorem s_panic {T : TypeId} (h : QP n D W Bo Q (.panic [{ v := .iface T v, recovered := false }]) F l) (hx : evO F x = some (.iface T v) := by rfl) (hg : Wn ops F g := by first | exact .none | exact .some rfl rfl) :
    LP r P n D W Bo ops Q (⟨d, .panic x, ty, ps, af, g⟩ :: rest) F l := by
  intro a w ha hw
  refine wpListIn_of (hg.wanted rfl ha) ?_
  refine ⟨fun f _ => trivial, ?_⟩
  have e : (execOp a.eval ⟨d, .panic x, ty, ps, af, g⟩).run P w = .halt (.panic (.iface T v)) w := by
    simp only [execOp, ha.eval hx, Sem.run_bind]
    rfl
  rw [semAt_eq _ (by simp), e]
  exact h _ _ ha hw
theorem q_pb {id : Nat} {ch : List PanicEntry} (h : QP n D W Bo Q (.panic ch) F l) : QP n D W Bo (Exit.inBlock id Q) (.panic ch) F l := h
theorem q_pt {K : Act → World → Prop} {ch : List PanicEntry} (h : QP n D W Bo Q (.panic ch) F l) : QP n D W Bo (Exit.then K Q) (.panic ch) F l := h
theorem die {fn : Func} {R : Ending → World → Prop} {ch : List PanicEntry} (hR : ∀ w, St W Bo w l → R (.panicked ch) w) : QP n [] W Bo (bodyPost P fn R) (.panic ch) F l :=
  fun _ _ ha hw => ⟨ha.defers, hR _ hw⟩
/-- a closure is deferred -/
theorem s_deferC {k : FuncId} {cs : List Value} {ts : Array TypeId} (h : LP none P n ({ target := .fn (.func k) cs.toArray, args := #[] } :: D) W Bo ops Q rest F l) (hx : evO F x = some (.func (.func k) #[] cs.toArray) := by rfl) :
    LP none P n D W Bo ops Q (⟨none, .defer ⟨.value x, #[], ts⟩, ty, ps, af, none⟩ :: rest) F l := by
  intro a w ha hw
  refine wpListIn_of (by simp [Region.wanted]) ?_
  refine ⟨fun f _ => trivial, ?_⟩
  have e : (Oper.semAt (Fw none).round a.eval ⟨none, .defer ⟨.value x, #[], ts⟩, ty, ps, af, none⟩).run P w = .ok (.defer { target := .fn (.func k) cs.toArray, args := #[] }) w := by
    rw [show (Fw none).round = none from rfl, Oper.semAt_none]
    simp [execOp, resolve, ha.eval hx, Deferred.ofValue]
  rw [e]
  exact h _ _ ⟨ha.size, by simp [Act.put, ha.defers], fun t v ht => ha.slot t v ht⟩ hw
/-- what a deferred call does, in each mode of the frame below -/
def GivesD (P : Program) (k : FuncId) (args : List Value) (m : FrameMode) (w : World) (bo : List Nat) (m' : FrameMode) (lx : SH) : Prop :=
  CallsD P k args.toArray m w fun e u w' => e = .returned (.tuple #[]) ∧ u = m' ∧ St w bo w' lx
theorem ret_0D {fn : Func} {R : Ending → World → Prop} {rvs : List ResultVar} {vs : List Value} (hf : fn.results = rvs.toArray) (h : RVs P n W Bo F l rvs vs) (hR : ∀ w, St W Bo w l → R (.returned (outV vs)) w) :
    QP n [] W Bo (bodyPostD P fn R) .ret F l := by
  intro a w ha hw
  obtain ⟨_, h4⟩ := (ret_n hf h _ (.inl rfl) hR : QP n [] W Bo (bodyPost P fn R) .ret F l) a w ha hw
  show Leaves P fn a.tmps R a.defers .returning w
  rw [ha.defers]; exact h4
theorem leave_D {fn : Func} {R : Ending → World → Prop} {rvs : List ResultVar} {vs : List Value} {k : FuncId} [hk : HF P k] {cs : List Value} {m m' : FrameMode} {e : Exit}
    (he : ∀ (a : Act) (w : World), Leaves P fn a.tmps R a.defers m w → bodyPostD P fn R e a w) (hm : m ≠ .run) (hm' : settle m' = .returning)
    (hperm : l.Perm (ps0 ++ l2)) (hd : ∀ w, St W Bo w (ps0 ++ l2) → GivesD P k cs m w (keys ps0) m' lx)
    (hf : fn.results = rvs.toArray) (h : RVs P n W Bo F (lx ++ l2) rvs vs) (hR : ∀ w, St W Bo w (lx ++ l2) → R (.returned (outV vs)) w) :
    QP n [{ target := .fn (.func k) cs.toArray, args := #[] }] W Bo (bodyPostD P fn R) e F l := by
  intro a w ha hw
  refine he a w ?_
  rw [ha.defers]
  obtain ⟨fnd, bc, h1, h2, h3⟩ := hk.h
  have hi : (invoke (.fn (.func k) cs.toArray) #[]).run P w = .ok (.enter k cs.toArray) w := by
    have h4 : fnd.name ≠ "runtime.NumGoroutine" := by simpa using h3
    simp [invoke, callFunc, h1, h4, h2]
  refine leaves_cons (f := k) (args := cs.toArray) hm hi ?_
  refine (hd w (hw.perm hperm.symm)).mono fun e' u' w' ⟨h5, h6, h7⟩ => ?_
  subst h5 h6
  show Leaves P fn a.tmps R [] (settle _) w'
  rw [hm']
  have hw' := hw.transL hperm h7
  obtain ⟨_, h4⟩ := (ret_n hf h _ (.inl rfl) hR : QP n [] W Bo (bodyPost P fn R) .ret F (lx ++ l2)) { a with defers := [] } w' ⟨ha.size, rfl, ha.slot⟩ hw'
  exact h4
/-- .. where the function returns; .. where it panics -/
theorem leave_R {fn : Func} {R : Ending → World → Prop} {rvs : List ResultVar} {vs : List Value} {k : FuncId} [hk : HF P k] {cs : List Value}
    (hd : ∀ w, St W Bo w l → GivesD P k cs .returning w [] .returning [])
    (hf : fn.results = rvs.toArray) (h : RVs P n W Bo F l rvs vs) (hR : ∀ w, St W Bo w l → R (.returned (outV vs)) w) :
    QP n [{ target := .fn (.func k) cs.toArray, args := #[] }] W Bo (bodyPostD P fn R) .ret F l :=
  leave_D (ps0 := []) (l2 := l) (lx := []) (m := .returning) (m' := .returning) (fun _ _ h => h) (by simp) rfl (.refl _) hd hf h hR
theorem leave_P {fn : Func} {R : Ending → World → Prop} {rvs : List ResultVar} {vs : List Value} {k : FuncId} [hk : HF P k] {cs : List Value} {v : Value} {p p' : Res}
    (hd : ∀ w, St W Bo w (p :: l2) → GivesD P k cs (.panicking [{ v := v, recovered := false }]) w (keys [p]) (.panicking [{ v := v, recovered := true }]) [p'])
    (hf : fn.results = rvs.toArray) (hperm : l.Perm (p :: l2)) (h : RVs P n W Bo F (p' :: l2) rvs vs) (hR : ∀ w, St W Bo w (p' :: l2) → R (.returned (outV vs)) w) :
    QP n [{ target := .fn (.func k) cs.toArray, args := #[] }] W Bo (bodyPostD P fn R) (.panic [{ v := v, recovered := false }]) F l :=
  leave_D (ps0 := [p]) (l2 := l2) (lx := [p']) (m := .panicking [{ v := v, recovered := false }]) (m' := .panicking [{ v := v, recovered := true }]) (fun _ _ h => h) (by simp) rfl hperm hd hf h hR
/-- the closure 'caught(recover(), &e)' -/
theorem recov {k kc : FuncId} [hkc : HF P kc] {fn : Func} {t1 t2 : TypeId} {p1 p2 : String} {a1 a2 : Array Edge} {ts : Array TypeId} {id : Nat} (hf : P.funcs[k]? = some fn)
    (hb : fn.body = some (.region id #[⟨some 1, .call ⟨.builtin .recover, #[], #[]⟩, t1, p1, a1, none⟩, ⟨some 2, .call ⟨.value (.func kc), #[.tmp 1, .tmp 0], ts⟩, t2, p2, a2, none⟩] false))
    (hn : fn.ntmps = 3) (hr : fn.results = #[]) {q rv : Value} {m m' : FrameMode} {w : World} {bo : List Nat}
    (hm : (m = .returning ∧ m' = .returning ∧ rv = .nilIface) ∨ ∃ v, m = .panicking [{ v := v, recovered := false }] ∧ m' = .panicking [{ v := v, recovered := true }] ∧ rv = v)
    (hc : Gives P kc [rv, q] w bo (fun _ : Unit => .tuple #[]) (fun _ => lx) (fun _ => True)) : GivesD P k [q] m w bo m' lx := by
  refine callsD_of_wpS hf hb fun c₀ cs hu => ?_
  apply wpS_region
  have hrec : (match recoverD (c₀ :: cs) with | some (v, cs') => (v, cs') | none => (.nilIface, c₀ :: cs)) = (rv, { c₀ with mode := m' } :: cs) := by
    rcases hm with ⟨rfl, rfl, rfl⟩ | ⟨v, rfl, rfl, rfl⟩
    · simp only [recoverD, hu]
      rw [← hu]
    · simp only [recoverD, hu]
  have e1 : ∀ (a : Act), (execOp a.eval ⟨some 1, .call ⟨.builtin .recover, #[], #[]⟩, t1, p1, a1, none⟩).run P w = .ok .recover w := fun a => rfl
  obtain ⟨fnd, bc, h1, h2, h3⟩ := hkc.h
  have h4 : fnd.name ≠ "runtime.NumGoroutine" := by simpa using h3
  have e2 : ∀ (a : Act), a.tmps[0]? = some q → a.tmps[1]? = some rv → (execOp a.eval ⟨some 2, .call ⟨.value (.func kc), #[.tmp 1, .tmp 0], ts⟩, t2, p2, a2, none⟩).run P w = .ok (.enter kc [rv, q].toArray) w := fun a ha hb => by
    have e3 : a.eval (.tmp 1) = rv := by simp [Act.eval, Array.getD_eq_getD_getElem?, hb]
    have e4 : a.eval (.tmp 0) = q := by simp [Act.eval, Array.getD_eq_getD_getElem?, ha]
    simp [execOp, resolve, Deferred.ofValue, invoke, callFunc, h1, h4, h2, e3, e4, Act.eval]
    simp [Act.eval] at e3 e4
    simp [e3, e4]
  have hend : ∀ (cs' : List Frame) (a : Act), a.tmps[0]? = some q → a.tmps[1]? = some rv → a.defers = [] → cs' = { c₀ with mode := m' } :: cs →
      (Oper.upon P ⟨some 2, .call ⟨.value (.func kc), #[.tmp 1, .tmp 0], ts⟩, t2, p2, a2, none⟩ a (fun a' w' => bodyPostS P fn c₀ cs (fun e u w' => e = .returned (.tuple #[]) ∧ u = m' ∧ St w bo w' lx) .normal a' cs' w') (fun e a' w' => bodyPostS P fn c₀ cs (fun e u w' => e = .returned (.tuple #[]) ∧ u = m' ∧ St w bo w' lx) e a' cs' w') (.ok (.enter kc [rv, q].toArray) w)) := fun cs' a _ _ hd hcs => by
    show Calls P kc _ w _
    refine hc.mono fun e w' ⟨_, _, he, hw'⟩ => ?_
    subst he
    exact ⟨by simp [Act.put, hd], m', hcs, .tuple #[], by rw [results_eq, hr]; simp, rfl, rfl, hw'⟩
  have ht0 : (#[q] ++ Array.replicate (fn.ntmps - 1) undef : Array Value) = #[q, undef, undef] := by rw [hn]; rfl
  simp only [List.size_toArray, List.length_cons, List.length_nil, Nat.zero_add, ht0]
  show wpOpsS P _ _ [0, 1] _ _ w
  unfold wpOpsS
  simp only [List.getElem?_toArray, List.getElem?_cons_zero, Region.wanted, if_true, e1]
  have key : ∀ (v : Value) (cs' : List Frame), v = rv → cs' = { c₀ with mode := m' } :: cs → wpOpsS P #[⟨some 1, .call ⟨.builtin .recover, #[], #[]⟩, t1, p1, a1, none⟩, ⟨some 2, .call ⟨.value (.func kc), #[.tmp 1, .tmp 0], ts⟩, t2, p2, a2, none⟩] (bodyPostS P fn c₀ cs fun e u w' => e = .returned (.tuple #[]) ∧ u = m' ∧ St w bo w' lx) [1] (({ tmps := #[q, undef, undef], defers := [] } : Act).put (some 1) v) cs' w := fun v cs' hv hcs => by
    subst hv
    unfold wpOpsS
    simp only [List.getElem?_toArray, List.getElem?_cons_succ, List.getElem?_cons_zero, Region.wanted, if_true]
    rw [e2 _ rfl rfl]
    exact hend cs' _ rfl rfl rfl hcs
  cases hq : recoverD (c₀ :: cs) with
  | none => rw [hq] at hrec; simp only [Prod.mk.injEq] at hrec; exact key _ _ hrec.1 hrec.2
  | some y => obtain ⟨v, cs'⟩ := y; rw [hq] at hrec; simp only [Prod.mk.injEq] at hrec; exact key _ _ hrec.1 hrec.2
end
end Eng
