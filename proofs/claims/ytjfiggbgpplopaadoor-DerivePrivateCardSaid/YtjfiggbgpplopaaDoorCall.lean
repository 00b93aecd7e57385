/- What the walk does with slices that grow, with calls, and at the ends of a function. -/
import Derived.Test.YtjfiggbgpplopaaDoorApp
import Derived.Deep.Quiet
import Derived.KernelRfl
namespace Eng
open Go Go.RowKit

class HF (P : Program) (k : FuncId) : Prop where
  h : ∃ fn c, P.funcs[k]? = some fn ∧ fn.body = some c ∧ (fn.name == "runtime.NumGoroutine") = false

/-- the parts of a literal -/
def evP (F : List (Nat × Value)) : List (Nat × Operand) → Option (List (Nat × Value))
  | [] => some []
  | (i, x) :: xs => match evO F x, evP F xs with
    | some v, some vs => some ((i, v) :: vs)
    | _, _ => none

theorem evP_eval {F : List (Nat × Value)} {n : Nat} {D : List Deferred} {a : Act} (ha : Fr n F D a) : ∀ {xs : List (Nat × Operand)} {vs : List (Nat × Value)}, evP F xs = some vs → xs.map (fun (i, x) => (i, a.eval x)) = vs
  | [], vs, h => by simp [evP] at h; subst h; rfl
  | (i, x) :: xs, vs, h => by
    unfold evP at h
    cases h1 : evO F x with
    | none => simp [h1] at h
    | some v =>
      cases h2 : evP F xs with
      | none => simp [h1, h2] at h
      | some us =>
        simp [h1, h2] at h; subst h
        simp only [List.map_cons, ha.eval h1, evP_eval ha h2]

section
variable {r : Option Nat} {P : Program} {n : Nat} {D : List Deferred} {W : World} {Bo : List Nat} {F : List (Nat × Value)} {l l' : SH}
  {d : Option Tmp} {dd : Nat} {ty : TypeId} {ps : String} {af : Array Edge} {g : Option (Nat × Bool)} {x y z : Operand} {v u : Value} {ta tb t e : TypeId}
  {Q : Exit → Act → World → Prop} {ops : Array Oper} {rest : List Oper} {td : TypeDesc} {c : Code}

/-- a nil slice owns no memory -/
theorem St.nilRow {w : World} (hw : St W Bo w l) (e : TypeId) (s : Nat) : St W Bo w (.row none 0 e s 0 [] :: l) :=
  hw.add (Below.refl _ _) ⟨by simp, by simp, .inl ⟨rfl, rfl⟩⟩ (fun k hk => by simp [Res.key] at hk)

theorem s_nilrow (e : TypeId) (s : Nat) (h : LP r P n D W Bo ops Q rest F (.row none 0 e s 0 [] :: l)) : LP r P n D W Bo ops Q rest F l := fun a w ha hw => h a w ha (hw.nilRow e s)
theorem c_nilrow (e : TypeId) (s : Nat) (h : CP r P n D W Bo c Q F (.row none 0 e s 0 [] :: l)) : CP r P n D W Bo c Q F l := fun a w ha hw => h a w ha (hw.nilRow e s)

/-- a block as a slice that owns it -/
theorem St.toRow {w : World} (hw : St W Bo w l) {b : Nat} {cs : Array Value} {e : TypeId} {s m : Nat} (hs : cs.size = m * s) (hm : m ≤ maxLen) (hr : Rep (.blk b (.cells cs e (0, 0))) (.row (some ⟨b, 0, none⟩) m e s m cs.toList) l l') : St W Bo w l' :=
  hw.change hr rfl rfl rfl (Nat.le_refl _) (fun _ _ _ => rfl)
    ⟨by simpa using hs, Nat.le_refl _, .inr ⟨b, cs, rfl, (hw.own _ hr.mem).1, hm, hs, by rw [← hs]; exact List.take_of_length_le (by simp)⟩⟩ (fun k hk => .inl hk)

theorem s_torow {b : Nat} {cs : Array Value} {e : TypeId} {s m : Nat} (hr : Rep (.blk b (.cells cs e (0, 0))) (.row (some ⟨b, 0, none⟩) m e s m cs.toList) l l') (hs : cs.size = m * s) (hm : m ≤ maxLen)
    (h : LP r P n D W Bo ops Q rest F l') : LP r P n D W Bo ops Q rest F l := fun a w ha hw => h a w ha (hw.toRow hs hm hr)
theorem c_torow {b : Nat} {cs : Array Value} {e : TypeId} {s m : Nat} (hr : Rep (.blk b (.cells cs e (0, 0))) (.row (some ⟨b, 0, none⟩) m e s m cs.toList) l l') (hs : cs.size = m * s) (hm : m ≤ maxLen)
    (h : CP r P n D W Bo c Q F l') : CP r P n D W Bo c Q F l := fun a w ha hw => h a w ha (hw.toRow hs hm hr)

/-- append: the slice owns its memory -/
theorem s_app [ht : HU P ta (.slice e)] [hu : HU P tb td] {s by' : Nat} [hs : HS P e s by'] {zz : Value} [hz : HZ P e zz] {a : Option Addr} {k cc m : Nat} {xs ys : List Value} {sv : Value}
    {l'' : Option Addr → Nat → SH} (hsrc : ∀ w, St W Bo w l → Src P w s sv m ys)
    (h : ∀ a' c', (a' = none → a = none ∧ m = 0) → LP r P n D W Bo ops Q rest ((dd, .slice a' (k + m) c') :: F) (l'' a' c'))
    (hx : evO F x = some (.slice a k cc) := by rfl) (hy : evO F y = some sv := by rfl)
    (hm : Res.row a cc e s k xs ∈ l := by repeat (first | exact .head _ | apply List.Mem.tail)) (hrep : ∀ a' c', Rep (.row a cc e s k xs) (.row a' c' e s (k + m) (xs ++ ys)) l (l'' a' c') := by intro _ _; repeat (first | exact .head _ | apply Rep.tail))
    (h1 : ∀ v ∈ ys, v.oneCell' = true := by first | decide | (simp [bs, is]; done)) (hfit : k + m ≤ maxLen := by (unfold maxLen; omega)) (hby : (k + m) * by' ≤ 140737488355328 := by omega)
    (hud : (∃ e', td = .slice e') ∨ td = .string := by first | exact .inl ⟨_, rfl⟩ | exact .inr rfl) (hzs : zz.cells.size = s := by rfl) (hn : Nat.blt dd n = true := by rfl) (hg : Wn ops F g := by first | exact .none | exact .some rfl rfl) :
    LP r P n D W Bo ops Q (⟨some dd, .call ⟨.builtin .append, #[x, y], #[ta, tb]⟩, ty, ps, af, g⟩ :: rest) F l := by
  refine s_new (σ := Option Addr × Nat) (fun p => .slice p.1 (k + m) p.2) (fun p => l'' p.1 p.2) (fun p => p.1 = none → a = none ∧ m = 0) (by simp) ?_ (hn := hn) (hg := hg) (h := fun p hp => h p.1 p.2 hp)
  intro ac w ha hw
  obtain ⟨a', c', w', hrun, hrow, h2, h3, h4, h5, h6, h7, h8⟩ := run_app (ty := ty) ht.h hu.h hud hs hz hzs (hw.own _ hm).1 (hsrc w hw) (hsrc w.drew hw.drew) h1 hfit hby
  refine ⟨(a', c'), w', h8, ?_, hw.change (hrep a' c') h2 h3 h4 h5 h6 hrow h7⟩
  have e1 : #[x, y].map ac.eval = #[.slice a k cc, sv] := by simp [ha.eval hx, ha.eval hy]
  simp only [execOp, resolve, e1, Sem.run_bind, Sem.run_pure, Result.andThen_ok, invoke, builtin, hrun]

/-- a slice that is written out -/
theorem s_bsl [ht : HU P t (.slice e)] {s by' : Nat} [hs : HS P e s by'] {zz : Value} [hz : HZ P e zz] {m : Nat} {parts : Array (Nat × Operand)} {vs : List (Nat × Value)} {cs : Array Value}
    (h : ∀ b, LP r P n D W Bo ops Q rest ((dd, .slice (some ⟨b, 0, none⟩) m m) :: F) (.blk b (.cells cs e) :: l))
    (hp : evP F parts.toList = some vs := by rfl)
    (hf : Instr.fill (fun i => some (i * s, s)) ((Array.range (m * s)).map (zz.cells[· % zz.cells.size]!)) vs = some cs := by rfl)
    (hm : 0 < m * s := by decide) (hm2 : m * s ≤ 16777216 := by decide) (hn : Nat.blt dd n = true := by rfl) (hg : Wn ops F g := by first | exact .none | exact .some rfl rfl) :
    LP r P n D W Bo ops Q (⟨some dd, .buildSlice t m parts, ty, ps, af, g⟩ :: rest) F l :=
  s_new (fun b : Nat => .slice (some ⟨b, 0, none⟩) m m) (fun b => .blk b (.cells cs e) :: l) (fun _ => True) (by simp)
    (fun a w ha hw => ⟨w.heap.size, w.alloc (.cells cs e), trivial, by
      have e1 : (parts.map fun (i, x) => (i, a.eval x)).toList = vs := by
        rw [Array.toList_map]
        exact evP_eval ha hp
      have e2 : ¬ (m * s > 2 ^ 24) := by omega
      have e3 : ¬ (m * s = 0) := by omega
      simp only [execOp, Instr.buildSlice, Sem.run_bind, run_underlying ht.h, Result.andThen_ok, run_sizeOf' hs, e2, if_false, e3, hz.h, Sem.run_pure, e1, hf, newRow, run_newObj, World.alloc_eq], hw.alloc _⟩)
    (hn := hn) (hg := hg) (h := fun b _ => h b)

/-- make -/
theorem s_mks [ht : HU P t (.slice e)] {s by' : Nat} [hs : HS P e s by'] {zz : Value} [hz : HZ P e zz] {kl kc : IntKind} {i j : Int}
    (h : ∀ b, LP r P n D W Bo ops Q rest ((dd, .slice (some ⟨b, 0, none⟩) i.toNat j.toNat) :: F) (.blk b (.cells (madeCells zz.cells (j.toNat * s)) e) :: l))
    (hx : evO F x = some (.int kl i) := by rfl) (hy : evO F y = some (.int kc j) := by rfl)
    (h0 : 0 ≤ i := by omega) (h1 : i ≤ j := by omega) (h2 : (by' : Int) * j ≤ 281474976710656 := by omega) (h3 : j ≤ 9223372036854775807 := by omega) (hn : Nat.blt dd n = true := by rfl) (hg : Wn ops F g := by first | exact .none | exact .some rfl rfl) :
    LP r P n D W Bo ops Q (⟨some dd, .makeSlice t x y, ty, ps, af, g⟩ :: rest) F l :=
  s_new (fun b : Nat => .slice (some ⟨b, 0, none⟩) i.toNat j.toNat) (fun b => .blk b (.cells (madeCells zz.cells (j.toNat * s)) e) :: l) (fun _ => True) (by simp)
    (fun a w ha hw => ⟨w.heap.size, w.alloc (.cells (madeCells zz.cells (j.toNat * s)) e), trivial, by
      obtain ⟨inf, hi, hsz, hbz⟩ := hs.h
      have hzz : inf.zero = some zz := by
        have := hz.h w
        simp only [zeroValue, typeInfo, Sem.run_bind, run_program, Result.andThen_ok, hi, Sem.run_pure] at this
        cases hq : inf.zero with
        | none => rw [hq] at this; simp at this
        | some q => rw [hq] at this; simp at this; rw [this]
      have := run_make (P := P) w t e inf zz ht.h hi hzz kl kc i j h0 h1 (by rw [hbz]; exact h2) h3
      rw [hsz] at this
      simp only [execOp, ha.eval hx, ha.eval hy, Sem.run_bind, this, Result.andThen_ok, Sem.run_pure], hw.alloc _⟩)
    (hn := hn) (hg := hg) (h := fun b _ => h b)

/-- copy into a known block -/
theorem s_cpy [ht : HU P ta (.slice e)] {s by' : Nat} [hs : HS P e s by'] {b off m c : Nat} {cs : Array Value} {et : TypeId} {sv : Value} {q : Nat} {ys : List Value}
    (hx : evO F x = some (.slice (some ⟨b, off, none⟩) m c)) (hy : evO F y = some sv) (hq : ∀ w, St W Bo w l → (Builtin.lenOf sv).run P w = .ok q w)
    (hsrc : ∀ w, St W Bo w l → (Builtin.firstCells s (Nat.min q m) sv).run P w = .ok ys.toArray w)
    (hrep : Rep (.blk b (.cells cs et (0, 0))) (.blk b (.cells (cs.toList.take off ++ ys ++ cs.toList.drop (off + ys.length)).toArray et (0, 0))) l l')
    (h1 : ∀ v ∈ ys, v.oneCell' = true) (hfit : off + ys.length ≤ cs.size)
    (h : LP r P n D W Bo ops Q rest ((dd, I (Nat.min q m : Nat)) :: F) l') (hn : Nat.blt dd n = true := by rfl) (hg : Wn ops F g := by first | exact .none | exact .some rfl rfl) :
    LP r P n D W Bo ops Q (⟨some dd, .call ⟨.builtin .copy, #[x, y], #[ta, tb]⟩, ty, ps, af, g⟩ :: rest) F l :=
  s_new (fun _ : Unit => I (Nat.min q m : Nat)) (fun _ => l') (fun _ => True) (by simp)
    (fun a w ha hw => ⟨(), w.setRow b (cs.toList.take off ++ ys ++ cs.toList.drop (off + ys.length)).toArray, trivial, by
      have e1 : #[x, y].map a.eval = #[.slice (some ⟨b, off, none⟩) m c, sv] := by simp [ha.eval hx, ha.eval hy]
      have hst := run_storeCells_at P b off et ys 0 cs w (hw.own _ hrep.mem).1 (by simpa using hfit) h1
      simp only [Nat.add_zero] at hst
      have hrun : (Builtin.copy_ #[ta, tb] ty #[.slice (some ⟨b, off, none⟩) m c, sv]).run P w = .ok (I (Nat.min q m : Nat)) (w.setRow b (cs.toList.take off ++ ys ++ cs.toList.drop (off + ys.length)).toArray) := by
        simp [Builtin.copy_, run_underlying ht.h, run_sizeOf' hs, hq w hw, hsrc w hw, hst, goInt]
      simp only [execOp, resolve, e1, Sem.run_bind, Sem.run_pure, Result.andThen_ok, invoke, builtin, hrun], hw.setRow hrep⟩)
    (hn := hn) (hg := hg) (h := fun _ _ => h)

/-! calls -/

theorem run_call {k : FuncId} [hf : HF P k] {fo : Operand} {fs cs vs : List Value} {as : Array Operand} {ts : Array TypeId} (hfo : evO F fo = some (.func (.func k) fs.toArray cs.toArray)) (hargs : evL F as.toList = some vs)
    {a : Act} {w : World} (ha : Fr n F D a) : (execOp a.eval ⟨d, .call ⟨.value fo, as, ts⟩, ty, ps, af, g⟩).run P w = .ok (.enter k (fs ++ vs ++ cs).toArray) w := by
  obtain ⟨fn, c, h1, h2, h3⟩ := hf.h
  have e : (callFunc k (fs ++ vs ++ cs).toArray).run P w = .ok (.enter k (fs ++ vs ++ cs).toArray) w := by
    have h4 : fn.name ≠ "runtime.NumGoroutine" := by simpa using h3
    simp [callFunc, h1, h4, h2]
  simp only [execOp, resolve, ha.eval hfo, evs ha hargs, Deferred.ofValue, Sem.run_bind, Sem.run_pure, Result.andThen_ok, invoke]
  simpa using e

/-- what a call gives: a value and parts of memory, both functions of something -/
def Gives (P : Program) (k : FuncId) (args : List Value) (w : World) (bo : List Nat) {σ : Type} (val : σ → Value) (lx : σ → SH) (φ : σ → Prop) : Prop :=
  Calls P k args.toArray w fun e w' => ∃ x, φ x ∧ e = .returned (val x) ∧ St w bo w' (lx x)

/-- a call that gives a value, and changes nothing -/
def Pure (P : Program) (k : FuncId) (args : List Value) (w : World) (v : Value) : Prop :=
  Calls P k args.toArray w fun e w' => e = .returned v ∧ St w [] w' []

theorem callsFw {k : FuncId} {args : Array Value} {w : World} {R : Ending → World → Prop} (h : Calls P k args w R) : CallsIn (Fw r) 0 P k args w R := by
  have h1 : CallsIn Fence.wide 0 P k args w R := callsIn_wide.2 h
  cases r with
  | none => exact h1
  | some l => exact CallsIn.inRound l h1

theorem s_calls {k : FuncId} [hf : HF P k] {fo : Operand} {fs cs vs : List Value} {as : Array Operand} {ts : Array TypeId} {σ : Type} (val : σ → Value) (lx : σ → SH) (φ : σ → Prop)
    (hfo : evO F fo = some (.func (.func k) fs.toArray cs.toArray)) (hargs : evL F as.toList = some vs)
    (hc : ∀ w, St W Bo w l → Calls P k (fs ++ vs ++ cs).toArray w fun e w' => ∃ x, φ x ∧ e = .returned (val x) ∧ St W Bo w' (lx x))
    (h : ∀ x, φ x → LP r P n D W Bo ops Q rest ((dd, val x) :: F) (lx x)) (hn : Nat.blt dd n = true := by rfl) (hg : Wn ops F g := by first | exact .none | exact .some rfl rfl) :
    LP r P n D W Bo ops Q (⟨some dd, .call ⟨.value fo, as, ts⟩, ty, ps, af, g⟩ :: rest) F l := by
  intro a w ha hw
  refine wpListIn_of (hg.wanted rfl ha) ?_
  refine ⟨fun f _ => trivial, ?_⟩
  rw [semAt_eq _ (by simp), run_call hfo hargs ha]
  refine ⟨by simp [Fw, Fence.wide], callsFw ((hc w hw).mono ?_)⟩
  rintro e w' ⟨x, hx, rfl, hw'⟩
  exact h x hx _ _ (ha.put dd _ hn) hw'

/-- a call that gives a value alone -/
theorem s_pure {k : FuncId} [hf : HF P k] {fo : Operand} {fs cs vs args : List Value} {as : Array Operand} {ts : Array TypeId}
    (hc : ∀ w, St W Bo w l → Pure P k args w v)
    (h : LP r P n D W Bo ops Q rest ((dd, v) :: F) l)
    (hfo : evO F fo = some (.func (.func k) fs.toArray cs.toArray) := by rfl) (hargs : evL F as.toList = some vs := by rfl) (hap : args = fs ++ vs ++ cs := by rfl) (hn : Nat.blt dd n = true := by rfl) (hg : Wn ops F g := by first | exact .none | exact .some rfl rfl) :
    LP r P n D W Bo ops Q (⟨some dd, .call ⟨.value fo, as, ts⟩, ty, ps, af, g⟩ :: rest) F l :=
  s_calls (σ := Unit) (fun _ => v) (fun _ => l) (fun _ => True) hfo hargs
    (fun w hw => (hap ▸ hc w hw : Pure P k (fs ++ vs ++ cs) w v).mono fun _ _ ⟨he, hw'⟩ => ⟨(), trivial, he, (hw.trans hw').sub (by simp)⟩) (fun _ _ => h) hn hg

/-- a call that makes parts of memory -/
theorem s_gives {k : FuncId} [hf : HF P k] {fo : Operand} {fs cs vs args : List Value} {as : Array Operand} {ts : Array TypeId} {σ : Type} {val : σ → Value} {lx : σ → SH} {φ : σ → Prop}
    (hc : ∀ w, St W Bo w l → Gives P k args w [] val lx φ)
    (h : ∀ x, φ x → LP r P n D W Bo ops Q rest ((dd, val x) :: F) (lx x ++ l))
    (hfo : evO F fo = some (.func (.func k) fs.toArray cs.toArray) := by rfl) (hargs : evL F as.toList = some vs := by rfl) (hap : args = fs ++ vs ++ cs := by rfl) (hn : Nat.blt dd n = true := by rfl) (hg : Wn ops F g := by first | exact .none | exact .some rfl rfl) :
    LP r P n D W Bo ops Q (⟨some dd, .call ⟨.value fo, as, ts⟩, ty, ps, af, g⟩ :: rest) F l :=
  s_calls val (fun x => lx x ++ l) φ hfo hargs
    (fun w hw => (hap ▸ hc w hw : Gives P k (fs ++ vs ++ cs) w [] val lx φ).mono fun _ _ ⟨x, hx, he, hw'⟩ => ⟨x, hx, he, hw.trans hw'⟩) h hn hg

/-- a call that changes a block -/
theorem s_chg {k : FuncId} [hf : HF P k] {fo : Operand} {fs cs vs args : List Value} {as : Array Operand} {ts : Array TypeId} {σ : Type} {val : σ → Value} {b : Nat} {o : Obj} {o' : σ → Obj} {lx : σ → SH} {φ : σ → Prop} {l1 : σ → SH}
    (hc : ∀ w, St W Bo w l → Gives P k args w [b] val (fun x => .blk b (o' x) :: lx x) φ)
    (hrep : ∀ x, Rep (.blk b o) (.blk b (o' x)) l (l1 x))
    (h : ∀ x, φ x → LP r P n D W Bo ops Q rest ((dd, val x) :: F) (lx x ++ l1 x))
    (hfo : evO F fo = some (.func (.func k) fs.toArray cs.toArray) := by rfl) (hargs : evL F as.toList = some vs := by rfl) (hap : args = fs ++ vs ++ cs := by rfl) (hn : Nat.blt dd n = true := by rfl) (hg : Wn ops F g := by first | exact .none | exact .some rfl rfl) :
    LP r P n D W Bo ops Q (⟨some dd, .call ⟨.value fo, as, ts⟩, ty, ps, af, g⟩ :: rest) F l :=
  s_calls val (fun x => lx x ++ l1 x) φ hfo hargs
    (fun w hw => (hap ▸ hc w hw : Gives P k (fs ++ vs ++ cs) w [b] val (fun x => .blk b (o' x) :: lx x) φ).mono fun _ _ ⟨x, hx, he, hw'⟩ => ⟨x, hx, he, hw.trans1 (hrep x) hw'⟩) h hn hg

/-! a region whose order is open, and whose operations read or call -/

class HM (P : Program) : Prop where
  h : P.follows .mixedOrders = true

def DP (P : Program) (n : Nat) (D : List Deferred) (W : World) (Bo : List Nat) (ops : Array Oper) (Q : Exit → Act → World → Prop) (rest : List Oper) (F : List (Nat × Value)) (l : SH) : Prop :=
  ∀ a, Fr n F D a → wpQuiet P ops (fun w => St W Bo w l) (fun a' => ∀ w', St W Bo w' l → Q .normal a' w') rest a

theorem c_regd [hm : HM P] {id : Nat} {os : List Oper} (h : DP P n D W Bo os.toArray Q os F l) (hB : Region.lexB .any os.toArray = true := by kernel_rfl) : CP none P n D W Bo (.region id os.toArray true) Q F l := by
  intro a w ha hw
  rw [Fw_none, wpIn_wide]
  exact wp_region_quiet (C := fun w => St W Bo w l) hm.h hB hw.drew (by simpa using h a ha)
theorem d_nil (h : QP n D W Bo Q .normal F l) : DP P n D W Bo ops Q [] F l := fun a ha w hw => h a w ha hw
theorem d_y {op : Op} {v : Value} (hy : Y P n D W Bo ⟨some dd, op, ty, ps, af, g⟩ F l v) (h : DP P n D W Bo ops Q rest ((dd, v) :: F) l) (hn : Nat.blt dd n = true := by rfl) (hg : Wn ops F g := by first | exact .none | exact .some rfl rfl) :
    DP P n D W Bo ops Q (⟨some dd, op, ty, ps, af, g⟩ :: rest) F l := by
  intro a ha
  simp only [wpQuiet]
  rw [if_pos (hg.wanted rfl ha)]
  refine ⟨v, fun w hw => ?_, h _ (ha.put dd v hn)⟩
  unfold Oper.quietAt
  rw [hy.2 a w ha hw]
  exact ⟨rfl, rfl⟩
theorem d_no {op : Op} {j ee : Nat} {b b' : Bool} (h : DP P n D W Bo ops Q rest ((dd, undef) :: F) l) (hn : Nat.blt dd n = true := by rfl)
    (hj : (ops[j]?).bind (·.dst) = some ee := by rfl) (hv : lkO F ee = some (.bool b') := by rfl) (hb : (b' == b) = false := by rfl) : DP P n D W Bo ops Q (⟨some dd, op, ty, ps, af, some (j, b)⟩ :: rest) F l := by
  intro a ha
  simp only [wpQuiet]
  rw [unwanted_of (o := ⟨some dd, op, ty, ps, af, some (j, b)⟩) rfl hj hv hb ha]
  exact h _ (ha.put dd _ hn)
theorem d_nu {op : Op} {j ee : Nat} {b : Bool} (h : DP P n D W Bo ops Q rest ((dd, undef) :: F) l) (hn : Nat.blt dd n = true := by rfl)
    (hj : (ops[j]?).bind (·.dst) = some ee := by rfl) (hv : lkO F ee = some undef := by rfl) : DP P n D W Bo ops Q (⟨some dd, op, ty, ps, af, some (j, b)⟩ :: rest) F l := by
  intro a ha
  simp only [wpQuiet]
  rw [unwanted_of' (o := ⟨some dd, op, ty, ps, af, some (j, b)⟩) rfl hj hv ha]
  exact h _ (ha.put dd _ hn)
theorem d_yt {op : Op} {p : Prop} [dp : Decidable p] (hy : Y P n D W Bo ⟨some dd, op, ty, ps, af, g⟩ F l (.bool (decide p)))
    (h1 : DP P n D W Bo ops Q rest ((dd, .bool true) :: F) l) (hp : p := by omega) (hn : Nat.blt dd n = true := by rfl) (hg : Wn ops F g := by first | exact .none | exact .some rfl rfl) : DP P n D W Bo ops Q (⟨some dd, op, ty, ps, af, g⟩ :: rest) F l :=
  d_y hy (by rw [decide_eq_true hp]; exact h1) hn hg
theorem d_yf {op : Op} {p : Prop} [dp : Decidable p] (hy : Y P n D W Bo ⟨some dd, op, ty, ps, af, g⟩ F l (.bool (decide p)))
    (h1 : DP P n D W Bo ops Q rest ((dd, .bool false) :: F) l) (hp : ¬ p := by omega) (hn : Nat.blt dd n = true := by rfl) (hg : Wn ops F g := by first | exact .none | exact .some rfl rfl) : DP P n D W Bo ops Q (⟨some dd, op, ty, ps, af, g⟩ :: rest) F l :=
  d_y hy (by rw [decide_eq_false hp]; exact h1) hn hg
theorem d_pure {k : FuncId} [hf : HF P k] {fo : Operand} {fs cs vs args : List Value} {as : Array Operand} {ts : Array TypeId}
    (hc : ∀ w, St W Bo w l → Pure P k args w v)
    (h : DP P n D W Bo ops Q rest ((dd, v) :: F) l)
    (hfo : evO F fo = some (.func (.func k) fs.toArray cs.toArray) := by rfl) (hargs : evL F as.toList = some vs := by rfl) (hap : args = fs ++ vs ++ cs := by rfl) (hn : Nat.blt dd n = true := by rfl) (hg : Wn ops F g := by first | exact .none | exact .some rfl rfl) :
    DP P n D W Bo ops Q (⟨some dd, .call ⟨.value fo, as, ts⟩, ty, ps, af, g⟩ :: rest) F l := by
  intro a ha
  simp only [wpQuiet]
  rw [if_pos (hg.wanted rfl ha)]
  refine ⟨v, fun w hw => ?_, h _ (ha.put dd v hn)⟩
  unfold Oper.quietAt
  rw [run_call hfo hargs ha]
  exact ⟨rfl, (hap ▸ hc w hw : Pure P k (fs ++ vs ++ cs) w v).mono fun _ _ ⟨he, hw'⟩ => ⟨he, (hw.trans hw').sub (by simp)⟩⟩

/-! the beginning and the ends of a function -/

def argsF : Nat → List Value → List (Nat × Value)
  | _, [] => []
  | i, v :: vs => (i, v) :: argsF (i + 1) vs

theorem argsF_look : ∀ (vs : List Value) (i t : Nat) (v : Value), lkO (argsF i vs) t = some v → i ≤ t ∧ vs[t - i]? = some v
  | [], _, _, _, h => by simp [argsF, lkO] at h
  | u :: vs, i, t, v, h => by
    unfold argsF lkO at h
    cases hb : Nat.beq i t with
    | true =>
      have e := Nat.eq_of_beq_eq_true hb
      subst e
      rw [hb] at h
      simp only [cond_true] at h
      exact ⟨Nat.le_refl _, by simpa using h⟩
    | false =>
      have e := Nat.ne_of_beq_eq_false hb
      rw [hb] at h
      simp only [cond_false] at h
      have ih := argsF_look vs (i + 1) t v h
      refine ⟨by omega, ?_⟩
      rw [show t - i = (t - (i + 1)) + 1 by omega]
      simpa using ih.2

theorem enter0 {k : FuncId} {fn : Func} {args : List Value} {R : Ending → World → Prop} (hf : P.funcs[k]? = some fn) (hb : fn.body = some c) (hn : fn.ntmps = n) (hle : args.length ≤ n)
    (hw : St W Bo W l) (h : CP none P n [] W Bo c (bodyPost P fn R) (argsF 0 args) l) : Calls P k args.toArray W R := by
  refine calls_of_wp hf hb ?_
  rw [← wpIn_wide (n := 0), ← Fw_none]
  refine h _ W ⟨by simp; omega, rfl, ?_⟩ hw
  intro t v ht
  have := (argsF_look args 0 t v ht).2
  simp only [Nat.sub_zero] at this
  have hlt : t < args.length := by
    rcases Nat.lt_or_ge t args.length with h1 | h1
    · exact h1
    · rw [List.getElem?_eq_none h1] at this; cases this
  rw [Array.getElem?_append_left (by simpa using hlt)]
  simpa using this

theorem enter {k : FuncId} {fn : Func} {args : List Value} {R : Ending → World → Prop} (hf : P.funcs[k]? = some fn) (hn : fn.ntmps = n) (h : CP none P n [] W [] c (bodyPost P fn R) (argsF 0 args) [])
    (hb : fn.body = some c := by rfl) (hle : Nat.ble args.length n = true := by rfl) : Calls P k args.toArray W R :=
  enter0 hf hb hn (Nat.le_of_ble_eq_true hle) (St.refl W) h

theorem St.borrow {b : Nat} {o : Obj} (h : W.heap[b]? = some o) : St W [b] W [.blk b o] :=
  ⟨rfl, rfl, rfl, Nat.le_refl _, fun _ _ _ => rfl, fun p hp => by rw [List.mem_singleton] at hp; subst hp; exact ⟨h, fun k hk => by cases hk; exact .inr (by simp)⟩, by simp [keys, Res.key]⟩

theorem enterB {k : FuncId} {fn : Func} {args : List Value} {R : Ending → World → Prop} {b : Nat} {o : Obj} (hf : P.funcs[k]? = some fn) (hn : fn.ntmps = n) (hbo : W.heap[b]? = some o)
    (h : CP none P n [] W [b] c (bodyPost P fn R) (argsF 0 args) [.blk b o]) (hb : fn.body = some c := by rfl) (hle : Nat.ble args.length n = true := by rfl) : Calls P k args.toArray W R :=
  enter0 hf hb hn (Nat.le_of_ble_eq_true hle) (St.borrow hbo) h

def rvSem (tmps : Array Value) : ResultVar → Sem Value
  | .tmp t => pure (tmps.getD t undef)
  | .cell p t => do loadVar t (← asAddr (tmps.getD p undef))
def outV : List Value → Value
  | [v] => v
  | vs => .tuple vs.toArray

/-- the value of a result -/
def RV (P : Program) (n : Nat) (W : World) (Bo : List Nat) (F : List (Nat × Value)) (l : SH) (rv : ResultVar) (v : Value) : Prop :=
  ∀ a D w, Fr n F D a → St W Bo w l → (rvSem a.tmps rv).run P w = .ok v w

inductive RVs (P : Program) (n : Nat) (W : World) (Bo : List Nat) (F : List (Nat × Value)) (l : SH) : List ResultVar → List Value → Prop
  | nil : RVs P n W Bo F l [] []
  | cons {rv : ResultVar} {v : Value} {rvs : List ResultVar} {vs : List Value} (h : RV P n W Bo F l rv v) (h2 : RVs P n W Bo F l rvs vs) : RVs P n W Bo F l (rv :: rvs) (v :: vs)

theorem rv_t {t : Nat} (h : lkO F t = some v := by rfl) : RV P n W Bo F l (.tmp t) v := fun a D w ha _ => by
  simp only [rvSem, Sem.run_pure, Array.getD_eq_getD_getElem?, ha.slot t v h, Option.getD_some]
theorem rv_c0 {p : Nat} {a : Addr} (h : lkO F p = some (.pointer (some a))) (hl : ∀ w, St W Bo w l → (Instr.loadAt t (.pointer (some a))).run P w = .ok v w) : RV P n W Bo F l (.cell p t) v := fun ac D w ha hw => by
  have h2 := hl w hw
  simp only [Instr.loadAt, Instr.sureAddr, Sem.run_bind, Sem.run_pure, Result.andThen_ok] at h2
  simp only [rvSem, Array.getD_eq_getD_getElem?, ha.slot p _ h, Option.getD_some, asAddr, Sem.run_bind, Sem.run_pure, Result.andThen_ok, h2]
theorem rv_ca [hu : HT P t false] {p b : Nat} {cs : Array Value} {et : TypeId} {fz : Nat × Nat} {s by' : Nat} [hs : HS P t s by'] (h : lkO F p = some (.pointer (some ⟨b, 0, none⟩)) := by rfl)
    (hm : Res.blk b (.cells cs et fz) ∈ l := by repeat (first | exact .head _ | apply List.Mem.tail)) (hl : cs.size = s := by rfl) : RV P n W Bo F l (.cell p t) (.agg cs) :=
  rv_c0 h fun w hw => by
    have := ld_agg (w := w) (a := ⟨b, 0, none⟩) (cs := cs.toList) hu hs (by simpa using hl) (fun j v hv => by
      rw [addr_add, cell_of_row w b _ cs et fz (hw.own _ hm).1]; simpa using hv)
    simpa using this
theorem rv_cf [hu : HT P t true] {p b : Nat} {cs : Array Value} {et : TypeId} {fz : Nat × Nat} (h : lkO F p = some (.pointer (some ⟨b, 0, none⟩)) := by rfl)
    (hm : Res.blk b (.cells cs et fz) ∈ l := by repeat (first | exact .head _ | apply List.Mem.tail)) (hv : cs[0]? = some v := by rfl) : RV P n W Bo F l (.cell p t) v :=
  rv_c0 h fun w hw => ld_flat hu (by rw [cell_of_row w b 0 cs et fz (hw.own _ hm).1]; exact hv)

theorem results_eq (fn : Func) (tmps : Array Value) : results fn tmps = (do let vs ← fn.results.mapM (rvSem tmps); pure (if h : vs.size = 1 then vs[0] else .tuple vs)) := by
  unfold results
  have : (fun rv : ResultVar => match rv with
    | .tmp t => (pure (tmps.getD t undef) : Sem Value)
    | .cell a t => do loadVar t (← asAddr (tmps.getD a undef))) = rvSem tmps := by funext rv; cases rv <;> rfl
  rw [← this]
  rfl

theorem ret_n {fn : Func} {R : Ending → World → Prop} {rvs : List ResultVar} {vs : List Value} (hf : fn.results = rvs.toArray) (h : RVs P n W Bo F l rvs vs) (e : Exit) (he : e = .ret ∨ e = .normal)
    (hR : ∀ w, St W Bo w l → R (.returned (outV vs)) w) : QP n [] W Bo (bodyPost P fn R) e F l := by
  intro a w ha hw
  have hm : (rvs.mapM (rvSem a.tmps)).run P w = .ok vs w := by
    clear hf hR
    induction h with
    | nil => rfl
    | cons h1 _ ih =>
      rw [List.mapM_cons]
      have h2 := h1 a _ w ha hw
      rw [Sem.run_bind, h2]
      simp only [Sem.run_bind, Sem.run_pure, ih, Result.andThen_ok]
  have hres : (results fn a.tmps).run P w = .ok (outV vs) w := by
    rw [results_eq, hf, List.mapM_toArray]
    simp only [Sem.run_bind, Sem.run_map, hm, Result.andThen_ok, Sem.run_pure]
    match vs with
    | [] => rfl
    | [v] => rfl
    | v :: u :: vs => rfl
  rcases he with rfl | rfl <;> exact ⟨ha.defers, _, hres, hR w hw⟩

theorem ret1 {fn : Func} {R : Ending → World → Prop} {a : ResultVar} (hf : fn.results = #[a]) (h : RV P n W Bo F l a v) (hR : ∀ w, St W Bo w l → R (.returned v) w) : QP n [] W Bo (bodyPost P fn R) .ret F l :=
  ret_n (rvs := [a]) (vs := [v]) hf (.cons h .nil) _ (.inl rfl) hR
theorem ret2 {fn : Func} {R : Ending → World → Prop} {a b : ResultVar} (hf : fn.results = #[a, b]) (h : RV P n W Bo F l a v) (h2 : RV P n W Bo F l b u) (hR : ∀ w, St W Bo w l → R (.returned (.tuple #[v, u])) w) : QP n [] W Bo (bodyPost P fn R) .ret F l :=
  ret_n (rvs := [a, b]) (vs := [v, u]) hf (.cons h (.cons h2 .nil)) _ (.inl rfl) hR
theorem ret3 {fn : Func} {R : Ending → World → Prop} {a b c : ResultVar} {v3 : Value} (hf : fn.results = #[a, b, c]) (h : RV P n W Bo F l a v) (h2 : RV P n W Bo F l b u) (h3 : RV P n W Bo F l c v3) (hR : ∀ w, St W Bo w l → R (.returned (.tuple #[v, u, v3])) w) : QP n [] W Bo (bodyPost P fn R) .ret F l :=
  ret_n (rvs := [a, b, c]) (vs := [v, u, v3]) hf (.cons h (.cons h2 (.cons h3 .nil))) _ (.inl rfl) hR
theorem ret0 {fn : Func} {R : Ending → World → Prop} (hf : fn.results = #[]) (hR : ∀ w, St W Bo w l → R (.returned (.tuple #[])) w) (e : Exit) (he : e = .ret ∨ e = .normal) : QP n [] W Bo (bodyPost P fn R) e F l :=
  ret_n (rvs := []) (vs := []) hf .nil _ he hR

end
end Eng
