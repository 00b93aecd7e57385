/- Joined texts. -/
import Derived.WalkKit
import Derived.TacticsInMore
import Derived.OrdersIn
import Derived.RangeFuncCalls
import Derived.Deep.LoopGhost
import Derived.Deep.Quiet
import Derived.KernelRfl
/- The walk, with the world out of sight: what is known of a frame is a list of slots, what is known of memory a list of blocks. -/
namespace Eng
open Go Go.RowKit

/-- the fence: none; the round: that of a loop over a function, or none -/
def Fw (r : Option Nat) : Fence := { Fence.wide with round := r }

theorem Fw_fn (r : Option Nat) (f : FuncId) : (Fw r).fn f := trivial
theorem Fw_none : Fw none = Fence.wide := rfl

/-- a part of memory that is known: a block; or a slice that owns its block, of which what lies behind the length is not known -/
inductive Res where
  | blk (b : Nat) (o : Obj)
  | row (a : Option Addr) (c : Nat) (e : TypeId) (s : Nat) (n : Nat) (xs : List Value)

def Res.key : Res → Option Nat
  | .blk b _ => some b
  | .row a _ _ _ _ _ => a.map (·.block)

def Res.holds (w : World) : Res → Prop
  | .blk b o => w.heap[b]? = some o
  | .row a c e s n xs => xs.length = n * s ∧ n ≤ c ∧
    ((a = none ∧ c = 0) ∨ ∃ g cur, a = some ⟨g, 0, none⟩ ∧ w.heap[g]? = some (.cells cur e (0, 0)) ∧ c ≤ maxLen ∧ cur.size = c * s ∧ cur.toList.take (n * s) = xs)

theorem Res.holds_congr {w w' : World} {p : Res} (h : p.holds w) (hk : ∀ k, p.key = some k → w'.heap[k]? = w.heap[k]?) : p.holds w' := by
  cases p with
  | blk b o => exact (hk b rfl).trans h
  | row a c e s n xs =>
    obtain ⟨h1, h2, h3⟩ := h
    refine ⟨h1, h2, ?_⟩
    rcases h3 with h3 | ⟨g, cur, rfl, h4, h5⟩
    · exact .inl h3
    · exact .inr ⟨g, cur, rfl, (hk g rfl).trans h4, h5⟩

theorem Res.lt {w : World} {p : Res} (h : p.holds w) {k : Nat} (hk : p.key = some k) : k < w.heap.size := by
  cases p with
  | blk b o => cases hk; exact (Array.getElem?_eq_some_iff.1 h).1
  | row a c e s n xs =>
    obtain ⟨_, _, h3⟩ := h
    rcases h3 with ⟨rfl, _⟩ | ⟨g, cur, rfl, h4, _⟩
    · simp [Res.key] at hk
    · simp [Res.key] at hk; subst hk; exact (Array.getElem?_eq_some_iff.1 h4).1

abbrev SH := List Res
def keys (l : SH) : List Nat := l.filterMap Res.key

/-- w is W with the parts l (new ones, or of the blocks Bo), and possibly other new blocks -/
structure St (W : World) (Bo : List Nat) (w : World) (l : SH) : Prop where
  os : w.os = W.os
  tape : w.tape = W.tape
  output : w.output = W.output
  size : W.heap.size ≤ w.heap.size
  old : ∀ k, k < W.heap.size → k ∉ Bo → w.heap[k]? = W.heap[k]?
  own : ∀ p ∈ l, p.holds w ∧ ∀ k, p.key = some k → (W.heap.size ≤ k ∨ k ∈ Bo)
  nd : (keys l).Nodup

/-- the value of a slot: the first entry counts -/
def lkO : List (Nat × Value) → Nat → Option Value
  | [], _ => none
  | (k, v) :: r, t => bif Nat.beq k t then some v else lkO r t

def evO (F : List (Nat × Value)) : Operand → Option Value
  | .tmp t => lkO F t
  | .const v => some v
  | .global g => some (.pointer (some ⟨g, 0, none⟩))
  | .func f => some (.func (.func f) #[] #[])

/-- the values of operands -/
def evL (F : List (Nat × Value)) : List Operand → Option (List Value)
  | [] => some []
  | x :: xs => match evO F x, evL F xs with
    | some v, some vs => some (v :: vs)
    | _, _ => none

theorem evL_map {F : List (Nat × Value)} : ∀ {xs : List Operand} {vs : List Value}, evL F xs = some vs → xs.map (evO F) = vs.map some
  | [], vs, h => by simp [evL] at h; subst h; rfl
  | x :: xs, vs, h => by
    unfold evL at h
    cases h1 : evO F x with
    | none => simp [h1] at h
    | some v =>
      cases h2 : evL F xs with
      | none => simp [h1, h2] at h
      | some us => simp [h1, h2] at h; subst h; simp [h1, evL_map h2]

structure Fr (n : Nat) (F : List (Nat × Value)) (D : List Deferred) (a : Act) : Prop where
  size : a.tmps.size = n
  defers : a.defers = D
  slot : ∀ t v, lkO F t = some v → a.tmps[t]? = some v

theorem Fr.eval {n : Nat} {F : List (Nat × Value)} {D : List Deferred} {a : Act} (h : Fr n F D a) {x : Operand} {v : Value} (hx : evO F x = some v) : a.eval x = v := by
  cases x with
  | tmp t => have := h.slot t v hx; simp [Act.eval, Array.getD_eq_getD_getElem?, this]
  | const c => simpa [evO, Act.eval] using hx
  | global g => simpa [evO, Act.eval] using hx
  | func f => simpa [evO, Act.eval] using hx

theorem Fr.put {n : Nat} {F : List (Nat × Value)} {D : List Deferred} {a : Act} (h : Fr n F D a) (d : Nat) (v : Value) (hd : Nat.blt d n = true) :
    Fr n ((d, v) :: F) D (a.put (some d) v) := by
  have hd' : d < n := by have := hd; simp [Nat.blt] at this; omega
  refine ⟨by simp [Act.put, h.size], by simp [Act.put, h.defers], ?_⟩
  intro t u ht
  simp only [Act.put]
  rw [Array.getElem?_setIfInBounds]
  unfold lkO at ht
  cases hb : Nat.beq d t with
  | true =>
    have e := Nat.eq_of_beq_eq_true hb
    subst e
    rw [hb] at ht
    simp only [cond_true, Option.some.injEq] at ht
    subst ht
    rw [h.size]; simp [hd']
  | false =>
    have e := Nat.ne_of_beq_eq_false hb
    rw [hb] at ht
    simp only [cond_false] at ht
    rw [if_neg e]
    exact h.slot t u ht

theorem Fr.put_none {n : Nat} {F : List (Nat × Value)} {D : List Deferred} {a : Act} (h : Fr n F D a) (v : Value) : Fr n F D (a.put none v) := h

/-- fewer slots are known -/
def Sub (F : List (Nat × Value)) : List (Nat × Value) → Prop
  | [] => True
  | (t, v) :: r => lkO F t = some v ∧ Sub F r

theorem Sub.look {F : List (Nat × Value)} : ∀ {G : List (Nat × Value)}, Sub F G → ∀ t v, lkO G t = some v → lkO F t = some v
  | [], _, t, v, h => by simp [lkO] at h
  | (k, u) :: r, hs, t, v, h => by
    unfold lkO at h
    cases hb : Nat.beq k t with
    | true =>
      have e := Nat.eq_of_beq_eq_true hb
      subst e
      rw [hb] at h
      simp only [cond_true, Option.some.injEq] at h
      subst h
      exact hs.1
    | false =>
      rw [hb] at h
      exact hs.2.look t v h

theorem Fr.weaken {n : Nat} {F G : List (Nat × Value)} {D : List Deferred} {a : Act} (h : Fr n F D a) (hs : Sub F G) : Fr n G D a :=
  ⟨h.size, h.defers, fun t v ht => h.slot t v (hs.look t v ht)⟩

/-! worlds -/

theorem St.refl (W : World) : St W [] W [] := ⟨rfl, rfl, rfl, Nat.le_refl _, fun _ _ _ => rfl, fun _ h => by simp at h, List.nodup_nil⟩

theorem mem_keys {l : SH} {k : Nat} : k ∈ keys l ↔ ∃ p ∈ l, p.key = some k := by simp [keys, List.mem_filterMap]

theorem St.lt {W w : World} {Bo : List Nat} {l : SH} (h : St W Bo w l) {p : Res} (hp : p ∈ l) {k : Nat} (hk : p.key = some k) : k < w.heap.size :=
  Res.lt (h.own p hp).1 hk

theorem St.ltk {W w : World} {Bo : List Nat} {l : SH} (h : St W Bo w l) {k : Nat} (hk : k ∈ keys l) : k < w.heap.size := by
  obtain ⟨p, hp, e⟩ := mem_keys.1 hk
  exact h.lt hp e

theorem St.drew {W w : World} {Bo : List Nat} {l : SH} (h : St W Bo w l) : St W Bo w.drew l :=
  ⟨h.os, h.tape, h.output, h.size, h.old, h.own, h.nd⟩

theorem St.below {W w : World} {l : SH} (h : St W [] w l) : Below W.heap.size W w :=
  ⟨h.os, h.tape, h.output, h.size, fun k hk => h.old k hk (by simp)⟩

theorem St.of_below {W w : World} (h : Below W.heap.size W w) : St W [] w [] :=
  ⟨h.os, h.tape, h.output, h.size, fun k hk _ => h.block k hk, fun _ h => by simp at h, List.nodup_nil⟩

theorem St.sub {W w : World} {Bo : List Nat} {l l' : SH} (h : St W Bo w l) (hs : l'.Sublist l) : St W Bo w l' :=
  ⟨h.os, h.tape, h.output, h.size, h.old, fun q hq => h.own q (hs.subset hq), h.nd.sublist (hs.filterMap _)⟩

theorem St.perm {W w : World} {Bo : List Nat} {l l' : SH} (h : St W Bo w l) (hs : l'.Perm l) : St W Bo w l' :=
  ⟨h.os, h.tape, h.output, h.size, h.old, fun q hq => h.own q (hs.mem_iff.1 hq), ((hs.filterMap _).nodup_iff).2 h.nd⟩

/-- a new part -/
theorem St.add {W w w' : World} {Bo : List Nat} {l : SH} (h : St W Bo w l) {p : Res} (hb : Below w.heap.size w w') (hp : p.holds w') (hk : ∀ k, p.key = some k → w.heap.size ≤ k) :
    St W Bo w' (p :: l) := by
  refine ⟨hb.os.trans h.os, hb.tape.trans h.tape, hb.output.trans h.output, Nat.le_trans h.size hb.size, ?_, ?_, ?_⟩
  · intro k h1 h2
    rw [hb.block k (Nat.lt_of_lt_of_le h1 h.size)]
    exact h.old k h1 h2
  · intro q hq
    rcases List.mem_cons.1 hq with rfl | hq
    · exact ⟨hp, fun k h1 => .inl (Nat.le_trans h.size (hk k h1))⟩
    · exact ⟨Res.holds_congr (h.own q hq).1 fun k h1 => hb.block k (h.lt hq h1), (h.own q hq).2⟩
  · unfold keys
    rw [List.filterMap_cons]
    cases hp : p.key with
    | none => exact h.nd
    | some k =>
      refine List.nodup_cons.2 ⟨?_, h.nd⟩
      intro hm
      have := h.ltk hm
      have := hk k hp
      omega

theorem St.alloc {W w : World} {Bo : List Nat} {l : SH} (h : St W Bo w l) (o : Obj) : St W Bo (w.alloc o) (.blk w.heap.size o :: l) :=
  h.add ((Below.refl _ _).alloc (Nat.le_refl _) o) (heap_alloc_new w _) (fun k hk => by cases hk; exact Nat.le_refl _)

/-- new blocks that are not known -/
theorem St.more {W w w' : World} {Bo : List Nat} {l : SH} (h : St W Bo w l) (hb : Below w.heap.size w w') : St W Bo w' l :=
  (h.add (p := .row none 0 0 0 0 []) hb ⟨by simp, by simp, .inl ⟨rfl, rfl⟩⟩ (fun k hk => by simp [Res.key] at hk)).sub (List.sublist_cons_self _ _)

/-- a list with one entry replaced, found by its place -/
inductive Rep (p p' : Res) : SH → SH → Prop
  | head (l : SH) : Rep p p' (p :: l) (p' :: l)
  | tail (q : Res) {l l' : SH} (h : Rep p p' l l') : Rep p p' (q :: l) (q :: l')

theorem Rep.mem {p p' : Res} {l l' : SH} (h : Rep p p' l l') : p ∈ l := by
  induction h with
  | head => exact .head _
  | tail q _ ih => exact .tail _ ih

theorem Rep.split {p p' : Res} {l l' : SH} (h : Rep p p' l l') : ∃ l1 l2, l = l1 ++ p :: l2 ∧ l' = l1 ++ p' :: l2 := by
  induction h with
  | head l => exact ⟨[], l, rfl, rfl⟩
  | tail q _ ih => obtain ⟨l1, l2, rfl, rfl⟩ := ih; exact ⟨q :: l1, l2, rfl, rfl⟩

/-- the general change: one part has become another one, in its own block or in a new one -/
theorem St.change {W w w' : World} {Bo : List Nat} {l l' : SH} {p p' : Res} (h : St W Bo w l) (hr : Rep p p' l l')
    (hos : w'.os = w.os) (ht : w'.tape = w.tape) (ho : w'.output = w.output) (hs : w.heap.size ≤ w'.heap.size)
    (hk : ∀ k, k < w.heap.size → p.key ≠ some k → w'.heap[k]? = w.heap[k]?) (hp : p'.holds w')
    (hkey : ∀ k, p'.key = some k → p.key = some k ∨ w.heap.size ≤ k) : St W Bo w' l' := by
  obtain ⟨l1, l2, rfl, rfl⟩ := hr.split
  have hpm : p ∈ l1 ++ p :: l2 := by simp
  have hnd := h.nd
  have hsub : (l1 ++ l2).Sublist (l1 ++ p :: l2) := List.Sublist.append_left (List.sublist_cons_self _ _) _
  have h0 := h.sub hsub
  have hne : ∀ q ∈ l1 ++ l2, ∀ k, q.key = some k → p.key ≠ some k := by
    intro q hq k hqk hpk
    have hnd' : (keys (p :: (l1 ++ l2))).Nodup := ((List.perm_middle.filterMap Res.key).nodup_iff).1 hnd
    unfold keys at hnd'
    rw [List.filterMap_cons, hpk, List.nodup_cons] at hnd'
    exact hnd'.1 (mem_keys.2 ⟨q, hq, hqk⟩)
  have h1 : St W Bo w' (l1 ++ l2) := by
    refine ⟨hos.trans h.os, ht.trans h.tape, ho.trans h.output, Nat.le_trans h.size hs, ?_, ?_, h0.nd⟩
    · intro k h1 h2
      rw [hk k (Nat.lt_of_lt_of_le h1 h.size)]
      · exact h.old k h1 h2
      · intro e
        rcases (h.own p hpm).2 k e with h3 | h3
        · omega
        · exact h2 h3
    · intro q hq
      exact ⟨Res.holds_congr (h0.own q hq).1 fun k h3 => hk k (h0.lt hq h3) (hne q hq k h3), (h0.own q hq).2⟩
  have h2 : St W Bo w' (p' :: (l1 ++ l2)) := by
    refine ⟨h1.os, h1.tape, h1.output, h1.size, h1.old, ?_, ?_⟩
    · intro q hq
      rcases List.mem_cons.1 hq with rfl | hq
      · refine ⟨hp, fun k h3 => ?_⟩
        rcases hkey k h3 with h4 | h4
        · exact (h.own p hpm).2 k h4
        · exact .inl (Nat.le_trans h.size h4)
      · exact h1.own q hq
    · unfold keys
      rw [List.filterMap_cons]
      cases hpk : p'.key with
      | none => exact h1.nd
      | some k =>
        refine List.nodup_cons.2 ⟨?_, h1.nd⟩
        intro hm
        obtain ⟨q, hq, hqk⟩ := mem_keys.1 hm
        rcases hkey k hpk with h4 | h4
        · exact hne q hq k hqk h4
        · have := h0.lt hq hqk
          omega
  exact h2.perm List.perm_middle

/-- a callee that makes parts of its own, and changes nothing else -/
theorem St.trans {W w w' : World} {Bo : List Nat} {l l' : SH} (h : St W Bo w l) (h' : St w [] w' l') : St W Bo w' (l' ++ l) := by
  refine ⟨h'.os.trans h.os, h'.tape.trans h.tape, h'.output.trans h.output, Nat.le_trans h.size h'.size, ?_, ?_, ?_⟩
  · intro k hk hb
    rw [h'.old k (by have := h.size; omega) (by simp)]
    exact h.old k hk hb
  · intro p hp
    rcases List.mem_append.1 hp with hp | hp
    · refine ⟨(h'.own p hp).1, fun k hk => ?_⟩
      rcases (h'.own p hp).2 k hk with h1 | h1
      · exact .inl (Nat.le_trans h.size h1)
      · simp at h1
    · exact ⟨Res.holds_congr (h.own p hp).1 fun k hk => h'.old k (h.lt hp hk) (by simp), (h.own p hp).2⟩
  · unfold keys
    rw [List.filterMap_append, List.nodup_append]
    refine ⟨h'.nd, h.nd, ?_⟩
    intro x hx y hy e
    subst e
    obtain ⟨p, hp, hpk⟩ := mem_keys.1 hx
    have h2 := h.ltk hy
    rcases (h'.own p hp).2 _ hpk with h1 | h1
    · omega
    · simp at h1

/-- a callee that changes one block, and makes other parts -/
theorem St.trans1 {W w w' : World} {Bo : List Nat} {l l1 l' : SH} {b : Nat} {o o' : Obj} (h : St W Bo w l) (hr : Rep (.blk b o) (.blk b o') l l1)
    (h' : St w [b] w' (.blk b o' :: l')) : St W Bo w' (l' ++ l1) := by
  have h1 : St W Bo w' l1 := by
    refine h.change hr h'.os h'.tape h'.output h'.size ?_ (h'.own _ (.head _)).1 (fun k hk => .inl hk)
    intro k hk hne
    exact h'.old k hk (by intro e; rw [List.mem_singleton] at e; exact hne (by rw [e]; rfl))
  have hnd := h'.nd
  unfold keys at hnd
  rw [List.filterMap_cons] at hnd
  simp only [Res.key] at hnd
  rw [List.nodup_cons] at hnd
  refine ⟨h1.os, h1.tape, h1.output, h1.size, h1.old, ?_, ?_⟩
  · intro p hp
    rcases List.mem_append.1 hp with hp | hp
    · refine ⟨(h'.own p (.tail _ hp)).1, fun k hk => ?_⟩
      rcases (h'.own p (.tail _ hp)).2 k hk with h2 | h2
      · exact .inl (Nat.le_trans h.size h2)
      · rw [List.mem_singleton] at h2
        subst h2
        exact absurd (mem_keys.2 ⟨p, hp, hk⟩) hnd.1
    · exact h1.own p hp
  · unfold keys
    rw [List.filterMap_append, List.nodup_append]
    refine ⟨hnd.2, h1.nd, ?_⟩
    intro x hx y hy e
    subst e
    obtain ⟨p, hp, hpk⟩ := mem_keys.1 hx
    obtain ⟨l3, l4, rfl, rfl⟩ := hr.split
    have hy' : x ∈ keys (l3 ++ .blk b o :: l4) := by
      unfold keys
      simpa [List.filterMap_append, List.filterMap_cons, Res.key] using hy
    have h3 := h.ltk hy'
    rcases (h'.own p (.tail _ hp)).2 _ hpk with h2 | h2
    · omega
    · rw [List.mem_singleton] at h2
      subst h2
      exact absurd (mem_keys.2 ⟨p, hp, hpk⟩) hnd.1

/-! the judgements -/
section
variable (r : Option Nat) (P : Program) (n : Nat) (D : List Deferred) (W : World) (Bo : List Nat)

/-- code from a known frame and known memory -/
def CP (c : Code) (Q : Exit → Act → World → Prop) (F : List (Nat × Value)) (l : SH) : Prop :=
  ∀ a w, Fr n F D a → St W Bo w l → c.wpIn (Fw r) 0 P Q a w

/-- the rest of a region -/
def LP (ops : Array Oper) (Q : Exit → Act → World → Prop) (rest : List Oper) (F : List (Nat × Value)) (l : SH) : Prop :=
  ∀ a w, Fr n F D a → St W Bo w l → wpListIn (Fw r) 0 P ops Q rest a w

/-- a way out -/
def QP (Q : Exit → Act → World → Prop) (e : Exit) (F : List (Nat × Value)) (l : SH) : Prop :=
  ∀ a w, Fr n F D a → St W Bo w l → Q e a w

/-- an operation that yields a value, and leaves the world alone -/
def Y (o : Oper) (F : List (Nat × Value)) (l : SH) (v : Value) : Prop :=
  (∀ c, o.op ≠ .defer c) ∧ ∀ a w, Fr n F D a → St W Bo w l → (execOp a.eval o).run P w = .ok (.value v) w
end

section
variable {r : Option Nat} {P : Program} {n : Nat} {D : List Deferred} {W : World} {Bo : List Nat} {Q Q' : Exit → Act → World → Prop}
  {F G : List (Nat × Value)} {l l' : SH} {ops : Array Oper} {rest : List Oper} {c c1 c2 : Code}

theorem c_weaken (hs : Sub F G) (h : CP r P n D W Bo c Q G l) : CP r P n D W Bo c Q F l := fun a w ha hw => h a w (ha.weaken hs) hw
theorem c_sub (hs : l'.Sublist l) (h : CP r P n D W Bo c Q F l') : CP r P n D W Bo c Q F l := fun a w ha hw => h a w ha (hw.sub hs)
theorem c_perm (hs : l'.Perm l) (h : CP r P n D W Bo c Q F l') : CP r P n D W Bo c Q F l := fun a w ha hw => h a w ha (hw.perm hs)
theorem q_weaken {e : Exit} (hs : Sub F G) (h : QP n D W Bo Q e G l) : QP n D W Bo Q e F l := fun a w ha hw => h a w (ha.weaken hs) hw
theorem q_sub {e : Exit} (hs : l'.Sublist l) (h : QP n D W Bo Q e F l') : QP n D W Bo Q e F l := fun a w ha hw => h a w ha (hw.sub hs)
theorem q_perm {e : Exit} (hs : l'.Perm l) (h : QP n D W Bo Q e F l') : QP n D W Bo Q e F l := fun a w ha hw => h a w ha (hw.perm hs)

theorem c_seq (h : CP r P n D W Bo c1 (Exit.then (c2.wpIn (Fw r) 0 P Q) Q) F l) : CP r P n D W Bo (c1.seq c2) Q F l :=
  fun a w ha hw => wpIn_seq (h a w ha hw)
theorem c_skip (h : QP n D W Bo Q .normal F l) : CP r P n D W Bo .skip Q F l := fun a w ha hw => wpIn_skip (h a w ha hw)
theorem c_ret (h : QP n D W Bo Q .ret F l) : CP r P n D W Bo .ret Q F l := fun a w ha hw => wpIn_ret (h a w ha hw)
theorem c_exit {id : Nat} (h : QP n D W Bo Q (.exit id) F l) : CP r P n D W Bo (.exit id) Q F l := fun a w ha hw => wpIn_exit (h a w ha hw)
theorem c_block {id : Nat} (h : CP r P n D W Bo c (Exit.inBlock id Q) F l) : CP r P n D W Bo (.block id c) Q F l :=
  fun a w ha hw => wpIn_block (h a w ha hw)
theorem c_true {x : Operand} (hx : evO F x = some (.bool true)) (h : CP r P n D W Bo c1 Q F l) : CP r P n D W Bo (.cond x c1 c2) Q F l :=
  fun a w ha hw => wpIn_cond_true (ha.eval hx) (h a w ha hw)
theorem c_false {x : Operand} (hx : evO F x = some (.bool false)) (h : CP r P n D W Bo c2 Q F l) : CP r P n D W Bo (.cond x c1 c2) Q F l :=
  fun a w ha hw => wpIn_cond_false (ha.eval hx) (h a w ha hw)
theorem c_if {x : Operand} {b : Bool} (hx : evO F x = some (.bool b)) (h1 : b = true → CP r P n D W Bo c1 Q F l) (h2 : b = false → CP r P n D W Bo c2 Q F l) :
    CP r P n D W Bo (.cond x c1 c2) Q F l := by
  cases b with
  | true => exact c_true hx (h1 rfl)
  | false => exact c_false hx (h2 rfl)
theorem c_ifd {x : Operand} {p : Prop} [dp : Decidable p] (h1 : p → CP r P n D W Bo c1 Q F l) (h2 : ¬ p → CP r P n D W Bo c2 Q F l) (hx : evO F x = some (.bool (decide p)) := by rfl) :
    CP r P n D W Bo (.cond x c1 c2) Q F l := by
  by_cases hp : p
  · exact c_true (by rw [hx, decide_eq_true hp]) (h1 hp)
  · exact c_false (by rw [hx, decide_eq_false hp]) (h2 hp)
theorem c_ifn {x : Operand} {p : Prop} [dp : Decidable p] (h1 : ¬ p → CP r P n D W Bo c1 Q F l) (h2 : p → CP r P n D W Bo c2 Q F l) (hx : evO F x = some (.bool (!decide p)) := by rfl) :
    CP r P n D W Bo (.cond x c1 c2) Q F l := by
  by_cases hp : p
  · exact c_false (by rw [hx, decide_eq_true hp]; rfl) (h2 hp)
  · exact c_true (by rw [hx, decide_eq_false hp]; rfl) (h1 hp)
/-- a test that is known -/
theorem c_t {x : Operand} (h : CP r P n D W Bo c1 Q F l) (hx : evO F x = some (.bool true) := by rfl) : CP r P n D W Bo (.cond x c1 c2) Q F l := c_true hx h
theorem c_f {x : Operand} (h : CP r P n D W Bo c2 Q F l) (hx : evO F x = some (.bool false) := by rfl) : CP r P n D W Bo (.cond x c1 c2) Q F l := c_false hx h
theorem c_reg {id : Nat} {os : List Oper} (h : LP r P n D W Bo os.toArray Q os F l) : CP r P n D W Bo (.region id os.toArray false) Q F l :=
  fun a w ha hw => wpIn_region_lit (h a w ha hw)
theorem c_cut {R : Act → World → Prop} (h : CP r P n D W Bo c (fun e a w => e = .normal ∧ R a w) F l) (hq : ∀ a w, R a w → Q .normal a w) : CP r P n D W Bo c Q F l :=
  fun a w ha hw => wpIn_mono (h a w ha hw) fun e a' w' hh => by obtain ⟨rfl, h2⟩ := hh; exact hq _ _ h2

/-- after a part of a sequence -/
theorem q_then (h : CP r P n D W Bo c Q F l) : QP n D W Bo (Exit.then (c.wpIn (Fw r) 0 P Q) Q') .normal F l := h
theorem q_then' {K : Act → World → Prop} {e : Exit} (he : e ≠ .normal) (h : QP n D W Bo Q e F l) : QP n D W Bo (Exit.then K Q) e F l := by
  intro a w ha hw
  have := h a w ha hw
  cases e <;> first | exact this | exact absurd rfl he
theorem q_ret {K : Act → World → Prop} (h : QP n D W Bo Q .ret F l) : QP n D W Bo (Exit.then K Q) .ret F l := h
theorem q_retb {id : Nat} (h : QP n D W Bo Q .ret F l) : QP n D W Bo (Exit.inBlock id Q) .ret F l := h
theorem q_ex {K : Act → World → Prop} {id : Nat} (h : QP n D W Bo Q (.exit id) F l) : QP n D W Bo (Exit.then K Q) (.exit id) F l := h
theorem q_exb {id : Nat} (h : QP n D W Bo Q .normal F l) : QP n D W Bo (Exit.inBlock id Q) (.exit id) F l := by
  intro a w ha hw; simp only [Exit.inBlock, if_true]; exact h a w ha hw
theorem q_exn {id i : Nat} (hne : Nat.beq i id = false) (h : QP n D W Bo Q (.exit i) F l) : QP n D W Bo (Exit.inBlock id Q) (.exit i) F l := by
  intro a w ha hw
  have e := Nat.ne_of_beq_eq_false hne
  simp only [Exit.inBlock, if_neg e]; exact h a w ha hw
theorem q_nb {id : Nat} (h : QP n D W Bo Q .normal F l) : QP n D W Bo (Exit.inBlock id Q) .normal F l := h

/-- a loop: a state x, of which frame and memory are functions -/
theorem c_loop {σ : Type} (Fx : σ → List (Nat × Value)) (lx : σ → SH) (I : σ → Prop) (m : σ → Nat) (x : σ) (hx : I x) (hF : Sub F (Fx x)) (hl : (lx x).Sublist l)
    (h : ∀ x, I x → CP r P n D W Bo c (Exit.then (fun a w => ∃ y, I y ∧ m y < m x ∧ Fr n (Fx y) D a ∧ St W Bo w (lx y)) Q) (Fx x) (lx x)) :
    CP r P n D W Bo (.loop c) Q F l := by
  intro a w ha hw
  let J : Nat → Act → World → Prop := fun k a w => ∃ y, I y ∧ m y = k ∧ Fr n (Fx y) D a ∧ St W Bo w (lx y)
  have h0 : ∃ k, J k a w := ⟨_, x, hx, rfl, ha.weaken hF, hw.sub hl⟩
  have key := wpIn_loop (F := Fw r) (n := 0) (P := P) (Q := Q) (c := c) (a := a) (w := w) (fun a w => ∃ k, J k a w) (fun a w => leastOf (fun k => J k a w)) h0
  apply key
  intro a w hI
  have hlst := (leastOf_spec hI).1
  obtain ⟨y, hy, hm, hya, hyw⟩ := hlst
  refine wpIn_mono (h y hy a w hya hyw) ?_
  intro e a' w' hq
  cases e with
  | normal =>
    obtain ⟨z, hz, hlt, hza, hzw⟩ := hq
    have hJ : J (m z) a' w' := ⟨z, hz, rfl, hza, hzw⟩
    exact show (∃ k, J k a' w') ∧ leastOf (fun k => J k a' w') < leastOf (fun k => J k a w) from
      ⟨⟨_, hJ⟩, Nat.lt_of_le_of_lt ((leastOf_spec ⟨_, hJ⟩).2 _ hJ) (hm ▸ hlt)⟩
  | exit id => exact hq
  | goto l => exact hq
  | ret => exact hq
  | panic ch => exact hq
  | outgrown => exact hq

theorem c_loop2 {σ τ : Type} (Fx : σ → τ → List (Nat × Value)) (lx : σ → τ → SH) (I : σ → τ → Prop) (m : σ → τ → Nat) (x : σ) (y : τ) (hx : I x y) (hF : Sub F (Fx x y)) (hl : (lx x y).Sublist l)
    (h : ∀ x y, I x y → CP r P n D W Bo c (Exit.then (fun a w => ∃ x' y', I x' y' ∧ m x' y' < m x y ∧ Fr n (Fx x' y') D a ∧ St W Bo w (lx x' y')) Q) (Fx x y) (lx x y)) :
    CP r P n D W Bo (.loop c) Q F l :=
  c_loop (fun p : σ × τ => Fx p.1 p.2) (fun p => lx p.1 p.2) (fun p => I p.1 p.2) (fun p => m p.1 p.2) (x, y) hx hF hl fun ⟨x, y⟩ hI a w ha hw =>
    wpIn_mono (h x y hI a w ha hw) fun e a' w' q => by
      cases e with
      | normal => obtain ⟨x', y', h1, h2, h3, h4⟩ := q; exact ⟨(x', y'), h1, h2, h3, h4⟩
      | exit id => exact q
      | goto l => exact q
      | ret => exact q
      | panic ch => exact q
      | outgrown => exact q
theorem q_round2 {σ τ : Type} {Fx : σ → τ → List (Nat × Value)} {lx : σ → τ → SH} {I : σ → τ → Prop} {m : σ → τ → Nat} {x : σ} {y : τ} (x' : σ) (y' : τ) (hy : I x' y') (hm : m x' y' < m x y) (hF : Sub F (Fx x' y')) (hl : (lx x' y').Sublist l) :
    QP n D W Bo (Exit.then (fun a w => ∃ x' y', I x' y' ∧ m x' y' < m x y ∧ Fr n (Fx x' y') D a ∧ St W Bo w (lx x' y')) Q) .normal F l :=
  fun _ _ ha hw => ⟨x', y', hy, hm, ha.weaken hF, hw.sub hl⟩
theorem c_loop3 {σ τ υ : Type} (Fx : σ → τ → υ → List (Nat × Value)) (lx : σ → τ → υ → SH) (I : σ → τ → υ → Prop) (m : σ → τ → υ → Nat) (x : σ) (y : τ) (z : υ) (hx : I x y z) (hF : Sub F (Fx x y z)) (hl : (lx x y z).Sublist l)
    (h : ∀ x y z, I x y z → CP r P n D W Bo c (Exit.then (fun a w => ∃ x' y' z', I x' y' z' ∧ m x' y' z' < m x y z ∧ Fr n (Fx x' y' z') D a ∧ St W Bo w (lx x' y' z')) Q) (Fx x y z) (lx x y z)) :
    CP r P n D W Bo (.loop c) Q F l :=
  c_loop (fun p : σ × τ × υ => Fx p.1 p.2.1 p.2.2) (fun p => lx p.1 p.2.1 p.2.2) (fun p => I p.1 p.2.1 p.2.2) (fun p => m p.1 p.2.1 p.2.2) (x, y, z) hx hF hl fun ⟨x, y, z⟩ hI a w ha hw =>
    wpIn_mono (h x y z hI a w ha hw) fun e a' w' q => by
      cases e with
      | normal => obtain ⟨x', y', z', h1, h2, h3, h4⟩ := q; exact ⟨(x', y', z'), h1, h2, h3, h4⟩
      | exit id => exact q
      | goto l => exact q
      | ret => exact q
      | panic ch => exact q
      | outgrown => exact q
theorem q_round3 {σ τ υ : Type} {Fx : σ → τ → υ → List (Nat × Value)} {lx : σ → τ → υ → SH} {I : σ → τ → υ → Prop} {m : σ → τ → υ → Nat} {x : σ} {y : τ} {z : υ} (x' : σ) (y' : τ) (z' : υ) (hy : I x' y' z') (hm : m x' y' z' < m x y z) (hF : Sub F (Fx x' y' z')) (hl : (lx x' y' z').Sublist l) :
    QP n D W Bo (Exit.then (fun a w => ∃ x' y' z', I x' y' z' ∧ m x' y' z' < m x y z ∧ Fr n (Fx x' y' z') D a ∧ St W Bo w (lx x' y' z')) Q) .normal F l :=
  fun _ _ ha hw => ⟨x', y', z', hy, hm, ha.weaken hF, hw.sub hl⟩

/-- the end of a round -/
theorem q_round {σ : Type} {Fx : σ → List (Nat × Value)} {lx : σ → SH} {I : σ → Prop} {m : σ → Nat} {x : σ} (y : σ) (hy : I y) (hm : m y < m x) (hF : Sub F (Fx y)) (hl : (lx y).Sublist l) :
    QP n D W Bo (Exit.then (fun a w => ∃ y, I y ∧ m y < m x ∧ Fr n (Fx y) D a ∧ St W Bo w (lx y)) Q) .normal F l :=
  fun _ _ ha hw => ⟨y, hy, hm, ha.weaken hF, hw.sub hl⟩

/-! a region -/

theorem s_nil (h : QP n D W Bo Q .normal F l) : LP r P n D W Bo ops Q [] F l := fun a w ha hw => wpListIn_nil (h a w ha hw)

theorem about_none {o : Oper} (h : ∀ c, o.op ≠ .call c) (ρ : Operand → Value) (w : World) : o.about P w ρ = none := by
  unfold Oper.about
  cases ho : o.op <;> first | rfl | exact absurd ho (h _)

theorem semAt_eq {o : Oper} (ρ : Operand → Value) (h : ∀ c, o.op ≠ .defer c) : o.semAt (Fw r).round ρ = execOp ρ o := Oper.semAt_eq _ _ _ h

/-- a guarded operation that is wanted -/
theorem wanted_of {o : Oper} {j d : Nat} {b : Bool} (hg : o.guard = some (j, b)) (hj : (ops[j]?).bind (·.dst) = some d) (hv : lkO F d = some (.bool b)) {a : Act} (ha : Fr n F D a) :
    Region.wanted o (yielded ops a.tmps) = true := by
  simp only [Region.wanted, hg, yielded, hj, Option.bind_some, ha.slot d _ hv]
  simp

theorem unwanted_of {o : Oper} {j d : Nat} {b b' : Bool} (hg : o.guard = some (j, b)) (hj : (ops[j]?).bind (·.dst) = some d) (hv : lkO F d = some (.bool b')) (hb : (b' == b) = false) {a : Act} (ha : Fr n F D a) :
    Region.wanted o (yielded ops a.tmps) = false := by
  simp only [Region.wanted, hg, yielded, hj, Option.bind_some, ha.slot d _ hv]
  simpa using hb

/-- one that is not wanted because an operation before it was not wanted: its slot is undefined -/
theorem unwanted_of' {o : Oper} {j d : Nat} {b : Bool} (hg : o.guard = some (j, b)) (hj : (ops[j]?).bind (·.dst) = some d) (hv : lkO F d = some undef) {a : Act} (ha : Fr n F D a) :
    Region.wanted o (yielded ops a.tmps) = false := by
  simp only [Region.wanted, hg, yielded, hj, Option.bind_some, ha.slot d _ hv]
  simp [undef]

/-- an operation is carried out: it has no guard, or its guard says yes -/
inductive Wn (ops : Array Oper) (F : List (Nat × Value)) : Option (Nat × Bool) → Prop
  | none : Wn ops F none
  | some {j e : Nat} {b : Bool} (hj : (ops[j]?).bind (·.dst) = some e) (hv : lkO F e = some (.bool b)) : Wn ops F (some (j, b))

theorem Wn.wanted {o : Oper} {g : Option (Nat × Bool)} (h : Wn ops F g) (hg : o.guard = g) {a : Act} (ha : Fr n F D a) : Region.wanted o (yielded ops a.tmps) = true := by
  cases h with
  | none => simp [Region.wanted, hg]
  | some hj hv => exact wanted_of hg hj hv ha

theorem wpListIn_of {Fc : Fence} {k : Nat} {o : Oper} {a : Act} {w : World} (hw : Region.wanted o (yielded ops a.tmps) = true) (h : o.wpIn Fc k P a w (wpListIn Fc k P ops Q rest) Q) : wpListIn Fc k P ops Q (o :: rest) a w := by
  simp only [wpListIn]
  rw [if_pos hw]; exact h

/-- an operation that yields a value -/
theorem s_y {op : Op} {ty : TypeId} {ps : String} {af : Array Edge} {g : Option (Nat × Bool)} {d : Nat} {v : Value} (hy : Y P n D W Bo ⟨some d, op, ty, ps, af, g⟩ F l v) (h : LP r P n D W Bo ops Q rest ((d, v) :: F) l)
    (hn : Nat.blt d n = true := by rfl) (hg : Wn ops F g := by first | exact .none | exact .some rfl rfl) : LP r P n D W Bo ops Q (⟨some d, op, ty, ps, af, g⟩ :: rest) F l := by
  intro a w ha hw
  refine wpListIn_of (hg.wanted rfl ha) ?_
  refine ⟨fun f _ => trivial, ?_⟩
  rw [semAt_eq _ hy.1, hy.2 a w ha hw]
  exact h _ _ (ha.put d v hn) hw

/-- one whose guard says no -/
theorem s_no {op : Op} {ty : TypeId} {ps : String} {af : Array Edge} {d j e : Nat} {b b' : Bool} (h : LP r P n D W Bo ops Q rest ((d, undef) :: F) l) (hn : Nat.blt d n = true := by rfl)
    (hj : (ops[j]?).bind (·.dst) = some e := by rfl) (hv : lkO F e = some (.bool b') := by rfl) (hb : (b' == b) = false := by rfl) : LP r P n D W Bo ops Q (⟨some d, op, ty, ps, af, some (j, b)⟩ :: rest) F l := by
  intro a w ha hw
  simp only [wpListIn]
  rw [unwanted_of (o := ⟨some d, op, ty, ps, af, some (j, b)⟩) rfl hj hv hb ha]
  exact ⟨fun f _ => trivial, h _ _ (ha.put d _ hn) hw⟩

/-- one whose guard was not carried out -/
theorem s_nu {op : Op} {ty : TypeId} {ps : String} {af : Array Edge} {d j e : Nat} {b : Bool} (h : LP r P n D W Bo ops Q rest ((d, undef) :: F) l) (hn : Nat.blt d n = true := by rfl)
    (hj : (ops[j]?).bind (·.dst) = some e := by rfl) (hv : lkO F e = some undef := by rfl) : LP r P n D W Bo ops Q (⟨some d, op, ty, ps, af, some (j, b)⟩ :: rest) F l := by
  intro a w ha hw
  simp only [wpListIn]
  rw [unwanted_of' (o := ⟨some d, op, ty, ps, af, some (j, b)⟩) rfl hj hv ha]
  exact ⟨fun f _ => trivial, h _ _ (ha.put d _ hn) hw⟩

/-- a comparison in a region, both ways -/
theorem s_ifd {op : Op} {ty : TypeId} {ps : String} {af : Array Edge} {g : Option (Nat × Bool)} {d : Nat} {p : Prop} [dp : Decidable p] (hy : Y P n D W Bo ⟨some d, op, ty, ps, af, g⟩ F l (.bool (decide p)))
    (h1 : p → LP r P n D W Bo ops Q rest ((d, .bool true) :: F) l) (h2 : ¬ p → LP r P n D W Bo ops Q rest ((d, .bool false) :: F) l) (hn : Nat.blt d n = true := by rfl) (hg : Wn ops F g := by first | exact .none | exact .some rfl rfl) :
    LP r P n D W Bo ops Q (⟨some d, op, ty, ps, af, g⟩ :: rest) F l := by
  by_cases hp : p
  · exact s_y hy (by rw [decide_eq_true hp]; exact h1 hp) hn hg
  · exact s_y hy (by rw [decide_eq_false hp]; exact h2 hp) hn hg
theorem s_ifn {op : Op} {ty : TypeId} {ps : String} {af : Array Edge} {g : Option (Nat × Bool)} {d : Nat} {p : Prop} [dp : Decidable p] (hy : Y P n D W Bo ⟨some d, op, ty, ps, af, g⟩ F l (.bool (!decide p)))
    (h1 : ¬ p → LP r P n D W Bo ops Q rest ((d, .bool true) :: F) l) (h2 : p → LP r P n D W Bo ops Q rest ((d, .bool false) :: F) l) (hn : Nat.blt d n = true := by rfl) (hg : Wn ops F g := by first | exact .none | exact .some rfl rfl) :
    LP r P n D W Bo ops Q (⟨some d, op, ty, ps, af, g⟩ :: rest) F l := by
  by_cases hp : p
  · exact s_y hy (by rw [decide_eq_true hp]; exact h2 hp) hn hg
  · exact s_y hy (by rw [decide_eq_false hp]; exact h1 hp) hn hg
/-- a comparison that is known -/
theorem s_yt {op : Op} {ty : TypeId} {ps : String} {af : Array Edge} {g : Option (Nat × Bool)} {d : Nat} {p : Prop} [dp : Decidable p] (hy : Y P n D W Bo ⟨some d, op, ty, ps, af, g⟩ F l (.bool (decide p)))
    (h1 : LP r P n D W Bo ops Q rest ((d, .bool true) :: F) l) (hp : p := by omega) (hn : Nat.blt d n = true := by rfl) (hg : Wn ops F g := by first | exact .none | exact .some rfl rfl) : LP r P n D W Bo ops Q (⟨some d, op, ty, ps, af, g⟩ :: rest) F l :=
  s_y hy (by rw [decide_eq_true hp]; exact h1) hn hg
theorem s_yf {op : Op} {ty : TypeId} {ps : String} {af : Array Edge} {g : Option (Nat × Bool)} {d : Nat} {p : Prop} [dp : Decidable p] (hy : Y P n D W Bo ⟨some d, op, ty, ps, af, g⟩ F l (.bool (decide p)))
    (h1 : LP r P n D W Bo ops Q rest ((d, .bool false) :: F) l) (hp : ¬ p := by omega) (hn : Nat.blt d n = true := by rfl) (hg : Wn ops F g := by first | exact .none | exact .some rfl rfl) : LP r P n D W Bo ops Q (⟨some d, op, ty, ps, af, g⟩ :: rest) F l :=
  s_y hy (by rw [decide_eq_false hp]; exact h1) hn hg
/-- a truth value that is not known: both ways -/
theorem s_ifb {d : Nat} {b : Bool} (h1 : b = true → LP r P n D W Bo ops Q rest ((d, .bool true) :: F) l)
    (h2 : b = false → LP r P n D W Bo ops Q rest ((d, .bool false) :: F) l) : LP r P n D W Bo ops Q rest ((d, .bool b) :: F) l := by
  cases b with
  | true => exact h1 rfl
  | false => exact h2 rfl

end
end Eng
/- Operations: what each yields. -/
namespace Eng
open Go Go.RowKit

class HU (P : Program) (t : TypeId) (d : outParam TypeDesc) : Prop where
  h : P.underlying t = some d
class HZ (P : Program) (t : TypeId) (z : outParam Value) : Prop where
  h : ∀ w, (zeroValue t).run P w = .ok z w
class HS (P : Program) (t : TypeId) (size bytes : outParam Nat) : Prop where
  h : ∃ i, P.info? t = some i ∧ i.size = size ∧ i.bytes = bytes

/-- is it neither a struct nor an array? -/
def flat : TypeDesc → Bool
  | .struct _ | .array _ _ => false
  | _ => true
class HT (P : Program) (t : TypeId) (b : outParam Bool) : Prop where
  h : ∃ d, P.underlying t = some d ∧ flat d = b
class HI (P : Program) (t : TypeId) : Prop where
  h : ∃ ms, P.underlying t = some (.interface ms)
/-- a field of a struct: its type, its place -/
class HD (P : Program) (t : TypeId) (i : Nat) (ft off : outParam Nat) : Prop where
  h : ∃ fs f, P.underlying t = some (.struct fs) ∧ fs[i]? = some f ∧ f.type = ft ∧ f.offset = off

theorem HS.of {P : Program} {t : TypeId} {size bytes : Nat} (h : (P.info? t).map (fun i => (i.size, i.bytes)) = some (size, bytes)) : HS P t size bytes := by
  cases hi : P.info? t with
  | none => rw [hi] at h; cases h
  | some i => rw [hi] at h; simp at h; exact ⟨i, hi, h.1, h.2⟩

/-- a byte -/
@[reducible] def B (x : UInt8) : Value := .int .u8 (x.toNat : Int)
/-- a word of 32 bits -/
@[reducible] def W32 (x : UInt32) : Value := .int .u32 (x.toNat : Int)
/-- an int -/
@[reducible] def I (z : Int) : Value := .int .i64 z
/-- a uint64 -/
@[reducible] def U (x : Nat) : Value := .int .u64 (x : Int)

def R64 (z : Int) : Prop := -9223372036854775808 ≤ z ∧ z ≤ 9223372036854775807

theorem wrap_i64 {z : Int} (h : R64 z) : IntKind.i64.wrap z = z := by
  unfold R64 at h
  have e1 : (2 : Int) ^ IntKind.i64.bits = 18446744073709551616 := by decide
  have e2 : (2 : Int) ^ (IntKind.i64.bits - 1) = 9223372036854775808 := by decide
  have e3 : IntKind.i64.signed = true := rfl
  simp only [IntKind.wrap, e1, e2, e3, Bool.true_and, decide_eq_true_eq]
  split <;> omega
theorem wrap_u64 {z : Int} (h0 : 0 ≤ z) (h : z < 18446744073709551616) : IntKind.u64.wrap z = z := by
  simp only [IntKind.wrap, IntKind.bits, IntKind.signed, Bool.false_and]
  rw [show (2 : Int) ^ 64 = 18446744073709551616 by decide]
  simp; omega
theorem wrap_u8 (z : Int) : IntKind.u8.wrap z = z % 256 := by
  simp only [IntKind.wrap, IntKind.bits, IntKind.signed, Bool.false_and]
  rw [show (2 : Int) ^ 8 = 256 by decide]
  simp
theorem wrap_u32 (z : Int) : IntKind.u32.wrap z = z % 4294967296 := by
  simp only [IntKind.wrap, IntKind.bits, IntKind.signed, Bool.false_and]
  rw [show (2 : Int) ^ 32 = 4294967296 by decide]
  simp
theorem wrap_u64' (z : Int) : IntKind.u64.wrap z = z % 18446744073709551616 := by
  simp only [IntKind.wrap, IntKind.bits, IntKind.signed, Bool.false_and]
  rw [show (2 : Int) ^ 64 = 18446744073709551616 by decide]
  simp

theorem u32_eq {a b : UInt32} (h : a.toNat = b.toNat) : a = b := UInt32.toNat_inj.1 h
theorem u32_of {z : Int} {a : UInt32} (h : z = (a.toNat : Int)) : Value.int .u32 z = W32 a := by rw [h]

theorem bits32 (p q : UInt32) (f : BitVec 32 → BitVec 32 → BitVec 32) (r : UInt32) (h : f p.toBitVec q.toBitVec = r.toBitVec) :
    IntKind.u32.wrap ((f (BitVec.ofInt 32 (p.toNat : Int)) (BitVec.ofInt 32 (q.toNat : Int))).toNat : Int) = (r.toNat : Int) := by
  have e : ∀ x : UInt32, BitVec.ofInt 32 (x.toNat : Int) = x.toBitVec := by
    intro x; rw [BitVec.ofInt_natCast]; exact BitVec.eq_of_toNat_eq (by simp)
  rw [e, e, h, wrap_u32]
  have := r.toBitVec.isLt
  show ((r.toNat : Int)) % 4294967296 = _
  have h2 : r.toNat < 4294967296 := this
  omega

theorem run_shr (P : Program) (w : World) (k yk : IntKind) (p : Int) (m : Nat) : (Op.shift .shr k p yk (m : Int)).run P w = .ok (.int k (p.fdiv (2 ^ (min m k.bits)))) w := by
  unfold Op.shift
  rw [if_neg (by omega), Int.toNat_natCast]; rfl
theorem run_shl (P : Program) (w : World) (k yk : IntKind) (p : Int) (m : Nat) : (Op.shift .shl k p yk (m : Int)).run P w = .ok (.int k (k.wrap (p * 2 ^ (min m k.bits)))) w := by
  unfold Op.shift
  rw [if_neg (by omega), Int.toNat_natCast]; rfl
theorem exec_bin (P : Program) (w w' : World) (ρ : Operand → Value) (d : Option Tmp) (op : BinOp) (ta tb : TypeId) (x y : Operand) (ty : TypeId) (ps : String) (af : Array Edge) (g : Option (Nat × Bool)) (v : Value)
    (hop : op ≠ .eql ∧ op ≠ .neq) (h : (binOp op ta (ρ x) (ρ y)).run P w = .ok v w') : (execOp ρ ⟨d, .binOp op ta x y tb, ty, ps, af, g⟩).run P w = .ok (.value v) w' := by
  have : eqGuard op ta x y (ρ x) (ρ y) = pure () := by
    unfold eqGuard
    cases op <;> first | rfl | exact absurd rfl hop.1 | exact absurd rfl hop.2
  simp only [execOp, this, Sem.run_bind, Sem.run_pure, Result.andThen_ok, h]

section
variable {P : Program} {n : Nat} {D : List Deferred} {W : World} {Bo : List Nat} {F : List (Nat × Value)} {l : SH}
  {d : Option Tmp} {ty : TypeId} {ps : String} {af : Array Edge} {g : Option (Nat × Bool)} {x y z : Operand} {v u : Value} {ta tb : TypeId}

theorem Y.mk {o : Oper} (h2 : ∀ c, o.op ≠ .defer c) (h : ∀ a w, Fr n F D a → St W Bo w l → (execOp a.eval o).run P w = .ok (.value v) w) : Y P n D W Bo o F l v := ⟨h2, h⟩

theorem y_mv (hx : evO F x = some v := by rfl) : Y P n D W Bo ⟨d, .move x, ty, ps, af, g⟩ F l v :=
  .mk (by simp) fun a w ha _ => by simp [execOp, ha.eval hx, pure]
theorem y_as (hx : evO F x = some v := by rfl) : Y P n D W Bo ⟨d, .assign x, ty, ps, af, g⟩ F l v :=
  .mk (by simp) fun a w ha _ => by simp [execOp, ha.eval hx, pure]
theorem y_pkT (hc : evO F x = some (.bool true) := by rfl) (hx : evO F y = some v := by rfl) : Y P n D W Bo ⟨d, .pick x y z, ty, ps, af, g⟩ F l v :=
  .mk (by simp) fun a w ha _ => by simp [execOp, ha.eval hc, ha.eval hx, asBool]
theorem y_pkF (hc : evO F x = some (.bool false) := by rfl) (hx : evO F z = some v := by rfl) : Y P n D W Bo ⟨d, .pick x y z, ty, ps, af, g⟩ F l v :=
  .mk (by simp) fun a w ha _ => by simp [execOp, ha.eval hc, ha.eval hx, asBool]
theorem y_pk {b : Bool} (hc : evO F x = some (.bool b) := by rfl) (h1 : b = true → evO F y = some v := by first | (intro h; cases h; done) | (intro _; rfl)) (h2 : b = false → evO F z = some v := by first | (intro h; cases h; done) | (intro _; rfl)) :
    Y P n D W Bo ⟨d, .pick x y z, ty, ps, af, g⟩ F l v := by
  cases b with
  | true => exact y_pkT hc (h1 rfl)
  | false => exact y_pkF hc (h2 rfl)
theorem y_ext {vs : Array Value} {i : Nat} (hx : evO F x = some (.tuple vs) := by rfl) (hv : vs[i]? = some v := by rfl) : Y P n D W Bo ⟨d, .extract x i, ty, ps, af, g⟩ F l v :=
  .mk (by simp) fun a w ha _ => by simp [execOp, ha.eval hx, Instr.extract, hv]
theorem y_not {b : Bool} (hx : evO F x = some (.bool b) := by rfl) : Y P n D W Bo ⟨d, .unOp .not ta x, ty, ps, af, g⟩ F l (.bool (!b)) :=
  .mk (by simp) fun a w ha _ => by simp [execOp, ha.eval hx, Op.unary]
theorem y_neg {p : Int} (hx : evO F x = some (I p) := by rfl) (hr : R64 (-p) := by (unfold R64; omega)) : Y P n D W Bo ⟨d, .unOp .neg ta x, ty, ps, af, g⟩ F l (I (-p)) :=
  .mk (by simp) fun a w ha _ => by simp [execOp, ha.eval hx, Op.unary, Op.intArith, wrap_i64 hr]
theorem y_func {fn : Fn} {as bs : Array Operand} {fs cs : List Value} (hf : evL F as.toList = some fs := by rfl) (hb : evL F bs.toList = some cs := by rfl) :
    Y P n D W Bo ⟨d, .makeFunc fn as bs, ty, ps, af, g⟩ F l (.func fn fs.toArray cs.toArray) := by
  refine .mk (by simp) fun a w ha _ => ?_
  have key : ∀ (as : List Operand) (fs : List Value), as.map (evO F) = fs.map some → as.map a.eval = fs := by
    intro as
    induction as with
    | nil => intro fs h; cases fs with
      | nil => rfl
      | cons _ _ => simp at h
    | cons x as ih => intro fs h; cases fs with
      | nil => simp at h
      | cons v fs => simp at h; simp [ha.eval h.1, ih fs h.2]
  have e1 : as.map a.eval = fs.toArray := by rw [← Array.toList_inj]; simp [key _ _ (evL_map hf)]
  have e2 : bs.map a.eval = cs.toArray := by rw [← Array.toList_inj]; simp [key _ _ (evL_map hb)]
  simp [execOp, Instr.makeFunc, e1, e2]

/-! int -/
theorem y_add {p q : Int} (hx : evO F x = some (I p) := by rfl) (hy : evO F y = some (I q) := by rfl) (hr : R64 (p + q) := by (unfold R64; omega)) : Y P n D W Bo ⟨d, .binOp .add ta x y tb, ty, ps, af, g⟩ F l (I (p + q)) :=
  .mk (by simp) fun a w ha _ => by simp [execOp, ha.eval hx, ha.eval hy, eqGuard, binOp, Op.intArith, wrap_i64 hr]
theorem y_sub {p q : Int} (hx : evO F x = some (I p) := by rfl) (hy : evO F y = some (I q) := by rfl) (hr : R64 (p - q) := by (unfold R64; omega)) : Y P n D W Bo ⟨d, .binOp .sub ta x y tb, ty, ps, af, g⟩ F l (I (p - q)) :=
  .mk (by simp) fun a w ha _ => by simp [execOp, ha.eval hx, ha.eval hy, eqGuard, binOp, Op.intArith, wrap_i64 hr]
theorem y_mul {p q : Int} (hx : evO F x = some (I p) := by rfl) (hy : evO F y = some (I q) := by rfl) (hr : R64 (p * q) := by (unfold R64; omega)) : Y P n D W Bo ⟨d, .binOp .mul ta x y tb, ty, ps, af, g⟩ F l (I (p * q)) :=
  .mk (by simp) fun a w ha _ => by simp [execOp, ha.eval hx, ha.eval hy, eqGuard, binOp, Op.intArith, wrap_i64 hr]
theorem y_lss {k : IntKind} {p q : Int} (hx : evO F x = some (.int k p) := by rfl) (hy : evO F y = some (.int k q) := by rfl) : Y P n D W Bo ⟨d, .binOp .lss ta x y tb, ty, ps, af, g⟩ F l (.bool (decide (p < q))) :=
  .mk (by simp) fun a w ha _ => by simp [execOp, ha.eval hx, ha.eval hy, eqGuard, binOp, Op.intCmp]
theorem y_leq {k : IntKind} {p q : Int} (hx : evO F x = some (.int k p) := by rfl) (hy : evO F y = some (.int k q) := by rfl) : Y P n D W Bo ⟨d, .binOp .leq ta x y tb, ty, ps, af, g⟩ F l (.bool (decide (p ≤ q))) :=
  .mk (by simp) fun a w ha _ => by simp [execOp, ha.eval hx, ha.eval hy, eqGuard, binOp, Op.intCmp]
theorem y_gtr {k : IntKind} {p q : Int} (hx : evO F x = some (.int k p) := by rfl) (hy : evO F y = some (.int k q) := by rfl) : Y P n D W Bo ⟨d, .binOp .gtr ta x y tb, ty, ps, af, g⟩ F l (.bool (decide (q < p))) :=
  .mk (by simp) fun a w ha _ => by simp [execOp, ha.eval hx, ha.eval hy, eqGuard, binOp, Op.intCmp]
theorem y_geq {k : IntKind} {p q : Int} (hx : evO F x = some (.int k p) := by rfl) (hy : evO F y = some (.int k q) := by rfl) : Y P n D W Bo ⟨d, .binOp .geq ta x y tb, ty, ps, af, g⟩ F l (.bool (decide (q ≤ p))) :=
  .mk (by simp) fun a w ha _ => by simp [execOp, ha.eval hx, ha.eval hy, eqGuard, binOp, Op.intCmp]
theorem y_eql {k : IntKind} {p q : Int} (hx : evO F x = some (.int k p) := by rfl) (hy : evO F y = some (.int k q) := by rfl) : Y P n D W Bo ⟨d, .binOp .eql ta x y tb, ty, ps, af, g⟩ F l (.bool (decide (p = q))) :=
  .mk (by simp) fun a w ha _ => by simp [execOp, ha.eval hx, ha.eval hy, eqGuard, binOp, Op.intCmp]; rfl
theorem y_neq {k : IntKind} {p q : Int} (hx : evO F x = some (.int k p) := by rfl) (hy : evO F y = some (.int k q) := by rfl) : Y P n D W Bo ⟨d, .binOp .neq ta x y tb, ty, ps, af, g⟩ F l (.bool (!decide (p = q))) :=
  .mk (by simp) fun a w ha _ => by simp [execOp, ha.eval hx, ha.eval hy, eqGuard, binOp, Op.intCmp]; rfl
theorem y_quo {p q : Int} (hx : evO F x = some (I p) := by rfl) (hy : evO F y = some (I q) := by rfl) (h0 : 0 ≤ p := by omega) (h1 : 0 < q := by omega) (hr : R64 p := by (unfold R64; omega)) : Y P n D W Bo ⟨d, .binOp .quo ta x y tb, ty, ps, af, g⟩ F l (I (p / q)) :=
  .mk (by simp) fun a w ha _ => by
    have h2 : R64 (p / q) := by
      have h3 := Int.ediv_nonneg h0 (Int.le_of_lt h1)
      have h4 := Int.ediv_le_self q h0
      unfold R64 at *; omega
    have h5 : q ≠ 0 := by omega
    simp [execOp, ha.eval hx, ha.eval hy, eqGuard, binOp, Op.intDiv, h5, Int.tdiv_eq_ediv_of_nonneg h0, wrap_i64 h2]
theorem y_rem {p q : Int} (hx : evO F x = some (I p) := by rfl) (hy : evO F y = some (I q) := by rfl) (h0 : 0 ≤ p := by omega) (h1 : 0 < q := by omega) (hr : R64 p := by (unfold R64; omega)) : Y P n D W Bo ⟨d, .binOp .rem ta x y tb, ty, ps, af, g⟩ F l (I (p % q)) :=
  .mk (by simp) fun a w ha _ => by
    have h2 : R64 (p % q) := by
      have h3 := Int.emod_nonneg p (show q ≠ 0 by omega)
      have h4 := Int.emod_lt_of_pos p h1
      have h6 : p % q ≤ p := by have := Int.mul_ediv_add_emod p q; have := Int.mul_nonneg (Int.le_of_lt h1) (Int.ediv_nonneg h0 (Int.le_of_lt h1)); omega
      unfold R64 at *; omega
    have h5 : q ≠ 0 := by omega
    simp [execOp, ha.eval hx, ha.eval hy, eqGuard, binOp, Op.intDiv, h5, Int.tmod_eq_emod_of_nonneg h0]

/-! words of 32 bits -/
theorem y_add32 {p q : UInt32} (hx : evO F x = some (W32 p) := by rfl) (hy : evO F y = some (W32 q) := by rfl) : Y P n D W Bo ⟨d, .binOp .add ta x y tb, ty, ps, af, g⟩ F l (W32 (p + q)) :=
  .mk (by simp) fun a w ha _ => by
    simp [execOp, ha.eval hx, ha.eval hy, eqGuard, binOp, Op.intArith, wrap_u32]
theorem y_xor32 {p q : UInt32} (hx : evO F x = some (W32 p) := by rfl) (hy : evO F y = some (W32 q) := by rfl) : Y P n D W Bo ⟨d, .binOp .xor ta x y tb, ty, ps, af, g⟩ F l (W32 (p ^^^ q)) :=
  .mk (by simp) fun a w ha _ => by
    have h := bits32 p q (· ^^^ ·) (p ^^^ q) rfl
    simp only [execOp, ha.eval hx, ha.eval hy, eqGuard, binOp]
    show Result.ok (Next.value (.int .u32 (IntKind.u32.wrap _))) w = _
    exact congrArg (fun z => Result.ok (Next.value (.int .u32 z)) w) h
theorem y_and32 {p q : UInt32} (hx : evO F x = some (W32 p) := by rfl) (hy : evO F y = some (W32 q) := by rfl) : Y P n D W Bo ⟨d, .binOp .and ta x y tb, ty, ps, af, g⟩ F l (W32 (p &&& q)) :=
  .mk (by simp) fun a w ha _ => by
    have h := bits32 p q (· &&& ·) (p &&& q) rfl
    simp only [execOp, ha.eval hx, ha.eval hy, eqGuard, binOp]
    show Result.ok (Next.value (.int .u32 (IntKind.u32.wrap _))) w = _
    exact congrArg (fun z => Result.ok (Next.value (.int .u32 z)) w) h
theorem y_or32 {p q : UInt32} (hx : evO F x = some (W32 p) := by rfl) (hy : evO F y = some (W32 q) := by rfl) : Y P n D W Bo ⟨d, .binOp .or ta x y tb, ty, ps, af, g⟩ F l (W32 (p ||| q)) :=
  .mk (by simp) fun a w ha _ => by
    have h := bits32 p q (· ||| ·) (p ||| q) rfl
    simp only [execOp, ha.eval hx, ha.eval hy, eqGuard, binOp]
    show Result.ok (Next.value (.int .u32 (IntKind.u32.wrap _))) w = _
    exact congrArg (fun z => Result.ok (Next.value (.int .u32 z)) w) h

/-- a word shifted to the left, by a constant -/
theorem y_shl32 {p : UInt32} {q : Int} {k : IntKind} (hx : evO F x = some (W32 p) := by rfl) (hy : evO F y = some (.int k q) := by rfl) (h0 : 0 ≤ q := by decide) (h1 : q < 32 := by decide) :
    Y P n D W Bo ⟨d, .binOp .shl ta x y tb, ty, ps, af, g⟩ F l (W32 (p <<< UInt32.ofNat q.toNat)) :=
  .mk (by simp) fun a w ha _ => by
    obtain ⟨m, rfl⟩ := Int.eq_ofNat_of_zero_le h0
    have hm : m < 32 := by omega
    have e2 : min m 32 = m := by omega
    have e3 : ((p.toNat : Int) * 2 ^ m) % 4294967296 = ((p <<< UInt32.ofNat m).toNat : Int) := by
      rw [UInt32.toNat_shiftLeft, Nat.shiftLeft_eq]
      have : (UInt32.ofNat m).toNat % 32 = m := by simp; omega
      rw [this]
      simp
    refine exec_bin P w w _ _ _ _ _ _ _ _ _ _ _ _ ⟨by simp, by simp⟩ ?_
    rw [ha.eval hx, ha.eval hy]
    refine (run_shl P w .u32 k _ m).trans ?_
    rw [show min m IntKind.u32.bits = m from e2, wrap_u32, e3]; rfl
/-- a word shifted to the right, by a constant -/
theorem y_shr32 {p : UInt32} {q : Int} {k : IntKind} (hx : evO F x = some (W32 p) := by rfl) (hy : evO F y = some (.int k q) := by rfl) (h0 : 0 ≤ q := by decide) (h1 : q < 32 := by decide) :
    Y P n D W Bo ⟨d, .binOp .shr ta x y tb, ty, ps, af, g⟩ F l (W32 (p >>> UInt32.ofNat q.toNat)) :=
  .mk (by simp) fun a w ha _ => by
    obtain ⟨m, rfl⟩ := Int.eq_ofNat_of_zero_le h0
    have hm : m < 32 := by omega
    have e2 : min m 32 = m := by omega
    have e3 : (p.toNat : Int).fdiv (2 ^ m) = ((p >>> UInt32.ofNat m).toNat : Int) := by
      rw [UInt32.toNat_shiftRight, Nat.shiftRight_eq_div_pow]
      have : (UInt32.ofNat m).toNat % 32 = m := by simp; omega
      rw [this, Int.fdiv_eq_ediv_of_nonneg _ (by exact Int.le_of_lt (Int.pow_pos (by decide)))]
      simp
    refine exec_bin P w w _ _ _ _ _ _ _ _ _ _ _ _ ⟨by simp, by simp⟩ ?_
    rw [ha.eval hx, ha.eval hy]
    refine (run_shr P w .u32 k _ m).trans ?_
    rw [show min m IntKind.u32.bits = m from e2, e3]; rfl
/-- a uint64, or an int that is not negative, shifted to the right -/
theorem y_shr {p : Nat} {q : Int} {k k' : IntKind} (hx : evO F x = some (.int k (p : Int)) := by rfl) (hy : evO F y = some (.int k' q) := by rfl) (h0 : 0 ≤ q := by omega) (h1 : q ≤ k.bits := by (simp only [IntKind.bits]; omega)) :
    Y P n D W Bo ⟨d, .binOp .shr ta x y tb, ty, ps, af, g⟩ F l (.int k ((p / 2 ^ q.toNat : Nat) : Int)) :=
  .mk (by simp) fun a w ha _ => by
    obtain ⟨m, rfl⟩ := Int.eq_ofNat_of_zero_le h0
    have e2 : min m k.bits = m := by omega
    have e3 : (p : Int).fdiv (2 ^ m) = ((p / 2 ^ m : Nat) : Int) := by
      rw [Int.fdiv_eq_ediv_of_nonneg _ (by exact Int.le_of_lt (Int.pow_pos (by decide)))]; simp
    refine exec_bin P w w _ _ _ _ _ _ _ _ _ _ _ _ ⟨by simp, by simp⟩ ?_
    rw [ha.eval hx, ha.eval hy]
    refine (run_shr P w k k' _ m).trans ?_
    rw [e2, e3]; rfl
/-- the same for any int: rounded down -/
theorem y_sar {p : Int} {q : Int} {k k' : IntKind} (hx : evO F x = some (.int k p) := by rfl) (hy : evO F y = some (.int k' q) := by rfl) (h0 : 0 ≤ q := by omega) (h1 : q ≤ k.bits := by (simp only [IntKind.bits]; omega)) :
    Y P n D W Bo ⟨d, .binOp .shr ta x y tb, ty, ps, af, g⟩ F l (.int k (p / 2 ^ q.toNat)) :=
  .mk (by simp) fun a w ha _ => by
    obtain ⟨m, rfl⟩ := Int.eq_ofNat_of_zero_le h0
    have e2 : min m k.bits = m := by omega
    have e3 : p.fdiv (2 ^ m) = p / 2 ^ m := Int.fdiv_eq_ediv_of_nonneg _ (by exact Int.le_of_lt (Int.pow_pos (by decide)))
    refine exec_bin P w w _ _ _ _ _ _ _ _ _ _ _ _ ⟨by simp, by simp⟩ ?_
    rw [ha.eval hx, ha.eval hy]
    refine (run_shr P w k k' _ m).trans ?_
    rw [e2, e3]; rfl
/-- by a constant -/
theorem y_shrc (q : Nat) {p : Int} {k k' : IntKind} (hx : evO F x = some (.int k p) := by rfl) (hy : evO F y = some (.int k' (q : Int)) := by rfl) (h1 : q ≤ k.bits := by decide) :
    Y P n D W Bo ⟨d, .binOp .shr ta x y tb, ty, ps, af, g⟩ F l (.int k (p / 2 ^ q)) := by
  have := y_sar (P := P) (n := n) (D := D) (W := W) (Bo := Bo) (l := l) (d := d) (ty := ty) (ps := ps) (af := af) (g := g) (ta := ta) (tb := tb) hx hy (by omega) (by omega)
  rwa [Int.toNat_natCast] at this
/-- an int or a uint64 shifted to the left, where nothing is lost -/
theorem y_shl {p : Int} {q : Int} {k k' : IntKind} (hx : evO F x = some (.int k p) := by rfl) (hy : evO F y = some (.int k' q) := by rfl) (h0 : 0 ≤ q := by omega) (h1 : q ≤ k.bits := by (simp only [IntKind.bits]; omega)) (hw : k.wrap (p * 2 ^ q.toNat) = p * 2 ^ q.toNat) :
    Y P n D W Bo ⟨d, .binOp .shl ta x y tb, ty, ps, af, g⟩ F l (.int k (p * 2 ^ q.toNat)) :=
  .mk (by simp) fun a w ha _ => by
    obtain ⟨m, rfl⟩ := Int.eq_ofNat_of_zero_le h0
    have e2 : min m k.bits = m := by omega
    rw [Int.toNat_natCast] at hw ⊢
    refine exec_bin P w w _ _ _ _ _ _ _ _ _ _ _ _ ⟨by simp, by simp⟩ ?_
    rw [ha.eval hx, ha.eval hy]
    refine (run_shl P w k k' _ m).trans ?_
    rw [e2, hw]

/-! conversions -/
theorem y_cvn {k : IntKind} {tb' : Bool} [hu : HU P tb (.int k)] [ha' : HT P ta tb'] {p : Int} {k' : IntKind} (hx : evO F x = some (.int k' p) := by rfl) (hw : k.wrap p = p := by first | exact wrap_i64 (by unfold R64; omega) | exact wrap_u64 (by omega) (by omega)) : Y P n D W Bo ⟨d, .convert ta tb x, ty, ps, af, g⟩ F l (.int k p) :=
  .mk (by simp) fun a w ha _ => by
    simp [execOp, ha.eval hx, convert, run_underlying hu.h, run_underlying ha'.h.choose_spec.1, Conv.intToInt, hw]
/-- an int to a byte -/
theorem y_cv8 [hu : HU P tb (.int .u8)] {tb' : Bool} [ha' : HT P ta tb'] {p : Int} {k' : IntKind} (hx : evO F x = some (.int k' p) := by rfl) : Y P n D W Bo ⟨d, .convert ta tb x, ty, ps, af, g⟩ F l (B (UInt8.ofNat (p % 256).toNat)) :=
  .mk (by simp) fun a w ha _ => by
    have h0 := Int.emod_nonneg p (show (256 : Int) ≠ 0 by decide)
    have h1 := Int.emod_lt_of_pos p (show (0 : Int) < 256 by decide)
    have e : (((UInt8.ofNat (p % 256).toNat).toNat : Nat) : Int) = p % 256 := by
      simp; omega
    simp only [execOp, ha.eval hx, convert, run_underlying hu.h, run_underlying ha'.h.choose_spec.1, Conv.intToInt, wrap_u8, Sem.run_bind, Result.andThen_ok, Sem.run_pure]
    exact congrArg (fun z => Result.ok (Next.value (.int .u8 z)) w) e.symm
/-- a byte to a word -/
theorem y_cv32 [hu : HU P tb (.int .u32)] {tb' : Bool} [ha' : HT P ta tb'] {p : UInt8} (hx : evO F x = some (B p) := by rfl) : Y P n D W Bo ⟨d, .convert ta tb x, ty, ps, af, g⟩ F l (W32 p.toUInt32) :=
  .mk (by simp) fun a w ha _ => by
    have h := p.toNat_lt
    have e : (p.toNat : Int) % 4294967296 = (p.toUInt32.toNat : Int) := by simp; omega
    simp only [execOp, ha.eval hx, convert, run_underlying hu.h, run_underlying ha'.h.choose_spec.1, Conv.intToInt, wrap_u32, Sem.run_bind, Result.andThen_ok, Sem.run_pure]
    exact congrArg (fun z => Result.ok (Next.value (.int .u32 z)) w) e
/-- a name for the same string -/
theorem y_cvs [hu : HU P tb .string] [ha' : HU P ta .string] {s : ByteArray} (hx : evO F x = some (.string s) := by rfl) : Y P n D W Bo ⟨d, .convert ta tb x, ty, ps, af, g⟩ F l (.string s) :=
  .mk (by simp) fun a w ha _ => by
    simp [execOp, ha.eval hx, convert, run_underlying hu.h, run_underlying ha'.h]

end
end Eng
/- Memory: reading, making and changing it. -/
namespace Eng
open Go Go.RowKit

/-- the cells at an address -/
def Rd (w : World) (a : Option Addr) (xs : List Value) : Prop :=
  xs = [] ∨ ∃ b off cs t fz, a = some ⟨b, off, none⟩ ∧ w.heap[b]? = some (.cells cs t fz) ∧ ∀ i v, xs[i]? = some v → cs[off + i]? = some v

/-- an address, some cells on -/
def ad (a : Option Addr) (i : Nat) : Addr := ⟨(a.getD default).block, (a.getD default).off + i, none⟩

def RdS (W : World) (Bo : List Nat) (l : SH) (a : Option Addr) (xs : List Value) : Prop := ∀ w, St W Bo w l → Rd w a xs

theorem Rd.congr {w w' : World} {a : Option Addr} {xs : List Value} (h : Rd w a xs) (hk : ∀ b, a.map (·.block) = some b → w'.heap[b]? = w.heap[b]?) : Rd w' a xs := by
  rcases h with h | ⟨b, off, cs, t, fz, rfl, h1, h2⟩
  · exact .inl h
  · exact .inr ⟨b, off, cs, t, fz, rfl, (hk b rfl).trans h1, h2⟩

theorem Rd.lt {w : World} {a : Option Addr} {xs : List Value} (h : Rd w a xs) (hne : xs ≠ []) {b : Nat} (hb : a.map (·.block) = some b) : b < w.heap.size := by
  rcases h with h | ⟨b, off, cs, t, fz, rfl, h1, h2⟩
  · exact absurd h hne
  · cases hb; exact (Array.getElem?_eq_some_iff.1 h1).1

theorem Rd.nil (w : World) (a : Option Addr) : Rd w a [] := .inl rfl

theorem Rd.st {W w : World} {l : SH} {a : Option Addr} {xs : List Value} (h : Rd W a xs) (hs : St W [] w l) : Rd w a xs := by
  rcases h with h | ⟨b, off, cs, t, fz, rfl, h1, h2⟩
  · exact .inl h
  · exact .inr ⟨b, off, cs, t, fz, rfl, (hs.old b (Array.getElem?_eq_some_iff.1 h1).1 (by simp)).trans h1, h2⟩

theorem rdW {W : World} {Bo : List Nat} {l : SH} {a : Option Addr} {xs : List Value} (h : Rd W a xs) (hb : ∀ b ∈ Bo, a.map (·.block) ≠ some b) : RdS W Bo l a xs := by
  intro w hw
  rcases h with h | ⟨b, off, cs, t, fz, rfl, h1, h2⟩
  · exact .inl h
  · refine .inr ⟨b, off, cs, t, fz, rfl, (hw.old b (Array.getElem?_eq_some_iff.1 h1).1 ?_).trans h1, h2⟩
    intro hm
    exact hb b hm rfl

theorem rdW0 {W : World} {l : SH} {a : Option Addr} {xs : List Value} (h : Rd W a xs) : RdS W [] l a xs := rdW h (by simp)

theorem rdB {W : World} {Bo : List Nat} {l : SH} {b off : Nat} {cs : Array Value} {t : TypeId} {fz : Nat × Nat} {xs : List Value} (hm : Res.blk b (.cells cs t fz) ∈ l)
    (hx : ∀ i v, xs[i]? = some v → cs[off + i]? = some v) : RdS W Bo l (some ⟨b, off, none⟩) xs :=
  fun _ hw => .inr ⟨b, off, cs, t, fz, rfl, (hw.own _ hm).1, hx⟩

theorem Res.rd {w : World} {a : Option Addr} {c : Nat} {e : TypeId} {s n : Nat} {xs : List Value} (h : (Res.row a c e s n xs).holds w) : Rd w a xs := by
  obtain ⟨h1, h2, h3⟩ := h
  rcases h3 with ⟨rfl, hc⟩ | ⟨g, cur, rfl, h4, h5, h6, h7⟩
  · refine .inl (List.eq_nil_of_length_eq_zero ?_)
    have : n = 0 := by omega
    rw [h1, this, Nat.zero_mul]
  · refine .inr ⟨g, 0, cur, e, (0, 0), rfl, h4, ?_⟩
    intro i v hv
    rw [← h7, List.getElem?_take] at hv
    split at hv
    · simpa using hv
    · cases hv

theorem rdR {W : World} {Bo : List Nat} {l : SH} {a : Option Addr} {c : Nat} {e : TypeId} {s n : Nat} {xs : List Value} (hm : Res.row a c e s n xs ∈ l) : RdS W Bo l a xs :=
  fun _ hw => Res.rd (hw.own _ hm).1

theorem ad_add (a : Option Addr) (i j : Nat) : (ad a i).add j = ad a (i + j) := by
  unfold Addr.add ad
  split
  · simp_all
  · simp [Nat.add_assoc]

theorem addr_add (b o j : Nat) : (⟨b, o, none⟩ : Addr).add j = ⟨b, o + j, none⟩ := by unfold Addr.add; split <;> simp_all

/-- a part of what can be read -/
theorem Rd.drop {w : World} {a : Option Addr} {xs : List Value} (h : Rd w a xs) (k : Nat) : Rd w (a.map (·.add k)) (xs.drop k) := by
  rcases h with rfl | ⟨b, off, cs, t, fz, rfl, h1, h2⟩
  · exact .inl (by simp)
  · refine .inr ⟨b, off + k, cs, t, fz, by simp [addr_add], h1, ?_⟩
    intro i v hv
    rw [List.getElem?_drop] at hv
    have := h2 _ _ hv
    rw [← this]; congr 1; omega

theorem Rd.take {w : World} {a : Option Addr} {xs : List Value} (h : Rd w a xs) (k : Nat) : Rd w a (xs.take k) := by
  rcases h with rfl | ⟨b, off, cs, t, fz, rfl, h1, h2⟩
  · exact .inl (by simp)
  · refine .inr ⟨b, off, cs, t, fz, rfl, h1, ?_⟩
    intro i v hv
    rw [List.getElem?_take] at hv
    split at hv
    · exact h2 _ _ hv
    · cases hv

theorem RdS.drop {W : World} {Bo : List Nat} {l : SH} {a : Option Addr} {xs : List Value} (h : RdS W Bo l a xs) (k : Nat) : RdS W Bo l (a.map (·.add k)) (xs.drop k) := fun w hw => (h w hw).drop k
theorem RdS.take {W : World} {Bo : List Nat} {l : SH} {a : Option Addr} {xs : List Value} (h : RdS W Bo l a xs) (k : Nat) : RdS W Bo l a (xs.take k) := fun w hw => (h w hw).take k

theorem Rd.cell {w : World} {a : Option Addr} {xs : List Value} (h : Rd w a xs) {i : Nat} {v : Value} (hv : xs[i]? = some v) :
    a = some (ad a 0) ∧ w.cell? (ad a i) = some v := by
  rcases h with rfl | ⟨b, off, cs, t, fz, rfl, h1, h2⟩
  · simp at hv
  · refine ⟨rfl, ?_⟩
    simp only [ad, Option.getD_some]
    rw [cell_of_row w b (off + i) cs t fz h1]
    exact h2 _ _ hv

theorem run_isAgg {P : Program} {t : TypeId} {b : Bool} (h : HT P t b) (w : World) : (isAgg t).run P w = .ok (!b) w := by
  obtain ⟨d, hu, rfl⟩ := h.h
  unfold isAgg
  simp only [Sem.run_bind, run_underlying hu, Result.andThen_ok]
  cases d <;> rfl
theorem run_sizeOf' {P : Program} {t : TypeId} {s b : Nat} (h : HS P t s b) (w : World) : (Go.sizeOf t).run P w = .ok s w := by
  obtain ⟨i, h1, h2, _⟩ := h.h
  simp [Go.sizeOf, typeInfo, h1, h2]

theorem run_loadCells' {P : Program} {w : World} {a : Addr} {cs : List Value} (h : ∀ j v, cs[j]? = some v → w.cell? (a.add j) = some v) : (loadCells a cs.length).run P w = .ok cs.toArray w :=
  run_loadCells_list w a cs h

/-- the values of operands -/
theorem evs {F : List (Nat × Value)} {n : Nat} {D : List Deferred} {a : Act} (ha : Fr n F D a) {as : Array Operand} {vs : List Value} (h : evL F as.toList = some vs) : as.map a.eval = vs.toArray := by
  have key : ∀ (as : List Operand) (fs : List Value), as.map (evO F) = fs.map some → as.map a.eval = fs := by
    intro as
    induction as with
    | nil => intro fs h; cases fs with
      | nil => rfl
      | cons _ _ => simp at h
    | cons x as ih => intro fs h; cases fs with
      | nil => simp at h
      | cons v fs => simp at h; simp [ha.eval h.1, ih fs h.2]
  rw [← Array.toList_inj]; simp [key _ _ (evL_map h)]

/-- bytes, as cells -/
def bs (l : List UInt8) : List Value := l.map B
theorem bs_length (l : List UInt8) : (bs l).length = l.length := by simp [bs]
theorem bs_get {l : List UInt8} {i : Nat} (h : i < l.length) : (bs l)[i]? = some (B (l.getD i 0)) := by
  simp [bs, List.getElem?_map, List.getElem?_eq_getElem h, List.getD_eq_getElem?_getD]
/-- ints, as cells -/
def is (l : List Int) : List Value := l.map I
theorem is_length (l : List Int) : (is l).length = l.length := by simp [is]
theorem is_get {l : List Int} {i : Nat} (h : i < l.length) : (is l)[i]? = some (I (l.getD i 0)) := by
  simp [is, List.getElem?_map, List.getElem?_eq_getElem h, List.getD_eq_getElem?_getD]
/-- words, as cells -/
def ws (l : List UInt32) : List Value := l.map W32
theorem ws_length (l : List UInt32) : (ws l).length = l.length := by simp [ws]
theorem ws_get {l : List UInt32} {i : Nat} (h : i < l.length) : (ws l)[i]? = some (W32 (l.getD i 0)) := by
  simp [ws, List.getElem?_map, List.getElem?_eq_getElem h, List.getD_eq_getElem?_getD]

section
variable {r : Option Nat} {P : Program} {n : Nat} {D : List Deferred} {W : World} {Bo : List Nat} {F : List (Nat × Value)} {l l' : SH}
  {d : Option Tmp} {dd : Nat} {ty : TypeId} {ps : String} {af : Array Edge} {g : Option (Nat × Bool)} {x y z : Operand} {v u : Value} {ta tb t e : TypeId}
  {Q : Exit → Act → World → Prop} {ops : Array Oper} {rest : List Oper} {td : TypeDesc}

/-! loads -/

theorem ld_flat (hu : HT P t true) {w : World} {a : Addr} (hc : w.cell? a = some v) : (Instr.loadAt t (.pointer (some a))).run P w = .ok v w := by
  simp [Instr.loadAt, Instr.sureAddr, loadVar, run_isAgg hu, hc]
theorem ld_agg (hu : HT P t false) {s b : Nat} (hs : HS P t s b) {w : World} {a : Addr} {cs : List Value} (hl : cs.length = s) (hc : ∀ j v, cs[j]? = some v → w.cell? (a.add j) = some v) :
    (Instr.loadAt t (.pointer (some a))).run P w = .ok (.agg cs.toArray) w := by
  subst hl
  simp [Instr.loadAt, Instr.sureAddr, loadVar, run_isAgg hu, run_sizeOf' hs, run_loadCells' hc]

theorem y_ld0 {p : Value} (hx : evO F x = some p) (h : ∀ w, St W Bo w l → (Instr.loadAt t p).run P w = .ok v w) : Y P n D W Bo ⟨d, .load t x, ty, ps, af, g⟩ F l v :=
  .mk (by simp) fun a w ha hw => by
    simp only [execOp, ha.eval hx, Sem.run_bind, h w hw]; rfl

/-- one cell of a known block -/
theorem y_ld [hu : HT P t true] {b off : Nat} {cs : Array Value} {et : TypeId} {fz : Nat × Nat} (hx : evO F x = some (.pointer (some ⟨b, off, none⟩)) := by rfl)
    (hm : Res.blk b (.cells cs et fz) ∈ l := by repeat (first | exact .head _ | apply List.Mem.tail)) (hv : cs[off]? = some v := by rfl) :
    Y P n D W Bo ⟨d, .load t x, ty, ps, af, g⟩ F l v :=
  y_ld0 hx fun w hw => ld_flat hu (by rw [cell_of_row w b off cs et fz (hw.own _ hm).1]; exact hv)

/-- one cell of what can be read -/
theorem y_ldr [hu : HT P t true] {a : Option Addr} {i : Nat} {xs : List Value} (hv : xs[i]? = some v) (hx : evO F x = some (.pointer (some (ad a i))) := by rfl)
    (hr : RdS W Bo l a xs := by first | exact rdW0 (by assumption) | exact rdR (by repeat (first | exact .head _ | apply List.Mem.tail)) | assumption) : Y P n D W Bo ⟨d, .load t x, ty, ps, af, g⟩ F l v :=
  y_ld0 hx fun w hw => ld_flat hu ((hr w hw).cell hv).2

theorem y_ldb [hu : HT P t true] {a : Option Addr} {i : Nat} {q : List UInt8} (hx : evO F x = some (.pointer (some (ad a i))) := by rfl) (hr : RdS W Bo l a (bs q) := by first | exact rdW0 (by assumption) | exact rdR (by repeat (first | exact .head _ | apply List.Mem.tail)) | assumption) (hi : i < q.length := by omega) :
    Y P n D W Bo ⟨d, .load t x, ty, ps, af, g⟩ F l (B (q.getD i 0)) := y_ldr (bs_get hi) hx hr
theorem y_ldi [hu : HT P t true] {a : Option Addr} {i : Nat} {q : List Int} (hx : evO F x = some (.pointer (some (ad a i))) := by rfl) (hr : RdS W Bo l a (is q) := by first | exact rdW0 (by assumption) | exact rdR (by repeat (first | exact .head _ | apply List.Mem.tail)) | assumption) (hi : i < q.length := by omega) :
    Y P n D W Bo ⟨d, .load t x, ty, ps, af, g⟩ F l (I (q.getD i 0)) := y_ldr (is_get hi) hx hr
theorem y_ldw [hu : HT P t true] {a : Option Addr} {i : Nat} {q : List UInt32} (hx : evO F x = some (.pointer (some (ad a i))) := by rfl) (hr : RdS W Bo l a (ws q) := by first | exact rdW0 (by assumption) | exact rdR (by repeat (first | exact .head _ | apply List.Mem.tail)) | assumption) (hi : i < q.length := by omega) :
    Y P n D W Bo ⟨d, .load t x, ty, ps, af, g⟩ F l (W32 (q.getD i 0)) := y_ldr (ws_get hi) hx hr

/-- a whole block -/
theorem y_lda [hu : HT P t false] {b : Nat} {cs : Array Value} {et : TypeId} {fz : Nat × Nat} {s by' : Nat} [hs : HS P t s by'] (hx : evO F x = some (.pointer (some ⟨b, 0, none⟩)) := by rfl)
    (hm : Res.blk b (.cells cs et fz) ∈ l := by repeat (first | exact .head _ | apply List.Mem.tail)) (hl : cs.size = s := by rfl) :
    Y P n D W Bo ⟨d, .load t x, ty, ps, af, g⟩ F l (.agg cs) :=
  y_ld0 hx fun w hw => by
    have := ld_agg (w := w) (a := ⟨b, 0, none⟩) (cs := cs.toList) hu hs (by simpa using hl) (fun j v hv => by
      rw [addr_add, cell_of_row w b _ cs et fz (hw.own _ hm).1]; simpa using hv)
    simpa using this

/-- some cells of what can be read, as a struct or an array -/
theorem y_ldra [hu : HT P t false] {s by' : Nat} [hs : HS P t s by'] {a : Option Addr} {i : Nat} {xs cs : List Value} (hr : RdS W Bo l a xs) (hl : cs.length = s) (hv : ∀ j v, cs[j]? = some v → xs[i + j]? = some v)
    (hx : evO F x = some (.pointer (some (ad a i))) := by rfl) : Y P n D W Bo ⟨d, .load t x, ty, ps, af, g⟩ F l (.agg cs.toArray) :=
  y_ld0 hx fun w hw => ld_agg hu hs hl fun j v h => by
    rw [ad_add]; exact ((hr w hw).cell (hv j v h)).2

/-! addresses -/

theorem y_nc {a : Addr} (hx : evO F x = some (.pointer (some a)) := by rfl) : Y P n D W Bo ⟨d, .nilCheck x, ty, ps, af, g⟩ F l (.pointer (some a)) :=
  .mk (by simp) fun a w ha hw => by simp only [execOp, ha.eval hx]; rfl

theorem run_fieldAt {i ft off : Nat} (hu : HD P t i ft off) {s by' : Nat} (hs : HS P ft s by') (h0 : s ≠ 0) (a : Addr) (w : World) :
    (Instr.fieldAt t (.pointer (some a)) i).run P w = .ok (.pointer (some (a.add off))) w := by
  obtain ⟨fs, f, h1, h2, rfl, rfl⟩ := hu.h
  simp [Instr.fieldAt, run_underlying h1, h2, Instr.sureAddr, fieldPlace, run_sizeOf' hs, h0]

/-- a field of a struct in a known place -/
theorem y_fa {i ft fo : Nat} [hu : HD P t i ft fo] {b off : Nat} {s by' : Nat} [hs : HS P ft s by'] (hx : evO F x = some (.pointer (some ⟨b, off, none⟩)) := by rfl)
    (h0 : s ≠ 0 := by decide) : Y P n D W Bo ⟨d, .fieldAddr t x i, ty, ps, af, g⟩ F l (.pointer (some ⟨b, off + fo, none⟩)) :=
  .mk (by simp) fun a w ha hw => by
    simp only [execOp, ha.eval hx, Sem.run_bind, run_fieldAt hu hs h0, addr_add]; rfl
theorem y_far {i ft fo : Nat} [hu : HD P t i ft fo] {k : Nat} {a : Option Addr} {s by' : Nat} [hs : HS P ft s by'] (hx : evO F x = some (.pointer (some (ad a k))) := by rfl)
    (h0 : s ≠ 0 := by decide) : Y P n D W Bo ⟨d, .fieldAddr t x i, ty, ps, af, g⟩ F l (.pointer (some (ad a (k + fo)))) :=
  .mk (by simp) fun a w ha hw => by
    simp only [execOp, ha.eval hx, Sem.run_bind, run_fieldAt hu hs h0, ad_add]; rfl

theorem run_indexAt_slice (hu : P.underlying t = some (.slice e)) {s by' : Nat} (hs : HS P e s by') {a : Addr} {m c : Nat} {k : IntKind} {i : Int} (h0 : 0 ≤ i) (h1 : i < m) (w : World) :
    (Instr.indexAt t (.slice (some a) m c) (.int k i)).run P w = .ok (.pointer (some (a.add (i.toNat * s)))) w := by
  simp [Instr.indexAt, asIntOf, run_underlying hu, h0, h1, run_sizeOf' hs]
theorem run_indexAt_array {m : Nat} (hu : P.underlying t = some (.array m e)) {s by' : Nat} (hs : HS P e s by') {a : Addr} {k : IntKind} {i : Int} (h0 : 0 ≤ i) (h1 : i < m) (w : World) :
    (Instr.indexAt t (.pointer (some a)) (.int k i)).run P w = .ok (.pointer (some (a.add (i.toNat * s)))) w := by
  simp [Instr.indexAt, asIntOf, run_underlying hu, h0, h1, run_sizeOf' hs, Instr.sureAddr]

/-- an element of a slice in a known place -/
theorem y_ixb [hu : HU P t (.slice e)] {s by' : Nat} [hs : HS P e s by'] {b off m c : Nat} {k : IntKind} {i : Int} (hx : evO F x = some (.slice (some ⟨b, off, none⟩) m c) := by rfl) (hy : evO F y = some (.int k i) := by rfl)
    (h0 : 0 ≤ i := by omega) (h1 : i < m := by omega) : Y P n D W Bo ⟨d, .indexAddr t x y, ty, ps, af, g⟩ F l (.pointer (some ⟨b, off + i.toNat * s, none⟩)) :=
  .mk (by simp) fun a w ha hw => by
    simp only [execOp, ha.eval hx, ha.eval hy, Sem.run_bind, run_indexAt_slice hu.h hs h0 h1, addr_add]; rfl
/-- an element of an array in a known place -/
theorem y_ixa {m : Nat} [hu : HU P t (.array m e)] {s by' : Nat} [hs : HS P e s by'] {b off : Nat} {k : IntKind} {i : Int} (hx : evO F x = some (.pointer (some ⟨b, off, none⟩)) := by rfl) (hy : evO F y = some (.int k i) := by rfl)
    (h0 : 0 ≤ i := by omega) (h1 : i < m := by omega) : Y P n D W Bo ⟨d, .indexAddr t x y, ty, ps, af, g⟩ F l (.pointer (some ⟨b, off + i.toNat * s, none⟩)) :=
  .mk (by simp) fun a w ha hw => by
    simp only [execOp, ha.eval hx, ha.eval hy, Sem.run_bind, run_indexAt_array hu.h hs h0 h1, addr_add]; rfl
theorem y_ixar {m : Nat} [hu : HU P t (.array m e)] {s by' : Nat} [hs : HS P e s by'] {a : Option Addr} {j : Nat} {k : IntKind} {i : Int} (hx : evO F x = some (.pointer (some (ad a j))) := by rfl) (hy : evO F y = some (.int k i) := by rfl)
    (h0 : 0 ≤ i := by omega) (h1 : i < m := by omega) : Y P n D W Bo ⟨d, .indexAddr t x y, ty, ps, af, g⟩ F l (.pointer (some (ad a (j + i.toNat * s)))) :=
  .mk (by simp) fun a w ha hw => by
    simp only [execOp, ha.eval hx, ha.eval hy, Sem.run_bind, run_indexAt_array hu.h hs h0 h1, ad_add]; rfl
/-- an element of a slice that can be read -/
theorem y_ixs [hu : HU P t (.slice e)] {s by' : Nat} [hs : HS P e s by'] {a : Option Addr} {xs : List Value} {m c : Nat} {k : IntKind} {i : Int}
    (hx : evO F x = some (.slice a m c) := by rfl) (hy : evO F y = some (.int k i) := by rfl) (hr : RdS W Bo l a xs := by first | exact rdW0 (by assumption) | exact rdR (by repeat (first | exact .head _ | apply List.Mem.tail)) | assumption)
    (h0 : 0 ≤ i := by omega) (h1 : i < m := by omega) (hl : m ≤ xs.length := by first | omega | (simp; omega)) :
    Y P n D W Bo ⟨d, .indexAddr t x y, ty, ps, af, g⟩ F l (.pointer (some (ad a (i.toNat * s)))) :=
  .mk (by simp) fun ac w ha hw => by
    obtain ⟨v, hv⟩ : ∃ v, xs[0]? = some v := ⟨xs[0]'(by omega), List.getElem?_eq_getElem (by omega)⟩
    have e1 := ((hr w hw).cell hv).1
    have : (Instr.indexAt t (.slice a m c) (.int k i)).run P w = .ok (.pointer (some (ad a (i.toNat * s)))) w := by
      rw [e1, run_indexAt_slice hu.h hs h0 h1, ad_add, ← e1, Nat.zero_add]
    simp only [execOp, ha.eval hx, ha.eval hy, Sem.run_bind, this]; rfl

/-- the same where an element is one cell -/
theorem y_ixs1 [hu : HU P t (.slice e)] {by' : Nat} [hs : HS P e 1 by'] {a : Option Addr} {xs : List Value} {m c : Nat} {k : IntKind} {i : Int}
    (hx : evO F x = some (.slice a m c) := by rfl) (hy : evO F y = some (.int k i) := by rfl) (hr : RdS W Bo l a xs := by first | exact rdW0 (by assumption) | exact rdR (by repeat (first | exact .head _ | apply List.Mem.tail)) | assumption)
    (h0 : 0 ≤ i := by omega) (h1 : i < m := by omega) (hl : m ≤ xs.length := by first | omega | (simp only [bs_length, is_length, ws_length]; omega)) :
    Y P n D W Bo ⟨d, .indexAddr t x y, ty, ps, af, g⟩ F l (.pointer (some (ad a i.toNat))) := by
  have := y_ixs (t := t) (e := e) (P := P) (n := n) (D := D) (d := d) (ty := ty) (ps := ps) (af := af) (g := g) hx hy hr h0 h1 hl
  rwa [Nat.mul_one] at this
theorem y_ixb1 [hu : HU P t (.slice e)] {by' : Nat} [hs : HS P e 1 by'] {b off m c : Nat} {k : IntKind} {i : Int} (hx : evO F x = some (.slice (some ⟨b, off, none⟩) m c) := by rfl) (hy : evO F y = some (.int k i) := by rfl)
    (h0 : 0 ≤ i := by omega) (h1 : i < m := by omega) : Y P n D W Bo ⟨d, .indexAddr t x y, ty, ps, af, g⟩ F l (.pointer (some ⟨b, off + i.toNat, none⟩)) := by
  have := y_ixb (t := t) (e := e) (P := P) (n := n) (D := D) (d := d) (ty := ty) (ps := ps) (af := af) (g := g) (W := W) (Bo := Bo) (l := l) hx hy h0 h1
  rwa [Nat.mul_one] at this
theorem y_ixa1 {m : Nat} [hu : HU P t (.array m e)] {by' : Nat} [hs : HS P e 1 by'] {b off : Nat} {k : IntKind} {i : Int} (hx : evO F x = some (.pointer (some ⟨b, off, none⟩)) := by rfl) (hy : evO F y = some (.int k i) := by rfl)
    (h0 : 0 ≤ i := by omega) (h1 : i < m := by omega) : Y P n D W Bo ⟨d, .indexAddr t x y, ty, ps, af, g⟩ F l (.pointer (some ⟨b, off + i.toNat, none⟩)) := by
  have := y_ixa (t := t) (e := e) (P := P) (n := n) (D := D) (d := d) (ty := ty) (ps := ps) (af := af) (g := g) (W := W) (Bo := Bo) (l := l) hx hy h0 h1
  rwa [Nat.mul_one] at this

/-! slices of slices -/

/-- the address of a slice that begins later -/
def sa (a : Option Addr) (i c s : Nat) : Option Addr := if c = i then a else a.map (·.add (i * s))

theorem RdS.sa {a : Option Addr} {xs : List Value} (h : RdS W Bo l a xs) {i c s : Nat} (hl : xs.length ≤ c * s) : RdS W Bo l (Eng.sa a i c s) (xs.drop (i * s)) := by
  unfold Eng.sa
  split
  · rename_i e
    subst e
    rw [List.drop_eq_nil_of_le hl]
    exact fun w _ => .inl rfl
  · exact h.drop _

theorem sa_lt {b off i c s : Nat} (h : i < c) : sa (some ⟨b, off, none⟩) i c s = some ⟨b, off + i * s, none⟩ := by
  unfold sa; rw [if_neg (by omega)]; simp [addr_add]
theorem sa_zero {a : Option Addr} {c s : Nat} : sa a 0 c s = a := by
  unfold sa; split
  · rfl
  · cases a <;> simp [Addr.add]

theorem y_sll [hu : HU P t (.slice e)] {s by' : Nat} [hs : HS P e s by'] {a : Option Addr} {m c : Nat} {k : IntKind} {i : Int} (hx : evO F x = some (.slice a m c) := by rfl) (hy : evO F y = some (.int k i) := by rfl)
    (h0 : 0 ≤ i := by omega) (h1 : i ≤ m := by omega) : Y P n D W Bo ⟨d, .slice t x (some y) none none, ty, ps, af, g⟩ F l (.slice (sa a i.toNat c s) (m - i.toNat) (c - i.toNat)) :=
  .mk (by simp) fun ac w ha hw => by
    have e1 : (Instr.sliceBound (.int k i) m .sliceB).run P w = .ok i.toNat w := run_sliceBound w k i m _ h0 h1
    simp only [execOp, ha.eval hx, Option.map, ha.eval hy, Sem.run_bind, Instr.sliceAt, Instr.slice, run_underlying hu.h, Result.andThen_ok, Instr.sliceBounds, Sem.run_pure, run_sizeOf' hs]
    rw [show (if (none : Option Value).isSome = true then BoundsCode.slice3C else BoundsCode.sliceB) = .sliceB from rfl, e1]
    rfl
theorem y_slh [hu : HU P t (.slice e)] {s by' : Nat} [hs : HS P e s by'] {a : Option Addr} {m c : Nat} {k : IntKind} {j : Int} (hx : evO F x = some (.slice a m c) := by rfl) (hy : evO F y = some (.int k j) := by rfl)
    (h0 : 0 ≤ j := by omega) (h1 : j ≤ c := by omega) : Y P n D W Bo ⟨d, .slice t x none (some y) none, ty, ps, af, g⟩ F l (.slice a j.toNat c) :=
  .mk (by simp) fun ac w ha hw => by
    have e1 : (Instr.sliceBound (.int k j) c .sliceAcap).run P w = .ok j.toNat w := run_sliceBound w k j c _ h0 h1
    have e2 := sa_zero (a := a) (c := c) (s := s)
    unfold sa at e2
    simp only [execOp, ha.eval hx, Option.map, ha.eval hy, Sem.run_bind, Instr.sliceAt, Instr.slice, run_underlying hu.h, Result.andThen_ok, Instr.sliceBounds, Sem.run_pure, e1, run_sizeOf' hs, if_true]
    simp only [Option.map] at e2
    rw [e2]
    rfl
theorem y_sllh [hu : HU P t (.slice e)] {s by' : Nat} [hs : HS P e s by'] {a : Option Addr} {m c : Nat} {k k' : IntKind} {i j : Int} (hx : evO F x = some (.slice a m c) := by rfl) (hy : evO F y = some (.int k i) := by rfl) (hz : evO F z = some (.int k' j) := by rfl)
    (h0 : 0 ≤ i := by omega) (h1 : i ≤ j := by omega) (h2 : j ≤ c := by omega) : Y P n D W Bo ⟨d, .slice t x (some y) (some z) none, ty, ps, af, g⟩ F l (.slice (sa a i.toNat c s) (j.toNat - i.toNat) (c - i.toNat)) :=
  .mk (by simp) fun ac w ha hw => by
    have e1 : (Instr.sliceBound (.int k' j) c .sliceAcap).run P w = .ok j.toNat w := run_sliceBound w k' j c _ (by omega) h2
    have e2 : (Instr.sliceBound (.int k i) j.toNat .sliceB).run P w = .ok i.toNat w := run_sliceBound w k i j.toNat _ h0 (by omega)
    simp only [execOp, ha.eval hx, Option.map, ha.eval hy, ha.eval hz, Sem.run_bind, Instr.sliceAt, Instr.slice, run_underlying hu.h, Result.andThen_ok, Instr.sliceBounds, Sem.run_pure, e1, run_sizeOf' hs, if_true]
    simp only [Option.isSome]
    rw [show (if false = true then BoundsCode.slice3C else BoundsCode.sliceB) = .sliceB from rfl, e2]
    rfl
/-- a slice of a whole array -/
theorem y_sla {m : Nat} [hu : HU P t (.array m e)] {s by' : Nat} [hs : HS P e s by'] {b off : Nat} (hx : evO F x = some (.pointer (some ⟨b, off, none⟩)) := by rfl) :
    Y P n D W Bo ⟨d, .slice t x none none none, ty, ps, af, g⟩ F l (.slice (some ⟨b, off, none⟩) m m) :=
  .mk (by simp) fun ac w ha hw => by
    simp only [execOp, ha.eval hx, Option.map, Sem.run_bind, Instr.sliceAt, run_underlying hu.h, Result.andThen_ok, Instr.sliceBounds, Sem.run_pure, run_sizeOf' hs, Instr.sureAddr]
    simp [addr_add]
theorem y_slalh {m : Nat} [hu : HU P t (.array m e)] {s by' : Nat} [hs : HS P e s by'] {b off : Nat} {k k' : IntKind} {i j : Int} (hx : evO F x = some (.pointer (some ⟨b, off, none⟩)) := by rfl) (hy : evO F y = some (.int k i) := by rfl) (hz : evO F z = some (.int k' j) := by rfl)
    (h0 : 0 ≤ i := by omega) (h1 : i ≤ j := by omega) (h2 : j ≤ m := by omega) (h3 : i < m := by omega) : Y P n D W Bo ⟨d, .slice t x (some y) (some z) none, ty, ps, af, g⟩ F l (.slice (some ⟨b, off + i.toNat * s, none⟩) (j.toNat - i.toNat) (m - i.toNat)) :=
  .mk (by simp) fun ac w ha hw => by
    have e1 : (Instr.sliceBound (.int k' j) m .sliceAlen).run P w = .ok j.toNat w := run_sliceBound w k' j m _ (by omega) h2
    have e2 : (Instr.sliceBound (.int k i) j.toNat .sliceB).run P w = .ok i.toNat w := run_sliceBound w k i j.toNat _ h0 (by omega)
    have e3 : ¬ (m = i.toNat) := by omega
    simp only [execOp, ha.eval hx, Option.map, ha.eval hy, ha.eval hz, Sem.run_bind, Instr.sliceAt, run_underlying hu.h, Result.andThen_ok, Instr.sliceBounds, Sem.run_pure, run_sizeOf' hs, Instr.sureAddr]
    simp only [Bool.false_eq_true, if_false, e1, Result.andThen_ok, Option.isSome, e2, e3, addr_add]
theorem y_slal {m : Nat} [hu : HU P t (.array m e)] {s by' : Nat} [hs : HS P e s by'] {b off : Nat} {k : IntKind} {i : Int} (hx : evO F x = some (.pointer (some ⟨b, off, none⟩)) := by rfl) (hy : evO F y = some (.int k i) := by rfl)
    (h0 : 0 ≤ i := by omega) (h3 : i < m := by omega) : Y P n D W Bo ⟨d, .slice t x (some y) none none, ty, ps, af, g⟩ F l (.slice (some ⟨b, off + i.toNat * s, none⟩) (m - i.toNat) (m - i.toNat)) :=
  .mk (by simp) fun ac w ha hw => by
    have e2 : (Instr.sliceBound (.int k i) m .sliceB).run P w = .ok i.toNat w := run_sliceBound w k i m _ h0 (by omega)
    have e3 : ¬ (m = i.toNat) := by omega
    simp only [execOp, ha.eval hx, Option.map, ha.eval hy, Sem.run_bind, Instr.sliceAt, run_underlying hu.h, Result.andThen_ok, Instr.sliceBounds, Sem.run_pure, run_sizeOf' hs, Instr.sureAddr]
    simp only [Bool.false_eq_true, if_false, Result.andThen_ok, Option.isSome, e2, e3, addr_add]
theorem y_slah {m : Nat} [hu : HU P t (.array m e)] {s by' : Nat} [hs : HS P e s by'] {b off : Nat} {k : IntKind} {j : Int} (hx : evO F x = some (.pointer (some ⟨b, off, none⟩)) := by rfl) (hy : evO F y = some (.int k j) := by rfl)
    (h0 : 0 ≤ j := by omega) (h3 : j ≤ m := by omega) : Y P n D W Bo ⟨d, .slice t x none (some y) none, ty, ps, af, g⟩ F l (.slice (some ⟨b, off, none⟩) j.toNat m) :=
  .mk (by simp) fun ac w ha hw => by
    have e2 : (Instr.sliceBound (.int k j) m .sliceAlen).run P w = .ok j.toNat w := run_sliceBound w k j m _ h0 h3
    simp only [execOp, ha.eval hx, Option.map, ha.eval hy, Sem.run_bind, Instr.sliceAt, run_underlying hu.h, Result.andThen_ok, Instr.sliceBounds, Sem.run_pure, run_sizeOf' hs, Instr.sureAddr]
    simp [e2, addr_add]

/-! builtins that only read -/
theorem y_b {b : Builtin} {as : Array Operand} {ts : Array TypeId} {vs : List Value} (hargs : evL F as.toList = some vs)
    (h : ∀ w, St W Bo w l → ∀ cs, (builtin b ts ty cs vs.toArray).run P w = .ok (.value v) w) : Y P n D W Bo ⟨d, .call ⟨.builtin b, as, ts⟩, ty, ps, af, g⟩ F l v :=
  .mk (by simp) fun a w ha hw => by
    simp only [execOp, resolve, evs ha hargs, Sem.run_bind, Sem.run_pure, Result.andThen_ok, invoke, h w hw]

theorem y_len [hu : HU P t (.slice e)] {a : Option Addr} {m c : Nat} (hx : evO F x = some (.slice a m c) := by rfl) : Y P n D W Bo ⟨d, .call ⟨.builtin .len, #[x], #[t]⟩, ty, ps, af, g⟩ F l (I m) :=
  y_b (vs := [.slice a m c]) (by simp [evL, hx]) fun w _ cs => by simp [builtin, Builtin.len_, run_underlying hu.h, goInt]
theorem y_cap [hu : HU P t (.slice e)] {a : Option Addr} {m c : Nat} (hx : evO F x = some (.slice a m c) := by rfl) : Y P n D W Bo ⟨d, .call ⟨.builtin .cap, #[x], #[t]⟩, ty, ps, af, g⟩ F l (I c) :=
  y_b (vs := [.slice a m c]) (by simp [evL, hx]) fun w _ cs => by simp [builtin, Builtin.cap_, run_underlying hu.h, goInt]
theorem y_lens [hu : HU P t .string] {s : ByteArray} (hx : evO F x = some (.string s) := by rfl) : Y P n D W Bo ⟨d, .call ⟨.builtin .len, #[x], #[t]⟩, ty, ps, af, g⟩ F l (I s.size) :=
  y_b (vs := [.string s]) (by simp [evL, hx]) fun w _ cs => by simp [builtin, Builtin.len_, run_underlying hu.h, goInt]

/-! operations that change memory -/

/-- an operation that gives a value and a new part of memory -/
theorem s_new {o : Oper} {σ : Type} (val : σ → Value) (lx : σ → SH) (φ : σ → Prop)
    (hop : ∀ c, o.op ≠ .defer c)
    (hr : ∀ a w, Fr n F D a → St W Bo w l → ∃ x w', φ x ∧ (execOp a.eval o).run P w = .ok (.value (val x)) w' ∧ St W Bo w' (lx x))
    (hd : o.dst = some dd := by rfl) (hn : Nat.blt dd n = true := by rfl) (hg : Wn ops F o.guard)
    (h : ∀ x, φ x → LP r P n D W Bo ops Q rest ((dd, val x) :: F) (lx x)) : LP r P n D W Bo ops Q (o :: rest) F l := by
  intro a w ha hw
  obtain ⟨x, w', hx, hrun, hw'⟩ := hr a w ha hw
  refine wpListIn_of (hg.wanted rfl ha) ?_
  refine ⟨fun f _ => trivial, ?_⟩
  rw [semAt_eq _ hop, hrun]
  simp only [Oper.uponIn, hd]
  exact h x hx _ _ (ha.put dd _ hn) hw'

/-- one without a value -/
theorem s_unit {o : Oper} (hop : ∀ c, o.op ≠ .defer c)
    (hr : ∀ a w, Fr n F D a → St W Bo w l → ∃ w', (execOp a.eval o).run P w = .ok .skip w' ∧ St W Bo w' l')
    (hd : o.dst = none := by rfl) (hg : Wn ops F o.guard)
    (h : LP r P n D W Bo ops Q rest F l') : LP r P n D W Bo ops Q (o :: rest) F l := by
  intro a w ha hw
  obtain ⟨w', hrun, hw'⟩ := hr a w ha hw
  refine wpListIn_of (hg.wanted rfl ha) ?_
  refine ⟨fun f _ => trivial, ?_⟩
  rw [semAt_eq _ hop, hrun]
  simp only [Oper.uponIn, hd]
  exact h _ _ (ha.put_none _) hw'

/-- a new variable -/
theorem s_alloc {z : Value} [hz : HZ P e z]
    (h : ∀ b, LP r P n D W Bo ops Q rest ((dd, .pointer (some ⟨b, 0, none⟩)) :: F) (.blk b (.cells z.cells e) :: l)) (hn : Nat.blt dd n = true := by rfl) (hg : Wn ops F g := by first | exact .none | exact .some rfl rfl) : LP r P n D W Bo ops Q (⟨some dd, .alloc e, ty, ps, af, g⟩ :: rest) F l :=
  s_new (fun b : Nat => .pointer (some ⟨b, 0, none⟩)) (fun b => .blk b (.cells z.cells e) :: l) (fun _ => True) (by simp)
    (fun a w _ hw => ⟨w.heap.size, w.alloc (.cells z.cells e), trivial, by
      simp only [execOp, Instr.alloc, Sem.run_bind, hz.h, Result.andThen_ok, newVar, newRow, run_newObj, Sem.run_pure, World.alloc_eq], hw.alloc _⟩)
    (hn := hn) (hg := hg) (h := fun b _ => h b)

/-- a new variable with a value -/
theorem s_box (hx : evO F x = some v)
    (h : ∀ b, LP r P n D W Bo ops Q rest ((dd, .pointer (some ⟨b, 0, none⟩)) :: F) (.blk b (.cells v.cells e) :: l)) (hn : Nat.blt dd n = true := by rfl) (hg : Wn ops F g := by first | exact .none | exact .some rfl rfl) : LP r P n D W Bo ops Q (⟨some dd, .box e x, ty, ps, af, g⟩ :: rest) F l :=
  s_new (fun b : Nat => .pointer (some ⟨b, 0, none⟩)) (fun b => .blk b (.cells v.cells e) :: l) (fun _ => True) (by simp)
    (fun a w ha hw => ⟨w.heap.size, w.alloc (.cells v.cells e), trivial, by
      simp only [execOp, ha.eval hx, Instr.box, Sem.run_bind, Result.andThen_ok, newVar, newRow, run_newObj, Sem.run_pure, World.alloc_eq], hw.alloc _⟩)
    (hn := hn) (hg := hg) (h := fun b _ => h b)

theorem setRow_os (w : World) (g : Nat) (cs : Array Value) : (w.setRow g cs).os = w.os ∧ (w.setRow g cs).tape = w.tape ∧ (w.setRow g cs).output = w.output := ⟨rfl, rfl, rfl⟩
theorem setRow_other (w : World) (g : Nat) (cs : Array Value) (k : Nat) (h : k ≠ g) : (w.setRow g cs).heap[k]? = w.heap[k]? := by
  simp only [World.setRow, Array.getElem?_modify]
  rw [if_neg (fun e => h e.symm)]

theorem St.setRow {w : World} (hw : St W Bo w l) {b : Nat} {cs cs' : Array Value} {t : TypeId} (hr : Rep (.blk b (.cells cs t (0, 0))) (.blk b (.cells cs' t (0, 0))) l l') : St W Bo (w.setRow b cs') l' :=
  hw.change hr rfl rfl rfl (by simp) (fun k _ hk => setRow_other w b cs' k (fun e => hk (by rw [e]; rfl)))
    (setRow_heap w b cs cs' t (0, 0) (hw.own _ hr.mem).1) (fun k hk => .inl hk)

/-- store of one cell into a known block -/
theorem s_st {s by' : Nat} [hs : HS P t s by'] {b off : Nat} {cs : Array Value} {et : TypeId} (h : LP r P n D W Bo ops Q rest F l')
    (hx : evO F x = some (.pointer (some ⟨b, off, none⟩)) := by rfl) (hv : evO F y = some v := by rfl)
    (hr : Rep (.blk b (.cells cs et (0, 0))) (.blk b (.cells (cs.setIfInBounds off v) et (0, 0))) l l' := by repeat (first | exact .head _ | apply Rep.tail)) (hl : off < cs.size := by first | decide | (simp; omega)) (h1 : v.oneCell' = true := by rfl) (hs1 : s = 1 := by rfl) (hg : Wn ops F g := by first | exact .none | exact .some rfl rfl) : LP r P n D W Bo ops Q (⟨none, .store t x y, ty, ps, af, g⟩ :: rest) F l := by
  refine s_unit (by simp) (fun a w ha hw => ⟨w.setRow b (cs.setIfInBounds off v), ?_, hw.setRow hr⟩) (hg := hg) (h := h)
  have hg := (hw.own _ hr.mem).1
  have hc : v.cells = #[v] := by cases v <;> first | rfl | simp [Value.oneCell'] at h1
  have h2 := run_storeCells_at P b off et [v] 0 cs w hg (by simp; omega) (by simpa using h1)
  have e1 : (cs.toList.take (off + 0) ++ [v] ++ cs.toList.drop (off + 0 + [v].length)).toArray = cs.setIfInBounds off v := by
    apply Array.ext'
    simp [List.set_eq_take_append_cons_drop, hl]
  rw [e1] at h2
  simp only [execOp, ha.eval hx, ha.eval hv, Instr.storeAt, Instr.sureAddr, storeVar, Sem.run_bind, Sem.run_pure, Result.andThen_ok, run_sizeOf' hs, hc]
  rw [if_neg (by simp [hs1])]
  rw [h2]
  rfl

/-- store of a whole struct or array into a block of its own -/
theorem s_sta {s by' : Nat} [hs : HS P t s by'] {b : Nat} {cs vs : Array Value} {et : TypeId} (h : LP r P n D W Bo ops Q rest F l')
    (hx : evO F x = some (.pointer (some ⟨b, 0, none⟩)) := by rfl) (hv : evO F y = some (.agg vs) := by rfl)
    (hr : Rep (.blk b (.cells cs et (0, 0))) (.blk b (.cells vs et (0, 0))) l l' := by repeat (first | exact .head _ | apply Rep.tail)) (hl : vs.size = cs.size := by first | rfl | (simp; done)) (h1 : ∀ u ∈ vs.toList, u.oneCell' = true := by first | decide | simp) (hs1 : vs.size = s := by first | rfl | (simp; done)) (hg : Wn ops F g := by first | exact .none | exact .some rfl rfl) : LP r P n D W Bo ops Q (⟨none, .store t x y, ty, ps, af, g⟩ :: rest) F l := by
  refine s_unit (by simp) (fun a w ha hw => ⟨w.setRow b vs, ?_, hw.setRow hr⟩) (hg := hg) (h := h)
  have hg := (hw.own _ hr.mem).1
  have h2 := run_storeCells_at P b 0 et vs.toList 0 cs w hg (by simp; omega) h1
  have e1 : (cs.toList.take (0 + 0) ++ vs.toList ++ cs.toList.drop (0 + 0 + vs.toList.length)).toArray = vs := by
    apply Array.ext'
    simp; omega
  rw [e1] at h2
  simp only [execOp, ha.eval hx, ha.eval hv, Instr.storeAt, Instr.sureAddr, storeVar, Sem.run_bind, Sem.run_pure, Result.andThen_ok, run_sizeOf' hs, Value.cells]
  rw [if_neg (by simp [hs1])]
  rw [h2]
  rfl

end
end Eng
/- Slices that grow, are made and copied; calls; the ends of a function. -/
namespace Eng
open Go Go.RowKit

/-- what append adds, as cells -/
def Src (P : Program) (w : World) (s : Nat) (x : Value) (m : Nat) (ys : List Value) : Prop :=
  (Builtin.lenOf x).run P w = .ok m w ∧ (Builtin.firstCells s m x).run P w = .ok ys.toArray w ∧ ys.length = m * s

theorem Src.slice {P : Program} {w : World} {s : Nat} {a : Option Addr} {m c : Nat} {ys : List Value} (h : Rd w a ys) (hl : ys.length = m * s) : Src P w s (.slice a m c) m ys := by
  refine ⟨rfl, ?_, hl⟩
  cases ha : a with
  | none =>
    rcases h with rfl | ⟨b, off, cs, t, fz, e, _⟩
    · simp [Builtin.firstCells]
    · rw [ha] at e; cases e
  | some ad' =>
    simp only [Builtin.firstCells]
    rw [← hl]
    refine run_loadCells' (fun j v hv => ?_)
    have h1 := h.cell hv
    rw [ha] at h1
    have e := Option.some.inj h1.1
    rw [e, ad_add, Nat.zero_add]
    exact h1.2

theorem Src.string {P : Program} {w : World} {b : ByteArray} : Src P w 1 (.string b) b.size (b.data.toList.map B) := by
  refine ⟨rfl, ?_, by simp⟩
  simp only [Builtin.firstCells, Sem.run_pure]
  congr 1
  apply Array.ext'
  simp only [Array.toList_map, ByteArray.data_extract, Array.toList_extract, List.extract_eq_take_drop]
  rw [List.drop_zero, List.take_of_length_le (by simp)]

theorem run_app {P : Program} {t u ty e : TypeId} {ud : TypeDesc} {s by' : Nat} {z : Value} {w : World} (ht : P.underlying t = some (.slice e)) (hu : P.underlying u = some ud) (hud : (∃ e', ud = .slice e') ∨ ud = .string)
    (hs : HS P e s by') (hz : HZ P e z) (hzs : z.cells.size = s) {a : Option Addr} {n c m : Nat} {xs ys : List Value} {x : Value}
    (hrow : (Res.row a c e s n xs).holds w) (hx : Src P w s x m ys) (hxd : Src P w.drew s x m ys) (h1 : ∀ v ∈ ys, v.oneCell' = true) (hfit : n + m ≤ maxLen) (hby : (n + m) * by' ≤ 140737488355328) :
    ∃ a' c' w', (Builtin.append_ #[t, u] ty #[.slice a n c, x]).run P w = .ok (.slice a' (n + m) c') w' ∧ (Res.row a' c' e s (n + m) (xs ++ ys)).holds w' ∧
      w'.os = w.os ∧ w'.tape = w.tape ∧ w'.output = w.output ∧ w.heap.size ≤ w'.heap.size ∧
      (∀ k, k < w.heap.size → (Res.row a c e s n xs).key ≠ some k → w'.heap[k]? = w.heap[k]?) ∧
      (∀ k, (Res.row a' c' e s (n + m) (xs ++ ys)).key = some k → (Res.row a c e s n xs).key = some k ∨ w.heap.size ≤ k) ∧ (a' = none → a = none ∧ m = 0) := by
  obtain ⟨i, hi, hsz, hbz⟩ := hs.h
  obtain ⟨hxl, hnc, hown⟩ := hrow
  have hsrcl := hx.2.2
  by_cases hroom : n + m ≤ c
  · rcases hown with ⟨rfl, rfl⟩ | ⟨g, cur, rfl, hg, hcm, hcs, htake⟩
    · have hn : n = 0 := by omega
      have hm : m = 0 := by omega
      subst hn; subst hm
      refine ⟨none, 0, w, ?_, ⟨by simp [hxl, hsrcl], by simp, .inl ⟨rfl, rfl⟩⟩, rfl, rfl, rfl, Nat.le_refl _, fun _ _ _ => rfl, fun k hk => .inl hk, fun _ => ⟨rfl, rfl⟩⟩
      rcases hud with ⟨e', rfl⟩ | rfl <;> simp [Builtin.append_, run_underlying ht, run_underlying hu, Go.sizeOf, typeInfo, hi, hx.1, hsz, hx.2.1]
    · have hfits : n * s + ys.length ≤ cur.size := by rw [hsrcl, hcs, ← Nat.add_mul]; exact Nat.mul_le_mul_right _ hroom
      have hst := run_storeCells_at P g (n * s) e ys 0 cur w hg (by simpa using hfits) h1
      simp only [Nat.add_zero] at hst
      have hxl' : xs.length = n * s := hxl
      refine ⟨some ⟨g, 0, none⟩, c, w.setRow g (cur.toList.take (n * s) ++ ys ++ cur.toList.drop (n * s + ys.length)).toArray, ?_, ⟨by simp [hxl, hsrcl, Nat.add_mul], by omega, .inr ⟨g, _, rfl, setRow_heap w g cur _ e (0, 0) hg, hcm, ?_, ?_⟩⟩, rfl, rfl, rfl, by simp, ?_, fun k hk => .inl hk, fun h => by cases h⟩
      · rcases hud with ⟨e', rfl⟩ | rfl <;> simp [Builtin.append_, run_underlying ht, run_underlying hu, Go.sizeOf, typeInfo, hi, hx.1, hsz, hx.2.1, hroom, addr_add, hst]
      · simp only [List.size_toArray, List.length_append, List.length_take, List.length_drop, Array.length_toList]
        rw [Nat.min_eq_left (by omega)]; omega
      · rw [htake, List.toList_toArray, List.take_append_of_le_length (by simp [hxl, hsrcl, Nat.add_mul]), List.take_of_length_le (by simp [hxl, hsrcl, Nat.add_mul])]
      · intro k _ hk
        exact setRow_other w g _ k (fun e' => hk (by rw [e']; rfl))
  · have h63' : ¬ (9223372036854775807 < ((n : Int) + (m : Int))) := by simp only [maxLen] at hfit; omega
    have hns : Builtin.nextslicecap (n + m) c * i.bytes ≤ 281474976710656 := growslice_fits (by omega) (by rw [hbz]; exact hby)
    have h48' : ¬ (281474976710656 < Builtin.nextslicecap (n + m) c * i.bytes) := by omega
    have hold : (Builtin.firstCells s n (.slice a n c)).run P w.drew = .ok xs.toArray w.drew := by
      have hrd : Rd w.drew a xs := by
        refine Rd.congr (w := w) (Res.rd (c := c) (e := e) (s := s) (n := n) ⟨hxl, hnc, hown⟩) (fun b _ => rfl)
      exact (Src.slice hrd hxl).2.1
    have hge := grownCap_ge w (n + m) c e
    have hcm : grownCap w (n + m) c e ≤ maxLen := grownCap_le_maxLen w (n + m) c e hfit
    refine ⟨some ⟨w.heap.size, 0, none⟩, grownCap w (n + m) c e, w.drew.alloc (.cells (xs.toArray ++ ys.toArray ++ Builtin.zeroCells z.cells (grownCap w (n + m) c e - (n + m))) e), ?_, ⟨by simp [hxl, hsrcl, Nat.add_mul], hge, .inr ⟨w.heap.size, _, rfl, heap_alloc_new w.drew _, hcm, ?_, ?_⟩⟩, rfl, rfl, rfl, by simp, fun k hk _ => Below.heap_alloc w.drew _ k hk, fun k hk => by simp [Res.key] at hk; omega, fun h => by cases h⟩
    · have hzz := hz.h w.drew
      have hni : ¬ (n + m ≤ c) := hroom
      rcases hud with ⟨e', rfl⟩ | rfl <;> simp [Builtin.append_, run_underlying ht, run_underlying hu, Go.sizeOf, typeInfo, hi, hx.1, hsz, hni, h63', h48', Question.forced, hold, hxd.2.1, hzz, newRow, grownCap] <;> (congr 2; apply Array.ext'; simp)
    · simp only [Array.size_append, List.size_toArray, size_zeroCells, hzs, hxl, hsrcl, ← Nat.add_mul]
      congr 1; omega
    · simp only [Array.toList_append]
      rw [List.take_append_of_le_length (by simp [hxl, hsrcl, Nat.add_mul]), List.take_of_length_le (by simp [hxl, hsrcl, Nat.add_mul])]

end Eng
/- What the walk does with slices that grow, with calls, and at the ends of a function. -/
namespace Eng
open Go Go.RowKit

class HF (P : Program) (k : FuncId) : Prop where
  h : ∃ fn c, P.funcs[k]? = some fn ∧ fn.body = some c ∧ (fn.name == "runtime.NumGoroutine") = false

/-- the parts of a literal -/
def evP (F : List (Nat × Value)) : List (Nat × Operand) → Option (List (Nat × Value))
  | [] => some []
  | (i, x) :: xs => match evO F x, evP F xs with
    | some v, some vs => some ((i, v) :: vs)
    | _, _ => none

theorem evP_eval {F : List (Nat × Value)} {n : Nat} {D : List Deferred} {a : Act} (ha : Fr n F D a) : ∀ {xs : List (Nat × Operand)} {vs : List (Nat × Value)}, evP F xs = some vs → xs.map (fun (i, x) => (i, a.eval x)) = vs
  | [], vs, h => by simp [evP] at h; subst h; rfl
  | (i, x) :: xs, vs, h => by
    unfold evP at h
    cases h1 : evO F x with
    | none => simp [h1] at h
    | some v =>
      cases h2 : evP F xs with
      | none => simp [h1, h2] at h
      | some us =>
        simp [h1, h2] at h; subst h
        simp only [List.map_cons, ha.eval h1, evP_eval ha h2]

section
variable {r : Option Nat} {P : Program} {n : Nat} {D : List Deferred} {W : World} {Bo : List Nat} {F : List (Nat × Value)} {l l' : SH}
  {d : Option Tmp} {dd : Nat} {ty : TypeId} {ps : String} {af : Array Edge} {g : Option (Nat × Bool)} {x y z : Operand} {v u : Value} {ta tb t e : TypeId}
  {Q : Exit → Act → World → Prop} {ops : Array Oper} {rest : List Oper} {td : TypeDesc} {c : Code}

/-- a nil slice owns no memory -/
theorem St.nilRow {w : World} (hw : St W Bo w l) (e : TypeId) (s : Nat) : St W Bo w (.row none 0 e s 0 [] :: l) :=
  hw.add (Below.refl _ _) ⟨by simp, by simp, .inl ⟨rfl, rfl⟩⟩ (fun k hk => by simp [Res.key] at hk)

theorem s_nilrow (e : TypeId) (s : Nat) (h : LP r P n D W Bo ops Q rest F (.row none 0 e s 0 [] :: l)) : LP r P n D W Bo ops Q rest F l := fun a w ha hw => h a w ha (hw.nilRow e s)
theorem c_nilrow (e : TypeId) (s : Nat) (h : CP r P n D W Bo c Q F (.row none 0 e s 0 [] :: l)) : CP r P n D W Bo c Q F l := fun a w ha hw => h a w ha (hw.nilRow e s)

/-- a block as a slice that owns it -/
theorem St.toRow {w : World} (hw : St W Bo w l) {b : Nat} {cs : Array Value} {e : TypeId} {s m : Nat} (hs : cs.size = m * s) (hm : m ≤ maxLen) (hr : Rep (.blk b (.cells cs e (0, 0))) (.row (some ⟨b, 0, none⟩) m e s m cs.toList) l l') : St W Bo w l' :=
  hw.change hr rfl rfl rfl (Nat.le_refl _) (fun _ _ _ => rfl)
    ⟨by simpa using hs, Nat.le_refl _, .inr ⟨b, cs, rfl, (hw.own _ hr.mem).1, hm, hs, by rw [← hs]; exact List.take_of_length_le (by simp)⟩⟩ (fun k hk => .inl hk)

theorem s_torow {b : Nat} {cs : Array Value} {e : TypeId} {s m : Nat} (hr : Rep (.blk b (.cells cs e (0, 0))) (.row (some ⟨b, 0, none⟩) m e s m cs.toList) l l') (hs : cs.size = m * s) (hm : m ≤ maxLen)
    (h : LP r P n D W Bo ops Q rest F l') : LP r P n D W Bo ops Q rest F l := fun a w ha hw => h a w ha (hw.toRow hs hm hr)
theorem c_torow {b : Nat} {cs : Array Value} {e : TypeId} {s m : Nat} (hr : Rep (.blk b (.cells cs e (0, 0))) (.row (some ⟨b, 0, none⟩) m e s m cs.toList) l l') (hs : cs.size = m * s) (hm : m ≤ maxLen)
    (h : CP r P n D W Bo c Q F l') : CP r P n D W Bo c Q F l := fun a w ha hw => h a w ha (hw.toRow hs hm hr)

/-- append: the slice owns its memory -/
theorem s_app [ht : HU P ta (.slice e)] [hu : HU P tb td] {s by' : Nat} [hs : HS P e s by'] {zz : Value} [hz : HZ P e zz] {a : Option Addr} {k cc m : Nat} {xs ys : List Value} {sv : Value}
    {l'' : Option Addr → Nat → SH} (hsrc : ∀ w, St W Bo w l → Src P w s sv m ys)
    (h : ∀ a' c', (a' = none → a = none ∧ m = 0) → LP r P n D W Bo ops Q rest ((dd, .slice a' (k + m) c') :: F) (l'' a' c'))
    (hx : evO F x = some (.slice a k cc) := by rfl) (hy : evO F y = some sv := by rfl)
    (hm : Res.row a cc e s k xs ∈ l := by repeat (first | exact .head _ | apply List.Mem.tail)) (hrep : ∀ a' c', Rep (.row a cc e s k xs) (.row a' c' e s (k + m) (xs ++ ys)) l (l'' a' c') := by intro _ _; repeat (first | exact .head _ | apply Rep.tail))
    (h1 : ∀ v ∈ ys, v.oneCell' = true := by first | decide | (simp [bs, is]; done)) (hfit : k + m ≤ maxLen := by (unfold maxLen; omega)) (hby : (k + m) * by' ≤ 140737488355328 := by omega)
    (hud : (∃ e', td = .slice e') ∨ td = .string := by first | exact .inl ⟨_, rfl⟩ | exact .inr rfl) (hzs : zz.cells.size = s := by rfl) (hn : Nat.blt dd n = true := by rfl) (hg : Wn ops F g := by first | exact .none | exact .some rfl rfl) :
    LP r P n D W Bo ops Q (⟨some dd, .call ⟨.builtin .append, #[x, y], #[ta, tb]⟩, ty, ps, af, g⟩ :: rest) F l := by
  refine s_new (σ := Option Addr × Nat) (fun p => .slice p.1 (k + m) p.2) (fun p => l'' p.1 p.2) (fun p => p.1 = none → a = none ∧ m = 0) (by simp) ?_ (hn := hn) (hg := hg) (h := fun p hp => h p.1 p.2 hp)
  intro ac w ha hw
  obtain ⟨a', c', w', hrun, hrow, h2, h3, h4, h5, h6, h7, h8⟩ := run_app (ty := ty) ht.h hu.h hud hs hz hzs (hw.own _ hm).1 (hsrc w hw) (hsrc w.drew hw.drew) h1 hfit hby
  refine ⟨(a', c'), w', h8, ?_, hw.change (hrep a' c') h2 h3 h4 h5 h6 hrow h7⟩
  have e1 : #[x, y].map ac.eval = #[.slice a k cc, sv] := by simp [ha.eval hx, ha.eval hy]
  simp only [execOp, resolve, e1, Sem.run_bind, Sem.run_pure, Result.andThen_ok, invoke, builtin, hrun]

/-- a slice that is written out -/
theorem s_bsl [ht : HU P t (.slice e)] {s by' : Nat} [hs : HS P e s by'] {zz : Value} [hz : HZ P e zz] {m : Nat} {parts : Array (Nat × Operand)} {vs : List (Nat × Value)} {cs : Array Value}
    (h : ∀ b, LP r P n D W Bo ops Q rest ((dd, .slice (some ⟨b, 0, none⟩) m m) :: F) (.blk b (.cells cs e) :: l))
    (hp : evP F parts.toList = some vs := by rfl)
    (hf : Instr.fill (fun i => some (i * s, s)) ((Array.range (m * s)).map (zz.cells[· % zz.cells.size]!)) vs = some cs := by rfl)
    (hm : 0 < m * s := by decide) (hm2 : m * s ≤ 16777216 := by decide) (hn : Nat.blt dd n = true := by rfl) (hg : Wn ops F g := by first | exact .none | exact .some rfl rfl) :
    LP r P n D W Bo ops Q (⟨some dd, .buildSlice t m parts, ty, ps, af, g⟩ :: rest) F l :=
  s_new (fun b : Nat => .slice (some ⟨b, 0, none⟩) m m) (fun b => .blk b (.cells cs e) :: l) (fun _ => True) (by simp)
    (fun a w ha hw => ⟨w.heap.size, w.alloc (.cells cs e), trivial, by
      have e1 : (parts.map fun (i, x) => (i, a.eval x)).toList = vs := by
        rw [Array.toList_map]
        exact evP_eval ha hp
      have e2 : ¬ (m * s > 2 ^ 24) := by omega
      have e3 : ¬ (m * s = 0) := by omega
      simp only [execOp, Instr.buildSlice, Sem.run_bind, run_underlying ht.h, Result.andThen_ok, run_sizeOf' hs, e2, if_false, e3, hz.h, Sem.run_pure, e1, hf, newRow, run_newObj, World.alloc_eq], hw.alloc _⟩)
    (hn := hn) (hg := hg) (h := fun b _ => h b)

/-- make -/
theorem s_mks [ht : HU P t (.slice e)] {s by' : Nat} [hs : HS P e s by'] {zz : Value} [hz : HZ P e zz] {kl kc : IntKind} {i j : Int}
    (h : ∀ b, LP r P n D W Bo ops Q rest ((dd, .slice (some ⟨b, 0, none⟩) i.toNat j.toNat) :: F) (.blk b (.cells (madeCells zz.cells (j.toNat * s)) e) :: l))
    (hx : evO F x = some (.int kl i) := by rfl) (hy : evO F y = some (.int kc j) := by rfl)
    (h0 : 0 ≤ i := by omega) (h1 : i ≤ j := by omega) (h2 : (by' : Int) * j ≤ 281474976710656 := by omega) (h3 : j ≤ 9223372036854775807 := by omega) (hn : Nat.blt dd n = true := by rfl) (hg : Wn ops F g := by first | exact .none | exact .some rfl rfl) :
    LP r P n D W Bo ops Q (⟨some dd, .makeSlice t x y, ty, ps, af, g⟩ :: rest) F l :=
  s_new (fun b : Nat => .slice (some ⟨b, 0, none⟩) i.toNat j.toNat) (fun b => .blk b (.cells (madeCells zz.cells (j.toNat * s)) e) :: l) (fun _ => True) (by simp)
    (fun a w ha hw => ⟨w.heap.size, w.alloc (.cells (madeCells zz.cells (j.toNat * s)) e), trivial, by
      obtain ⟨inf, hi, hsz, hbz⟩ := hs.h
      have hzz : inf.zero = some zz := by
        have := hz.h w
        simp only [zeroValue, typeInfo, Sem.run_bind, run_program, Result.andThen_ok, hi, Sem.run_pure] at this
        cases hq : inf.zero with
        | none => rw [hq] at this; simp at this
        | some q => rw [hq] at this; simp at this; rw [this]
      have := run_make (P := P) w t e inf zz ht.h hi hzz kl kc i j h0 h1 (by rw [hbz]; exact h2) h3
      rw [hsz] at this
      simp only [execOp, ha.eval hx, ha.eval hy, Sem.run_bind, this, Result.andThen_ok, Sem.run_pure], hw.alloc _⟩)
    (hn := hn) (hg := hg) (h := fun b _ => h b)

/-- copy into a known block -/
theorem s_cpy [ht : HU P ta (.slice e)] {s by' : Nat} [hs : HS P e s by'] {b off m c : Nat} {cs : Array Value} {et : TypeId} {sv : Value} {q : Nat} {ys : List Value}
    (hx : evO F x = some (.slice (some ⟨b, off, none⟩) m c)) (hy : evO F y = some sv) (hq : ∀ w, St W Bo w l → (Builtin.lenOf sv).run P w = .ok q w)
    (hsrc : ∀ w, St W Bo w l → (Builtin.firstCells s (Nat.min q m) sv).run P w = .ok ys.toArray w)
    (hrep : Rep (.blk b (.cells cs et (0, 0))) (.blk b (.cells (cs.toList.take off ++ ys ++ cs.toList.drop (off + ys.length)).toArray et (0, 0))) l l')
    (h1 : ∀ v ∈ ys, v.oneCell' = true) (hfit : off + ys.length ≤ cs.size)
    (h : LP r P n D W Bo ops Q rest ((dd, I (Nat.min q m : Nat)) :: F) l') (hn : Nat.blt dd n = true := by rfl) (hg : Wn ops F g := by first | exact .none | exact .some rfl rfl) :
    LP r P n D W Bo ops Q (⟨some dd, .call ⟨.builtin .copy, #[x, y], #[ta, tb]⟩, ty, ps, af, g⟩ :: rest) F l :=
  s_new (fun _ : Unit => I (Nat.min q m : Nat)) (fun _ => l') (fun _ => True) (by simp)
    (fun a w ha hw => ⟨(), w.setRow b (cs.toList.take off ++ ys ++ cs.toList.drop (off + ys.length)).toArray, trivial, by
      have e1 : #[x, y].map a.eval = #[.slice (some ⟨b, off, none⟩) m c, sv] := by simp [ha.eval hx, ha.eval hy]
      have hst := run_storeCells_at P b off et ys 0 cs w (hw.own _ hrep.mem).1 (by simpa using hfit) h1
      simp only [Nat.add_zero] at hst
      have hrun : (Builtin.copy_ #[ta, tb] ty #[.slice (some ⟨b, off, none⟩) m c, sv]).run P w = .ok (I (Nat.min q m : Nat)) (w.setRow b (cs.toList.take off ++ ys ++ cs.toList.drop (off + ys.length)).toArray) := by
        simp [Builtin.copy_, run_underlying ht.h, run_sizeOf' hs, hq w hw, hsrc w hw, hst, goInt]
      simp only [execOp, resolve, e1, Sem.run_bind, Sem.run_pure, Result.andThen_ok, invoke, builtin, hrun], hw.setRow hrep⟩)
    (hn := hn) (hg := hg) (h := fun _ _ => h)

/-! calls -/

theorem run_call {k : FuncId} [hf : HF P k] {fo : Operand} {fs cs vs : List Value} {as : Array Operand} {ts : Array TypeId} (hfo : evO F fo = some (.func (.func k) fs.toArray cs.toArray)) (hargs : evL F as.toList = some vs)
    {a : Act} {w : World} (ha : Fr n F D a) : (execOp a.eval ⟨d, .call ⟨.value fo, as, ts⟩, ty, ps, af, g⟩).run P w = .ok (.enter k (fs ++ vs ++ cs).toArray) w := by
  obtain ⟨fn, c, h1, h2, h3⟩ := hf.h
  have e : (callFunc k (fs ++ vs ++ cs).toArray).run P w = .ok (.enter k (fs ++ vs ++ cs).toArray) w := by
    have h4 : fn.name ≠ "runtime.NumGoroutine" := by simpa using h3
    simp [callFunc, h1, h4, h2]
  simp only [execOp, resolve, ha.eval hfo, evs ha hargs, Deferred.ofValue, Sem.run_bind, Sem.run_pure, Result.andThen_ok, invoke]
  simpa using e

/-- what a call gives: a value and parts of memory, both functions of something -/
def Gives (P : Program) (k : FuncId) (args : List Value) (w : World) (bo : List Nat) {σ : Type} (val : σ → Value) (lx : σ → SH) (φ : σ → Prop) : Prop :=
  Calls P k args.toArray w fun e w' => ∃ x, φ x ∧ e = .returned (val x) ∧ St w bo w' (lx x)

/-- a call that gives a value, and changes nothing -/
def Pure (P : Program) (k : FuncId) (args : List Value) (w : World) (v : Value) : Prop :=
  Calls P k args.toArray w fun e w' => e = .returned v ∧ St w [] w' []

theorem callsFw {k : FuncId} {args : Array Value} {w : World} {R : Ending → World → Prop} (h : Calls P k args w R) : CallsIn (Fw r) 0 P k args w R := by
  have h1 : CallsIn Fence.wide 0 P k args w R := callsIn_wide.2 h
  cases r with
  | none => exact h1
  | some l => exact CallsIn.inRound l h1

theorem s_calls {k : FuncId} [hf : HF P k] {fo : Operand} {fs cs vs : List Value} {as : Array Operand} {ts : Array TypeId} {σ : Type} (val : σ → Value) (lx : σ → SH) (φ : σ → Prop)
    (hfo : evO F fo = some (.func (.func k) fs.toArray cs.toArray)) (hargs : evL F as.toList = some vs)
    (hc : ∀ w, St W Bo w l → Calls P k (fs ++ vs ++ cs).toArray w fun e w' => ∃ x, φ x ∧ e = .returned (val x) ∧ St W Bo w' (lx x))
    (h : ∀ x, φ x → LP r P n D W Bo ops Q rest ((dd, val x) :: F) (lx x)) (hn : Nat.blt dd n = true := by rfl) (hg : Wn ops F g := by first | exact .none | exact .some rfl rfl) :
    LP r P n D W Bo ops Q (⟨some dd, .call ⟨.value fo, as, ts⟩, ty, ps, af, g⟩ :: rest) F l := by
  intro a w ha hw
  refine wpListIn_of (hg.wanted rfl ha) ?_
  refine ⟨fun f _ => trivial, ?_⟩
  rw [semAt_eq _ (by simp), run_call hfo hargs ha]
  refine ⟨by simp [Fw, Fence.wide], callsFw ((hc w hw).mono ?_)⟩
  rintro e w' ⟨x, hx, rfl, hw'⟩
  exact h x hx _ _ (ha.put dd _ hn) hw'

/-- a call that gives a value alone -/
theorem s_pure {k : FuncId} [hf : HF P k] {fo : Operand} {fs cs vs args : List Value} {as : Array Operand} {ts : Array TypeId}
    (hc : ∀ w, St W Bo w l → Pure P k args w v)
    (h : LP r P n D W Bo ops Q rest ((dd, v) :: F) l)
    (hfo : evO F fo = some (.func (.func k) fs.toArray cs.toArray) := by rfl) (hargs : evL F as.toList = some vs := by rfl) (hap : args = fs ++ vs ++ cs := by rfl) (hn : Nat.blt dd n = true := by rfl) (hg : Wn ops F g := by first | exact .none | exact .some rfl rfl) :
    LP r P n D W Bo ops Q (⟨some dd, .call ⟨.value fo, as, ts⟩, ty, ps, af, g⟩ :: rest) F l :=
  s_calls (σ := Unit) (fun _ => v) (fun _ => l) (fun _ => True) hfo hargs
    (fun w hw => (hap ▸ hc w hw : Pure P k (fs ++ vs ++ cs) w v).mono fun _ _ ⟨he, hw'⟩ => ⟨(), trivial, he, (hw.trans hw').sub (by simp)⟩) (fun _ _ => h) hn hg

/-- a call that makes parts of memory -/
theorem s_gives {k : FuncId} [hf : HF P k] {fo : Operand} {fs cs vs args : List Value} {as : Array Operand} {ts : Array TypeId} {σ : Type} {val : σ → Value} {lx : σ → SH} {φ : σ → Prop}
    (hc : ∀ w, St W Bo w l → Gives P k args w [] val lx φ)
    (h : ∀ x, φ x → LP r P n D W Bo ops Q rest ((dd, val x) :: F) (lx x ++ l))
    (hfo : evO F fo = some (.func (.func k) fs.toArray cs.toArray) := by rfl) (hargs : evL F as.toList = some vs := by rfl) (hap : args = fs ++ vs ++ cs := by rfl) (hn : Nat.blt dd n = true := by rfl) (hg : Wn ops F g := by first | exact .none | exact .some rfl rfl) :
    LP r P n D W Bo ops Q (⟨some dd, .call ⟨.value fo, as, ts⟩, ty, ps, af, g⟩ :: rest) F l :=
  s_calls val (fun x => lx x ++ l) φ hfo hargs
    (fun w hw => (hap ▸ hc w hw : Gives P k (fs ++ vs ++ cs) w [] val lx φ).mono fun _ _ ⟨x, hx, he, hw'⟩ => ⟨x, hx, he, hw.trans hw'⟩) h hn hg

/-- a call that changes a block -/
theorem s_chg {k : FuncId} [hf : HF P k] {fo : Operand} {fs cs vs args : List Value} {as : Array Operand} {ts : Array TypeId} {σ : Type} {val : σ → Value} {b : Nat} {o : Obj} {o' : σ → Obj} {lx : σ → SH} {φ : σ → Prop} {l1 : σ → SH}
    (hc : ∀ w, St W Bo w l → Gives P k args w [b] val (fun x => .blk b (o' x) :: lx x) φ)
    (hrep : ∀ x, Rep (.blk b o) (.blk b (o' x)) l (l1 x))
    (h : ∀ x, φ x → LP r P n D W Bo ops Q rest ((dd, val x) :: F) (lx x ++ l1 x))
    (hfo : evO F fo = some (.func (.func k) fs.toArray cs.toArray) := by rfl) (hargs : evL F as.toList = some vs := by rfl) (hap : args = fs ++ vs ++ cs := by rfl) (hn : Nat.blt dd n = true := by rfl) (hg : Wn ops F g := by first | exact .none | exact .some rfl rfl) :
    LP r P n D W Bo ops Q (⟨some dd, .call ⟨.value fo, as, ts⟩, ty, ps, af, g⟩ :: rest) F l :=
  s_calls val (fun x => lx x ++ l1 x) φ hfo hargs
    (fun w hw => (hap ▸ hc w hw : Gives P k (fs ++ vs ++ cs) w [b] val (fun x => .blk b (o' x) :: lx x) φ).mono fun _ _ ⟨x, hx, he, hw'⟩ => ⟨x, hx, he, hw.trans1 (hrep x) hw'⟩) h hn hg

/-! a region whose order is open, and whose operations read or call -/

class HM (P : Program) : Prop where
  h : P.follows .mixedOrders = true

def DP (P : Program) (n : Nat) (D : List Deferred) (W : World) (Bo : List Nat) (ops : Array Oper) (Q : Exit → Act → World → Prop) (rest : List Oper) (F : List (Nat × Value)) (l : SH) : Prop :=
  ∀ a, Fr n F D a → wpQuiet P ops (fun w => St W Bo w l) (fun a' => ∀ w', St W Bo w' l → Q .normal a' w') rest a

theorem c_regd [hm : HM P] {id : Nat} {os : List Oper} (h : DP P n D W Bo os.toArray Q os F l) (hB : Region.lexB .any os.toArray = true := by kernel_rfl) : CP none P n D W Bo (.region id os.toArray true) Q F l := by
  intro a w ha hw
  rw [Fw_none, wpIn_wide]
  exact wp_region_quiet (C := fun w => St W Bo w l) hm.h hB hw.drew (by simpa using h a ha)
theorem d_nil (h : QP n D W Bo Q .normal F l) : DP P n D W Bo ops Q [] F l := fun a ha w hw => h a w ha hw
theorem d_y {op : Op} {v : Value} (hy : Y P n D W Bo ⟨some dd, op, ty, ps, af, g⟩ F l v) (h : DP P n D W Bo ops Q rest ((dd, v) :: F) l) (hn : Nat.blt dd n = true := by rfl) (hg : Wn ops F g := by first | exact .none | exact .some rfl rfl) :
    DP P n D W Bo ops Q (⟨some dd, op, ty, ps, af, g⟩ :: rest) F l := by
  intro a ha
  simp only [wpQuiet]
  rw [if_pos (hg.wanted rfl ha)]
  refine ⟨v, fun w hw => ?_, h _ (ha.put dd v hn)⟩
  unfold Oper.quietAt
  rw [hy.2 a w ha hw]
  exact ⟨rfl, rfl⟩
theorem d_no {op : Op} {j ee : Nat} {b b' : Bool} (h : DP P n D W Bo ops Q rest ((dd, undef) :: F) l) (hn : Nat.blt dd n = true := by rfl)
    (hj : (ops[j]?).bind (·.dst) = some ee := by rfl) (hv : lkO F ee = some (.bool b') := by rfl) (hb : (b' == b) = false := by rfl) : DP P n D W Bo ops Q (⟨some dd, op, ty, ps, af, some (j, b)⟩ :: rest) F l := by
  intro a ha
  simp only [wpQuiet]
  rw [unwanted_of (o := ⟨some dd, op, ty, ps, af, some (j, b)⟩) rfl hj hv hb ha]
  exact h _ (ha.put dd _ hn)
theorem d_nu {op : Op} {j ee : Nat} {b : Bool} (h : DP P n D W Bo ops Q rest ((dd, undef) :: F) l) (hn : Nat.blt dd n = true := by rfl)
    (hj : (ops[j]?).bind (·.dst) = some ee := by rfl) (hv : lkO F ee = some undef := by rfl) : DP P n D W Bo ops Q (⟨some dd, op, ty, ps, af, some (j, b)⟩ :: rest) F l := by
  intro a ha
  simp only [wpQuiet]
  rw [unwanted_of' (o := ⟨some dd, op, ty, ps, af, some (j, b)⟩) rfl hj hv ha]
  exact h _ (ha.put dd _ hn)
theorem d_yt {op : Op} {p : Prop} [dp : Decidable p] (hy : Y P n D W Bo ⟨some dd, op, ty, ps, af, g⟩ F l (.bool (decide p)))
    (h1 : DP P n D W Bo ops Q rest ((dd, .bool true) :: F) l) (hp : p := by omega) (hn : Nat.blt dd n = true := by rfl) (hg : Wn ops F g := by first | exact .none | exact .some rfl rfl) : DP P n D W Bo ops Q (⟨some dd, op, ty, ps, af, g⟩ :: rest) F l :=
  d_y hy (by rw [decide_eq_true hp]; exact h1) hn hg
theorem d_yf {op : Op} {p : Prop} [dp : Decidable p] (hy : Y P n D W Bo ⟨some dd, op, ty, ps, af, g⟩ F l (.bool (decide p)))
    (h1 : DP P n D W Bo ops Q rest ((dd, .bool false) :: F) l) (hp : ¬ p := by omega) (hn : Nat.blt dd n = true := by rfl) (hg : Wn ops F g := by first | exact .none | exact .some rfl rfl) : DP P n D W Bo ops Q (⟨some dd, op, ty, ps, af, g⟩ :: rest) F l :=
  d_y hy (by rw [decide_eq_false hp]; exact h1) hn hg
theorem d_pure {k : FuncId} [hf : HF P k] {fo : Operand} {fs cs vs args : List Value} {as : Array Operand} {ts : Array TypeId}
    (hc : ∀ w, St W Bo w l → Pure P k args w v)
    (h : DP P n D W Bo ops Q rest ((dd, v) :: F) l)
    (hfo : evO F fo = some (.func (.func k) fs.toArray cs.toArray) := by rfl) (hargs : evL F as.toList = some vs := by rfl) (hap : args = fs ++ vs ++ cs := by rfl) (hn : Nat.blt dd n = true := by rfl) (hg : Wn ops F g := by first | exact .none | exact .some rfl rfl) :
    DP P n D W Bo ops Q (⟨some dd, .call ⟨.value fo, as, ts⟩, ty, ps, af, g⟩ :: rest) F l := by
  intro a ha
  simp only [wpQuiet]
  rw [if_pos (hg.wanted rfl ha)]
  refine ⟨v, fun w hw => ?_, h _ (ha.put dd v hn)⟩
  unfold Oper.quietAt
  rw [run_call hfo hargs ha]
  exact ⟨rfl, (hap ▸ hc w hw : Pure P k (fs ++ vs ++ cs) w v).mono fun _ _ ⟨he, hw'⟩ => ⟨he, (hw.trans hw').sub (by simp)⟩⟩

/-! the beginning and the ends of a function -/

def argsF : Nat → List Value → List (Nat × Value)
  | _, [] => []
  | i, v :: vs => (i, v) :: argsF (i + 1) vs

theorem argsF_look : ∀ (vs : List Value) (i t : Nat) (v : Value), lkO (argsF i vs) t = some v → i ≤ t ∧ vs[t - i]? = some v
  | [], _, _, _, h => by simp [argsF, lkO] at h
  | u :: vs, i, t, v, h => by
    unfold argsF lkO at h
    cases hb : Nat.beq i t with
    | true =>
      have e := Nat.eq_of_beq_eq_true hb
      subst e
      rw [hb] at h
      simp only [cond_true] at h
      exact ⟨Nat.le_refl _, by simpa using h⟩
    | false =>
      have e := Nat.ne_of_beq_eq_false hb
      rw [hb] at h
      simp only [cond_false] at h
      have ih := argsF_look vs (i + 1) t v h
      refine ⟨by omega, ?_⟩
      rw [show t - i = (t - (i + 1)) + 1 by omega]
      simpa using ih.2

theorem enter0 {k : FuncId} {fn : Func} {args : List Value} {R : Ending → World → Prop} (hf : P.funcs[k]? = some fn) (hb : fn.body = some c) (hn : fn.ntmps = n) (hle : args.length ≤ n)
    (hw : St W Bo W l) (h : CP none P n [] W Bo c (bodyPost P fn R) (argsF 0 args) l) : Calls P k args.toArray W R := by
  refine calls_of_wp hf hb ?_
  rw [← wpIn_wide (n := 0), ← Fw_none]
  refine h _ W ⟨by simp; omega, rfl, ?_⟩ hw
  intro t v ht
  have := (argsF_look args 0 t v ht).2
  simp only [Nat.sub_zero] at this
  have hlt : t < args.length := by
    rcases Nat.lt_or_ge t args.length with h1 | h1
    · exact h1
    · rw [List.getElem?_eq_none h1] at this; cases this
  rw [Array.getElem?_append_left (by simpa using hlt)]
  simpa using this

theorem enter {k : FuncId} {fn : Func} {args : List Value} {R : Ending → World → Prop} (hf : P.funcs[k]? = some fn) (hn : fn.ntmps = n) (h : CP none P n [] W [] c (bodyPost P fn R) (argsF 0 args) [])
    (hb : fn.body = some c := by rfl) (hle : Nat.ble args.length n = true := by rfl) : Calls P k args.toArray W R :=
  enter0 hf hb hn (Nat.le_of_ble_eq_true hle) (St.refl W) h

theorem St.borrow {b : Nat} {o : Obj} (h : W.heap[b]? = some o) : St W [b] W [.blk b o] :=
  ⟨rfl, rfl, rfl, Nat.le_refl _, fun _ _ _ => rfl, fun p hp => by rw [List.mem_singleton] at hp; subst hp; exact ⟨h, fun k hk => by cases hk; exact .inr (by simp)⟩, by simp [keys, Res.key]⟩

theorem enterB {k : FuncId} {fn : Func} {args : List Value} {R : Ending → World → Prop} {b : Nat} {o : Obj} (hf : P.funcs[k]? = some fn) (hn : fn.ntmps = n) (hbo : W.heap[b]? = some o)
    (h : CP none P n [] W [b] c (bodyPost P fn R) (argsF 0 args) [.blk b o]) (hb : fn.body = some c := by rfl) (hle : Nat.ble args.length n = true := by rfl) : Calls P k args.toArray W R :=
  enter0 hf hb hn (Nat.le_of_ble_eq_true hle) (St.borrow hbo) h

def rvSem (tmps : Array Value) : ResultVar → Sem Value
  | .tmp t => pure (tmps.getD t undef)
  | .cell p t => do loadVar t (← asAddr (tmps.getD p undef))
def outV : List Value → Value
  | [v] => v
  | vs => .tuple vs.toArray

/-- the value of a result -/
def RV (P : Program) (n : Nat) (W : World) (Bo : List Nat) (F : List (Nat × Value)) (l : SH) (rv : ResultVar) (v : Value) : Prop :=
  ∀ a D w, Fr n F D a → St W Bo w l → (rvSem a.tmps rv).run P w = .ok v w

inductive RVs (P : Program) (n : Nat) (W : World) (Bo : List Nat) (F : List (Nat × Value)) (l : SH) : List ResultVar → List Value → Prop
  | nil : RVs P n W Bo F l [] []
  | cons {rv : ResultVar} {v : Value} {rvs : List ResultVar} {vs : List Value} (h : RV P n W Bo F l rv v) (h2 : RVs P n W Bo F l rvs vs) : RVs P n W Bo F l (rv :: rvs) (v :: vs)

theorem rv_t {t : Nat} (h : lkO F t = some v := by rfl) : RV P n W Bo F l (.tmp t) v := fun a D w ha _ => by
  simp only [rvSem, Sem.run_pure, Array.getD_eq_getD_getElem?, ha.slot t v h, Option.getD_some]
theorem rv_c0 {p : Nat} {a : Addr} (h : lkO F p = some (.pointer (some a))) (hl : ∀ w, St W Bo w l → (Instr.loadAt t (.pointer (some a))).run P w = .ok v w) : RV P n W Bo F l (.cell p t) v := fun ac D w ha hw => by
  have h2 := hl w hw
  simp only [Instr.loadAt, Instr.sureAddr, Sem.run_bind, Sem.run_pure, Result.andThen_ok] at h2
  simp only [rvSem, Array.getD_eq_getD_getElem?, ha.slot p _ h, Option.getD_some, asAddr, Sem.run_bind, Sem.run_pure, Result.andThen_ok, h2]
theorem rv_ca [hu : HT P t false] {p b : Nat} {cs : Array Value} {et : TypeId} {fz : Nat × Nat} {s by' : Nat} [hs : HS P t s by'] (h : lkO F p = some (.pointer (some ⟨b, 0, none⟩)) := by rfl)
    (hm : Res.blk b (.cells cs et fz) ∈ l := by repeat (first | exact .head _ | apply List.Mem.tail)) (hl : cs.size = s := by rfl) : RV P n W Bo F l (.cell p t) (.agg cs) :=
  rv_c0 h fun w hw => by
    have := ld_agg (w := w) (a := ⟨b, 0, none⟩) (cs := cs.toList) hu hs (by simpa using hl) (fun j v hv => by
      rw [addr_add, cell_of_row w b _ cs et fz (hw.own _ hm).1]; simpa using hv)
    simpa using this
theorem rv_cf [hu : HT P t true] {p b : Nat} {cs : Array Value} {et : TypeId} {fz : Nat × Nat} (h : lkO F p = some (.pointer (some ⟨b, 0, none⟩)) := by rfl)
    (hm : Res.blk b (.cells cs et fz) ∈ l := by repeat (first | exact .head _ | apply List.Mem.tail)) (hv : cs[0]? = some v := by rfl) : RV P n W Bo F l (.cell p t) v :=
  rv_c0 h fun w hw => ld_flat hu (by rw [cell_of_row w b 0 cs et fz (hw.own _ hm).1]; exact hv)

theorem results_eq (fn : Func) (tmps : Array Value) : results fn tmps = (do let vs ← fn.results.mapM (rvSem tmps); pure (if h : vs.size = 1 then vs[0] else .tuple vs)) := by
  unfold results
  have : (fun rv : ResultVar => match rv with
    | .tmp t => (pure (tmps.getD t undef) : Sem Value)
    | .cell a t => do loadVar t (← asAddr (tmps.getD a undef))) = rvSem tmps := by funext rv; cases rv <;> rfl
  rw [← this]
  rfl

theorem ret_n {fn : Func} {R : Ending → World → Prop} {rvs : List ResultVar} {vs : List Value} (hf : fn.results = rvs.toArray) (h : RVs P n W Bo F l rvs vs) (e : Exit) (he : e = .ret ∨ e = .normal)
    (hR : ∀ w, St W Bo w l → R (.returned (outV vs)) w) : QP n [] W Bo (bodyPost P fn R) e F l := by
  intro a w ha hw
  have hm : (rvs.mapM (rvSem a.tmps)).run P w = .ok vs w := by
    clear hf hR
    induction h with
    | nil => rfl
    | cons h1 _ ih =>
      rw [List.mapM_cons]
      have h2 := h1 a _ w ha hw
      rw [Sem.run_bind, h2]
      simp only [Sem.run_bind, Sem.run_pure, ih, Result.andThen_ok]
  have hres : (results fn a.tmps).run P w = .ok (outV vs) w := by
    rw [results_eq, hf, List.mapM_toArray]
    simp only [Sem.run_bind, Sem.run_map, hm, Result.andThen_ok, Sem.run_pure]
    match vs with
    | [] => rfl
    | [v] => rfl
    | v :: u :: vs => rfl
  rcases he with rfl | rfl <;> exact ⟨ha.defers, _, hres, hR w hw⟩

theorem ret1 {fn : Func} {R : Ending → World → Prop} {a : ResultVar} (hf : fn.results = #[a]) (h : RV P n W Bo F l a v) (hR : ∀ w, St W Bo w l → R (.returned v) w) : QP n [] W Bo (bodyPost P fn R) .ret F l :=
  ret_n (rvs := [a]) (vs := [v]) hf (.cons h .nil) _ (.inl rfl) hR
theorem ret2 {fn : Func} {R : Ending → World → Prop} {a b : ResultVar} (hf : fn.results = #[a, b]) (h : RV P n W Bo F l a v) (h2 : RV P n W Bo F l b u) (hR : ∀ w, St W Bo w l → R (.returned (.tuple #[v, u])) w) : QP n [] W Bo (bodyPost P fn R) .ret F l :=
  ret_n (rvs := [a, b]) (vs := [v, u]) hf (.cons h (.cons h2 .nil)) _ (.inl rfl) hR
theorem ret3 {fn : Func} {R : Ending → World → Prop} {a b c : ResultVar} {v3 : Value} (hf : fn.results = #[a, b, c]) (h : RV P n W Bo F l a v) (h2 : RV P n W Bo F l b u) (h3 : RV P n W Bo F l c v3) (hR : ∀ w, St W Bo w l → R (.returned (.tuple #[v, u, v3])) w) : QP n [] W Bo (bodyPost P fn R) .ret F l :=
  ret_n (rvs := [a, b, c]) (vs := [v, u, v3]) hf (.cons h (.cons h2 (.cons h3 .nil))) _ (.inl rfl) hR
theorem ret0 {fn : Func} {R : Ending → World → Prop} (hf : fn.results = #[]) (hR : ∀ w, St W Bo w l → R (.returned (.tuple #[])) w) (e : Exit) (he : e = .ret ∨ e = .normal) : QP n [] W Bo (bodyPost P fn R) e F l :=
  ret_n (rvs := []) (vs := []) hf .nil _ he hR

end
end Eng
