/- The walk, with the world out of sight: what is known of a frame is a list of slots, what is known of memory a list of blocks. -/
import Derived.WalkKit
import Derived.TacticsInMore
import Derived.OrdersIn
import Derived.RangeFuncCalls
import Derived.Deep.LoopGhost
namespace Eng
open Go Go.RowKit

/-- the fence: none; the round: that of a loop over a function, or none -/
def Fw (r : Option Nat) : Fence := { Fence.wide with round := r }

theorem Fw_fn (r : Option Nat) (f : FuncId) : (Fw r).fn f := trivial
theorem Fw_none : Fw none = Fence.wide := rfl

/-- a part of memory that is known: a block; or a slice that owns its block, of which what lies behind the length is not known -/
inductive Res where
  | blk (b : Nat) (o : Obj)
  | row (a : Option Addr) (c : Nat) (e : TypeId) (s : Nat) (n : Nat) (xs : List Value)

def Res.key : Res → Option Nat
  | .blk b _ => some b
  | .row a _ _ _ _ _ => a.map (·.block)

def Res.holds (w : World) : Res → Prop
  | .blk b o => w.heap[b]? = some o
  | .row a c e s n xs => xs.length = n * s ∧ n ≤ c ∧
    ((a = none ∧ c = 0) ∨ ∃ g cur, a = some ⟨g, 0, none⟩ ∧ w.heap[g]? = some (.cells cur e (0, 0)) ∧ c ≤ maxLen ∧ cur.size = c * s ∧ cur.toList.take (n * s) = xs)

theorem Res.holds_congr {w w' : World} {p : Res} (h : p.holds w) (hk : ∀ k, p.key = some k → w'.heap[k]? = w.heap[k]?) : p.holds w' := by
  cases p with
  | blk b o => exact (hk b rfl).trans h
  | row a c e s n xs =>
    obtain ⟨h1, h2, h3⟩ := h
    refine ⟨h1, h2, ?_⟩
    rcases h3 with h3 | ⟨g, cur, rfl, h4, h5⟩
    · exact .inl h3
    · exact .inr ⟨g, cur, rfl, (hk g rfl).trans h4, h5⟩

theorem Res.lt {w : World} {p : Res} (h : p.holds w) {k : Nat} (hk : p.key = some k) : k < w.heap.size := by
  cases p with
  | blk b o => cases hk; exact (Array.getElem?_eq_some_iff.1 h).1
  | row a c e s n xs =>
    obtain ⟨_, _, h3⟩ := h
    rcases h3 with ⟨rfl, _⟩ | ⟨g, cur, rfl, h4, _⟩
    · simp [Res.key] at hk
    · simp [Res.key] at hk; subst hk; exact (Array.getElem?_eq_some_iff.1 h4).1

abbrev SH := List Res
def keys (l : SH) : List Nat := l.filterMap Res.key

/-- w is W with the parts l (new ones, or of the blocks Bo), and possibly other new blocks -/
structure St (W : World) (Bo : List Nat) (w : World) (l : SH) : Prop where
  os : w.os = W.os
  tape : w.tape = W.tape
  output : w.output = W.output
  size : W.heap.size ≤ w.heap.size
  old : ∀ k, k < W.heap.size → k ∉ Bo → w.heap[k]? = W.heap[k]?
  own : ∀ p ∈ l, p.holds w ∧ ∀ k, p.key = some k → (W.heap.size ≤ k ∨ k ∈ Bo)
  nd : (keys l).Nodup

/-- the value of a slot: the first entry counts -/
def lkO : List (Nat × Value) → Nat → Option Value
  | [], _ => none
  | (k, v) :: r, t => bif Nat.beq k t then some v else lkO r t

def evO (F : List (Nat × Value)) : Operand → Option Value
  | .tmp t => lkO F t
  | .const v => some v
  | .global g => some (.pointer (some ⟨g, 0, none⟩))
  | .func f => some (.func (.func f) #[] #[])

/-- the values of operands -/
def evL (F : List (Nat × Value)) : List Operand → Option (List Value)
  | [] => some []
  | x :: xs => match evO F x, evL F xs with
    | some v, some vs => some (v :: vs)
    | _, _ => none

theorem evL_map {F : List (Nat × Value)} : ∀ {xs : List Operand} {vs : List Value}, evL F xs = some vs → xs.map (evO F) = vs.map some
  | [], vs, h => by simp [evL] at h; subst h; rfl
  | x :: xs, vs, h => by
    unfold evL at h
    cases h1 : evO F x with
    | none => simp [h1] at h
    | some v =>
      cases h2 : evL F xs with
      | none => simp [h1, h2] at h
      | some us => simp [h1, h2] at h; subst h; simp [h1, evL_map h2]

structure Fr (n : Nat) (F : List (Nat × Value)) (D : List Deferred) (a : Act) : Prop where
  size : a.tmps.size = n
  defers : a.defers = D
  slot : ∀ t v, lkO F t = some v → a.tmps[t]? = some v

theorem Fr.eval {n : Nat} {F : List (Nat × Value)} {D : List Deferred} {a : Act} (h : Fr n F D a) {x : Operand} {v : Value} (hx : evO F x = some v) : a.eval x = v := by
  cases x with
  | tmp t => have := h.slot t v hx; simp [Act.eval, Array.getD_eq_getD_getElem?, this]
  | const c => simpa [evO, Act.eval] using hx
  | global g => simpa [evO, Act.eval] using hx
  | func f => simpa [evO, Act.eval] using hx

theorem Fr.put {n : Nat} {F : List (Nat × Value)} {D : List Deferred} {a : Act} (h : Fr n F D a) (d : Nat) (v : Value) (hd : Nat.blt d n = true) :
    Fr n ((d, v) :: F) D (a.put (some d) v) := by
  have hd' : d < n := by have := hd; simp [Nat.blt] at this; omega
  refine ⟨by simp [Act.put, h.size], by simp [Act.put, h.defers], ?_⟩
  intro t u ht
  simp only [Act.put]
  rw [Array.getElem?_setIfInBounds]
  unfold lkO at ht
  cases hb : Nat.beq d t with
  | true =>
    have e := Nat.eq_of_beq_eq_true hb
    subst e
    rw [hb] at ht
    simp only [cond_true, Option.some.injEq] at ht
    subst ht
    rw [h.size]; simp [hd']
  | false =>
    have e := Nat.ne_of_beq_eq_false hb
    rw [hb] at ht
    simp only [cond_false] at ht
    rw [if_neg e]
    exact h.slot t u ht

theorem Fr.put_none {n : Nat} {F : List (Nat × Value)} {D : List Deferred} {a : Act} (h : Fr n F D a) (v : Value) : Fr n F D (a.put none v) := h

/-- fewer slots are known -/
def Sub (F : List (Nat × Value)) : List (Nat × Value) → Prop
  | [] => True
  | (t, v) :: r => lkO F t = some v ∧ Sub F r

theorem Sub.look {F : List (Nat × Value)} : ∀ {G : List (Nat × Value)}, Sub F G → ∀ t v, lkO G t = some v → lkO F t = some v
  | [], _, t, v, h => by simp [lkO] at h
  | (k, u) :: r, hs, t, v, h => by
    unfold lkO at h
    cases hb : Nat.beq k t with
    | true =>
      have e := Nat.eq_of_beq_eq_true hb
      subst e
      rw [hb] at h
      simp only [cond_true, Option.some.injEq] at h
      subst h
      exact hs.1
    | false =>
      rw [hb] at h
      exact hs.2.look t v h

theorem Fr.weaken {n : Nat} {F G : List (Nat × Value)} {D : List Deferred} {a : Act} (h : Fr n F D a) (hs : Sub F G) : Fr n G D a :=
  ⟨h.size, h.defers, fun t v ht => h.slot t v (hs.look t v ht)⟩

/-! worlds -/

theorem St.refl (W : World) : St W [] W [] := ⟨rfl, rfl, rfl, Nat.le_refl _, fun _ _ _ => rfl, fun _ h => by simp at h, List.nodup_nil⟩

theorem mem_keys {l : SH} {k : Nat} : k ∈ keys l ↔ ∃ p ∈ l, p.key = some k := by simp [keys, List.mem_filterMap]

theorem St.lt {W w : World} {Bo : List Nat} {l : SH} (h : St W Bo w l) {p : Res} (hp : p ∈ l) {k : Nat} (hk : p.key = some k) : k < w.heap.size :=
  Res.lt (h.own p hp).1 hk

theorem St.ltk {W w : World} {Bo : List Nat} {l : SH} (h : St W Bo w l) {k : Nat} (hk : k ∈ keys l) : k < w.heap.size := by
  obtain ⟨p, hp, e⟩ := mem_keys.1 hk
  exact h.lt hp e

theorem St.drew {W w : World} {Bo : List Nat} {l : SH} (h : St W Bo w l) : St W Bo w.drew l :=
  ⟨h.os, h.tape, h.output, h.size, h.old, h.own, h.nd⟩

theorem St.below {W w : World} {l : SH} (h : St W [] w l) : Below W.heap.size W w :=
  ⟨h.os, h.tape, h.output, h.size, fun k hk => h.old k hk (by simp)⟩

theorem St.of_below {W w : World} (h : Below W.heap.size W w) : St W [] w [] :=
  ⟨h.os, h.tape, h.output, h.size, fun k hk _ => h.block k hk, fun _ h => by simp at h, List.nodup_nil⟩

theorem St.sub {W w : World} {Bo : List Nat} {l l' : SH} (h : St W Bo w l) (hs : l'.Sublist l) : St W Bo w l' :=
  ⟨h.os, h.tape, h.output, h.size, h.old, fun q hq => h.own q (hs.subset hq), h.nd.sublist (hs.filterMap _)⟩

theorem St.perm {W w : World} {Bo : List Nat} {l l' : SH} (h : St W Bo w l) (hs : l'.Perm l) : St W Bo w l' :=
  ⟨h.os, h.tape, h.output, h.size, h.old, fun q hq => h.own q (hs.mem_iff.1 hq), ((hs.filterMap _).nodup_iff).2 h.nd⟩

/-- a new part -/
theorem St.add {W w w' : World} {Bo : List Nat} {l : SH} (h : St W Bo w l) {p : Res} (hb : Below w.heap.size w w') (hp : p.holds w') (hk : ∀ k, p.key = some k → w.heap.size ≤ k) :
    St W Bo w' (p :: l) := by
  refine ⟨hb.os.trans h.os, hb.tape.trans h.tape, hb.output.trans h.output, Nat.le_trans h.size hb.size, ?_, ?_, ?_⟩
  · intro k h1 h2
    rw [hb.block k (Nat.lt_of_lt_of_le h1 h.size)]
    exact h.old k h1 h2
  · intro q hq
    rcases List.mem_cons.1 hq with rfl | hq
    · exact ⟨hp, fun k h1 => .inl (Nat.le_trans h.size (hk k h1))⟩
    · exact ⟨Res.holds_congr (h.own q hq).1 fun k h1 => hb.block k (h.lt hq h1), (h.own q hq).2⟩
  · unfold keys
    rw [List.filterMap_cons]
    cases hp : p.key with
    | none => exact h.nd
    | some k =>
      refine List.nodup_cons.2 ⟨?_, h.nd⟩
      intro hm
      have := h.ltk hm
      have := hk k hp
      omega

theorem St.alloc {W w : World} {Bo : List Nat} {l : SH} (h : St W Bo w l) (o : Obj) : St W Bo (w.alloc o) (.blk w.heap.size o :: l) :=
  h.add ((Below.refl _ _).alloc (Nat.le_refl _) o) (heap_alloc_new w _) (fun k hk => by cases hk; exact Nat.le_refl _)

/-- new blocks that are not known -/
theorem St.more {W w w' : World} {Bo : List Nat} {l : SH} (h : St W Bo w l) (hb : Below w.heap.size w w') : St W Bo w' l :=
  (h.add (p := .row none 0 0 0 0 []) hb ⟨by simp, by simp, .inl ⟨rfl, rfl⟩⟩ (fun k hk => by simp [Res.key] at hk)).sub (List.sublist_cons_self _ _)

/-- a list with one entry replaced, found by its place -/
inductive Rep (p p' : Res) : SH → SH → Prop
  | head (l : SH) : Rep p p' (p :: l) (p' :: l)
  | tail (q : Res) {l l' : SH} (h : Rep p p' l l') : Rep p p' (q :: l) (q :: l')

theorem Rep.mem {p p' : Res} {l l' : SH} (h : Rep p p' l l') : p ∈ l := by
  induction h with
  | head => exact .head _
  | tail q _ ih => exact .tail _ ih

theorem Rep.split {p p' : Res} {l l' : SH} (h : Rep p p' l l') : ∃ l1 l2, l = l1 ++ p :: l2 ∧ l' = l1 ++ p' :: l2 := by
  induction h with
  | head l => exact ⟨[], l, rfl, rfl⟩
  | tail q _ ih => obtain ⟨l1, l2, rfl, rfl⟩ := ih; exact ⟨q :: l1, l2, rfl, rfl⟩

/-- the general change: one part has become another one, in its own block or in a new one -/
theorem St.change {W w w' : World} {Bo : List Nat} {l l' : SH} {p p' : Res} (h : St W Bo w l) (hr : Rep p p' l l')
    (hos : w'.os = w.os) (ht : w'.tape = w.tape) (ho : w'.output = w.output) (hs : w.heap.size ≤ w'.heap.size)
    (hk : ∀ k, k < w.heap.size → p.key ≠ some k → w'.heap[k]? = w.heap[k]?) (hp : p'.holds w')
    (hkey : ∀ k, p'.key = some k → p.key = some k ∨ w.heap.size ≤ k) : St W Bo w' l' := by
  obtain ⟨l1, l2, rfl, rfl⟩ := hr.split
  have hpm : p ∈ l1 ++ p :: l2 := by simp
  have hnd := h.nd
  have hsub : (l1 ++ l2).Sublist (l1 ++ p :: l2) := List.Sublist.append_left (List.sublist_cons_self _ _) _
  have h0 := h.sub hsub
  have hne : ∀ q ∈ l1 ++ l2, ∀ k, q.key = some k → p.key ≠ some k := by
    intro q hq k hqk hpk
    have hnd' : (keys (p :: (l1 ++ l2))).Nodup := ((List.perm_middle.filterMap Res.key).nodup_iff).1 hnd
    unfold keys at hnd'
    rw [List.filterMap_cons, hpk, List.nodup_cons] at hnd'
    exact hnd'.1 (mem_keys.2 ⟨q, hq, hqk⟩)
  have h1 : St W Bo w' (l1 ++ l2) := by
    refine ⟨hos.trans h.os, ht.trans h.tape, ho.trans h.output, Nat.le_trans h.size hs, ?_, ?_, h0.nd⟩
    · intro k h1 h2
      rw [hk k (Nat.lt_of_lt_of_le h1 h.size)]
      · exact h.old k h1 h2
      · intro e
        rcases (h.own p hpm).2 k e with h3 | h3
        · omega
        · exact h2 h3
    · intro q hq
      exact ⟨Res.holds_congr (h0.own q hq).1 fun k h3 => hk k (h0.lt hq h3) (hne q hq k h3), (h0.own q hq).2⟩
  have h2 : St W Bo w' (p' :: (l1 ++ l2)) := by
    refine ⟨h1.os, h1.tape, h1.output, h1.size, h1.old, ?_, ?_⟩
    · intro q hq
      rcases List.mem_cons.1 hq with rfl | hq
      · refine ⟨hp, fun k h3 => ?_⟩
        rcases hkey k h3 with h4 | h4
        · exact (h.own p hpm).2 k h4
        · exact .inl (Nat.le_trans h.size h4)
      · exact h1.own q hq
    · unfold keys
      rw [List.filterMap_cons]
      cases hpk : p'.key with
      | none => exact h1.nd
      | some k =>
        refine List.nodup_cons.2 ⟨?_, h1.nd⟩
        intro hm
        obtain ⟨q, hq, hqk⟩ := mem_keys.1 hm
        rcases hkey k hpk with h4 | h4
        · exact hne q hq k hqk h4
        · have := h0.lt hq hqk
          omega
  exact h2.perm List.perm_middle

/-- a callee that makes parts of its own, and changes nothing else -/
theorem St.trans {W w w' : World} {Bo : List Nat} {l l' : SH} (h : St W Bo w l) (h' : St w [] w' l') : St W Bo w' (l' ++ l) := by
  refine ⟨h'.os.trans h.os, h'.tape.trans h.tape, h'.output.trans h.output, Nat.le_trans h.size h'.size, ?_, ?_, ?_⟩
  · intro k hk hb
    rw [h'.old k (by have := h.size; omega) (by simp)]
    exact h.old k hk hb
  · intro p hp
    rcases List.mem_append.1 hp with hp | hp
    · refine ⟨(h'.own p hp).1, fun k hk => ?_⟩
      rcases (h'.own p hp).2 k hk with h1 | h1
      · exact .inl (Nat.le_trans h.size h1)
      · simp at h1
    · exact ⟨Res.holds_congr (h.own p hp).1 fun k hk => h'.old k (h.lt hp hk) (by simp), (h.own p hp).2⟩
  · unfold keys
    rw [List.filterMap_append, List.nodup_append]
    refine ⟨h'.nd, h.nd, ?_⟩
    intro x hx y hy e
    subst e
    obtain ⟨p, hp, hpk⟩ := mem_keys.1 hx
    have h2 := h.ltk hy
    rcases (h'.own p hp).2 _ hpk with h1 | h1
    · omega
    · simp at h1

/-- a callee that changes one block, and makes other parts -/
theorem St.trans1 {W w w' : World} {Bo : List Nat} {l l1 l' : SH} {b : Nat} {o o' : Obj} (h : St W Bo w l) (hr : Rep (.blk b o) (.blk b o') l l1)
    (h' : St w [b] w' (.blk b o' :: l')) : St W Bo w' (l' ++ l1) := by
  have h1 : St W Bo w' l1 := by
    refine h.change hr h'.os h'.tape h'.output h'.size ?_ (h'.own _ (.head _)).1 (fun k hk => .inl hk)
    intro k hk hne
    exact h'.old k hk (by intro e; rw [List.mem_singleton] at e; exact hne (by rw [e]; rfl))
  have hnd := h'.nd
  unfold keys at hnd
  rw [List.filterMap_cons] at hnd
  simp only [Res.key] at hnd
  rw [List.nodup_cons] at hnd
  refine ⟨h1.os, h1.tape, h1.output, h1.size, h1.old, ?_, ?_⟩
  · intro p hp
    rcases List.mem_append.1 hp with hp | hp
    · refine ⟨(h'.own p (.tail _ hp)).1, fun k hk => ?_⟩
      rcases (h'.own p (.tail _ hp)).2 k hk with h2 | h2
      · exact .inl (Nat.le_trans h.size h2)
      · rw [List.mem_singleton] at h2
        subst h2
        exact absurd (mem_keys.2 ⟨p, hp, hk⟩) hnd.1
    · exact h1.own p hp
  · unfold keys
    rw [List.filterMap_append, List.nodup_append]
    refine ⟨hnd.2, h1.nd, ?_⟩
    intro x hx y hy e
    subst e
    obtain ⟨p, hp, hpk⟩ := mem_keys.1 hx
    obtain ⟨l3, l4, rfl, rfl⟩ := hr.split
    have hy' : x ∈ keys (l3 ++ .blk b o :: l4) := by
      unfold keys
      simpa [List.filterMap_append, List.filterMap_cons, Res.key] using hy
    have h3 := h.ltk hy'
    rcases (h'.own p (.tail _ hp)).2 _ hpk with h2 | h2
    · omega
    · rw [List.mem_singleton] at h2
      subst h2
      exact absurd (mem_keys.2 ⟨p, hp, hpk⟩) hnd.1

/-! the judgements -/
section
variable (r : Option Nat) (P : Program) (n : Nat) (D : List Deferred) (W : World) (Bo : List Nat)

/-- code from a known frame and known memory -/
def CP (c : Code) (Q : Exit → Act → World → Prop) (F : List (Nat × Value)) (l : SH) : Prop :=
  ∀ a w, Fr n F D a → St W Bo w l → c.wpIn (Fw r) 0 P Q a w

/-- the rest of a region -/
def LP (ops : Array Oper) (Q : Exit → Act → World → Prop) (rest : List Oper) (F : List (Nat × Value)) (l : SH) : Prop :=
  ∀ a w, Fr n F D a → St W Bo w l → wpListIn (Fw r) 0 P ops Q rest a w

/-- a way out -/
def QP (Q : Exit → Act → World → Prop) (e : Exit) (F : List (Nat × Value)) (l : SH) : Prop :=
  ∀ a w, Fr n F D a → St W Bo w l → Q e a w

/-- an operation that yields a value, and leaves the world alone -/
def Y (o : Oper) (F : List (Nat × Value)) (l : SH) (v : Value) : Prop :=
  (∀ c, o.op ≠ .defer c) ∧ ∀ a w, Fr n F D a → St W Bo w l → (execOp a.eval o).run P w = .ok (.value v) w
end

section
variable {r : Option Nat} {P : Program} {n : Nat} {D : List Deferred} {W : World} {Bo : List Nat} {Q Q' : Exit → Act → World → Prop}
  {F G : List (Nat × Value)} {l l' : SH} {ops : Array Oper} {rest : List Oper} {c c1 c2 : Code}

theorem c_weaken (hs : Sub F G) (h : CP r P n D W Bo c Q G l) : CP r P n D W Bo c Q F l := fun a w ha hw => h a w (ha.weaken hs) hw
theorem c_sub (hs : l'.Sublist l) (h : CP r P n D W Bo c Q F l') : CP r P n D W Bo c Q F l := fun a w ha hw => h a w ha (hw.sub hs)
theorem c_perm (hs : l'.Perm l) (h : CP r P n D W Bo c Q F l') : CP r P n D W Bo c Q F l := fun a w ha hw => h a w ha (hw.perm hs)
theorem q_weaken {e : Exit} (hs : Sub F G) (h : QP n D W Bo Q e G l) : QP n D W Bo Q e F l := fun a w ha hw => h a w (ha.weaken hs) hw
theorem q_sub {e : Exit} (hs : l'.Sublist l) (h : QP n D W Bo Q e F l') : QP n D W Bo Q e F l := fun a w ha hw => h a w ha (hw.sub hs)
theorem q_perm {e : Exit} (hs : l'.Perm l) (h : QP n D W Bo Q e F l') : QP n D W Bo Q e F l := fun a w ha hw => h a w ha (hw.perm hs)

theorem c_seq (h : CP r P n D W Bo c1 (Exit.then (c2.wpIn (Fw r) 0 P Q) Q) F l) : CP r P n D W Bo (c1.seq c2) Q F l :=
  fun a w ha hw => wpIn_seq (h a w ha hw)
theorem c_skip (h : QP n D W Bo Q .normal F l) : CP r P n D W Bo .skip Q F l := fun a w ha hw => wpIn_skip (h a w ha hw)
theorem c_ret (h : QP n D W Bo Q .ret F l) : CP r P n D W Bo .ret Q F l := fun a w ha hw => wpIn_ret (h a w ha hw)
theorem c_exit {id : Nat} (h : QP n D W Bo Q (.exit id) F l) : CP r P n D W Bo (.exit id) Q F l := fun a w ha hw => wpIn_exit (h a w ha hw)
theorem c_block {id : Nat} (h : CP r P n D W Bo c (Exit.inBlock id Q) F l) : CP r P n D W Bo (.block id c) Q F l :=
  fun a w ha hw => wpIn_block (h a w ha hw)
theorem c_true {x : Operand} (hx : evO F x = some (.bool true)) (h : CP r P n D W Bo c1 Q F l) : CP r P n D W Bo (.cond x c1 c2) Q F l :=
  fun a w ha hw => wpIn_cond_true (ha.eval hx) (h a w ha hw)
theorem c_false {x : Operand} (hx : evO F x = some (.bool false)) (h : CP r P n D W Bo c2 Q F l) : CP r P n D W Bo (.cond x c1 c2) Q F l :=
  fun a w ha hw => wpIn_cond_false (ha.eval hx) (h a w ha hw)
theorem c_if {x : Operand} {b : Bool} (hx : evO F x = some (.bool b)) (h1 : b = true → CP r P n D W Bo c1 Q F l) (h2 : b = false → CP r P n D W Bo c2 Q F l) :
    CP r P n D W Bo (.cond x c1 c2) Q F l := by
  cases b with
  | true => exact c_true hx (h1 rfl)
  | false => exact c_false hx (h2 rfl)
theorem c_ifd {x : Operand} {p : Prop} [dp : Decidable p] (h1 : p → CP r P n D W Bo c1 Q F l) (h2 : ¬ p → CP r P n D W Bo c2 Q F l) (hx : evO F x = some (.bool (decide p)) := by rfl) :
    CP r P n D W Bo (.cond x c1 c2) Q F l := by
  by_cases hp : p
  · exact c_true (by rw [hx, decide_eq_true hp]) (h1 hp)
  · exact c_false (by rw [hx, decide_eq_false hp]) (h2 hp)
theorem c_ifn {x : Operand} {p : Prop} [dp : Decidable p] (h1 : ¬ p → CP r P n D W Bo c1 Q F l) (h2 : p → CP r P n D W Bo c2 Q F l) (hx : evO F x = some (.bool (!decide p)) := by rfl) :
    CP r P n D W Bo (.cond x c1 c2) Q F l := by
  by_cases hp : p
  · exact c_false (by rw [hx, decide_eq_true hp]; rfl) (h2 hp)
  · exact c_true (by rw [hx, decide_eq_false hp]; rfl) (h1 hp)
/-- a test that is known -/
theorem c_t {x : Operand} (h : CP r P n D W Bo c1 Q F l) (hx : evO F x = some (.bool true) := by rfl) : CP r P n D W Bo (.cond x c1 c2) Q F l := c_true hx h
theorem c_f {x : Operand} (h : CP r P n D W Bo c2 Q F l) (hx : evO F x = some (.bool false) := by rfl) : CP r P n D W Bo (.cond x c1 c2) Q F l := c_false hx h
theorem c_reg {id : Nat} {os : List Oper} (h : LP r P n D W Bo os.toArray Q os F l) : CP r P n D W Bo (.region id os.toArray false) Q F l :=
  fun a w ha hw => wpIn_region_lit (h a w ha hw)
theorem c_cut {R : Act → World → Prop} (h : CP r P n D W Bo c (fun e a w => e = .normal ∧ R a w) F l) (hq : ∀ a w, R a w → Q .normal a w) : CP r P n D W Bo c Q F l :=
  fun a w ha hw => wpIn_mono (h a w ha hw) fun e a' w' hh => by obtain ⟨rfl, h2⟩ := hh; exact hq _ _ h2

/-- after a part of a sequence -/
theorem q_then (h : CP r P n D W Bo c Q F l) : QP n D W Bo (Exit.then (c.wpIn (Fw r) 0 P Q) Q') .normal F l := h
theorem q_then' {K : Act → World → Prop} {e : Exit} (he : e ≠ .normal) (h : QP n D W Bo Q e F l) : QP n D W Bo (Exit.then K Q) e F l := by
  intro a w ha hw
  have := h a w ha hw
  cases e <;> first | exact this | exact absurd rfl he
theorem q_ret {K : Act → World → Prop} (h : QP n D W Bo Q .ret F l) : QP n D W Bo (Exit.then K Q) .ret F l := h
theorem q_retb {id : Nat} (h : QP n D W Bo Q .ret F l) : QP n D W Bo (Exit.inBlock id Q) .ret F l := h
theorem q_ex {K : Act → World → Prop} {id : Nat} (h : QP n D W Bo Q (.exit id) F l) : QP n D W Bo (Exit.then K Q) (.exit id) F l := h
theorem q_exb {id : Nat} (h : QP n D W Bo Q .normal F l) : QP n D W Bo (Exit.inBlock id Q) (.exit id) F l := by
  intro a w ha hw; simp only [Exit.inBlock, if_true]; exact h a w ha hw
theorem q_exn {id i : Nat} (hne : Nat.beq i id = false) (h : QP n D W Bo Q (.exit i) F l) : QP n D W Bo (Exit.inBlock id Q) (.exit i) F l := by
  intro a w ha hw
  have e := Nat.ne_of_beq_eq_false hne
  simp only [Exit.inBlock, if_neg e]; exact h a w ha hw
theorem q_nb {id : Nat} (h : QP n D W Bo Q .normal F l) : QP n D W Bo (Exit.inBlock id Q) .normal F l := h

/-- a loop: a state x, of which frame and memory are functions -/
theorem c_loop {σ : Type} (Fx : σ → List (Nat × Value)) (lx : σ → SH) (I : σ → Prop) (m : σ → Nat) (x : σ) (hx : I x) (hF : Sub F (Fx x)) (hl : (lx x).Sublist l)
    (h : ∀ x, I x → CP r P n D W Bo c (Exit.then (fun a w => ∃ y, I y ∧ m y < m x ∧ Fr n (Fx y) D a ∧ St W Bo w (lx y)) Q) (Fx x) (lx x)) :
    CP r P n D W Bo (.loop c) Q F l := by
  intro a w ha hw
  let J : Nat → Act → World → Prop := fun k a w => ∃ y, I y ∧ m y = k ∧ Fr n (Fx y) D a ∧ St W Bo w (lx y)
  have h0 : ∃ k, J k a w := ⟨_, x, hx, rfl, ha.weaken hF, hw.sub hl⟩
  have key := wpIn_loop (F := Fw r) (n := 0) (P := P) (Q := Q) (c := c) (a := a) (w := w) (fun a w => ∃ k, J k a w) (fun a w => leastOf (fun k => J k a w)) h0
  apply key
  intro a w hI
  have hlst := (leastOf_spec hI).1
  obtain ⟨y, hy, hm, hya, hyw⟩ := hlst
  refine wpIn_mono (h y hy a w hya hyw) ?_
  intro e a' w' hq
  cases e with
  | normal =>
    obtain ⟨z, hz, hlt, hza, hzw⟩ := hq
    have hJ : J (m z) a' w' := ⟨z, hz, rfl, hza, hzw⟩
    exact show (∃ k, J k a' w') ∧ leastOf (fun k => J k a' w') < leastOf (fun k => J k a w) from
      ⟨⟨_, hJ⟩, Nat.lt_of_le_of_lt ((leastOf_spec ⟨_, hJ⟩).2 _ hJ) (hm ▸ hlt)⟩
  | exit id => exact hq
  | goto l => exact hq
  | ret => exact hq
  | panic ch => exact hq
  | outgrown => exact hq

theorem c_loop2 {σ τ : Type} (Fx : σ → τ → List (Nat × Value)) (lx : σ → τ → SH) (I : σ → τ → Prop) (m : σ → τ → Nat) (x : σ) (y : τ) (hx : I x y) (hF : Sub F (Fx x y)) (hl : (lx x y).Sublist l)
    (h : ∀ x y, I x y → CP r P n D W Bo c (Exit.then (fun a w => ∃ x' y', I x' y' ∧ m x' y' < m x y ∧ Fr n (Fx x' y') D a ∧ St W Bo w (lx x' y')) Q) (Fx x y) (lx x y)) :
    CP r P n D W Bo (.loop c) Q F l :=
  c_loop (fun p : σ × τ => Fx p.1 p.2) (fun p => lx p.1 p.2) (fun p => I p.1 p.2) (fun p => m p.1 p.2) (x, y) hx hF hl fun ⟨x, y⟩ hI a w ha hw =>
    wpIn_mono (h x y hI a w ha hw) fun e a' w' q => by
      cases e with
      | normal => obtain ⟨x', y', h1, h2, h3, h4⟩ := q; exact ⟨(x', y'), h1, h2, h3, h4⟩
      | exit id => exact q
      | goto l => exact q
      | ret => exact q
      | panic ch => exact q
      | outgrown => exact q
theorem q_round2 {σ τ : Type} {Fx : σ → τ → List (Nat × Value)} {lx : σ → τ → SH} {I : σ → τ → Prop} {m : σ → τ → Nat} {x : σ} {y : τ} (x' : σ) (y' : τ) (hy : I x' y') (hm : m x' y' < m x y) (hF : Sub F (Fx x' y')) (hl : (lx x' y').Sublist l) :
    QP n D W Bo (Exit.then (fun a w => ∃ x' y', I x' y' ∧ m x' y' < m x y ∧ Fr n (Fx x' y') D a ∧ St W Bo w (lx x' y')) Q) .normal F l :=
  fun _ _ ha hw => ⟨x', y', hy, hm, ha.weaken hF, hw.sub hl⟩
theorem c_loop3 {σ τ υ : Type} (Fx : σ → τ → υ → List (Nat × Value)) (lx : σ → τ → υ → SH) (I : σ → τ → υ → Prop) (m : σ → τ → υ → Nat) (x : σ) (y : τ) (z : υ) (hx : I x y z) (hF : Sub F (Fx x y z)) (hl : (lx x y z).Sublist l)
    (h : ∀ x y z, I x y z → CP r P n D W Bo c (Exit.then (fun a w => ∃ x' y' z', I x' y' z' ∧ m x' y' z' < m x y z ∧ Fr n (Fx x' y' z') D a ∧ St W Bo w (lx x' y' z')) Q) (Fx x y z) (lx x y z)) :
    CP r P n D W Bo (.loop c) Q F l :=
  c_loop (fun p : σ × τ × υ => Fx p.1 p.2.1 p.2.2) (fun p => lx p.1 p.2.1 p.2.2) (fun p => I p.1 p.2.1 p.2.2) (fun p => m p.1 p.2.1 p.2.2) (x, y, z) hx hF hl fun ⟨x, y, z⟩ hI a w ha hw =>
    wpIn_mono (h x y z hI a w ha hw) fun e a' w' q => by
      cases e with
      | normal => obtain ⟨x', y', z', h1, h2, h3, h4⟩ := q; exact ⟨(x', y', z'), h1, h2, h3, h4⟩
      | exit id => exact q
      | goto l => exact q
      | ret => exact q
      | panic ch => exact q
      | outgrown => exact q
theorem q_round3 {σ τ υ : Type} {Fx : σ → τ → υ → List (Nat × Value)} {lx : σ → τ → υ → SH} {I : σ → τ → υ → Prop} {m : σ → τ → υ → Nat} {x : σ} {y : τ} {z : υ} (x' : σ) (y' : τ) (z' : υ) (hy : I x' y' z') (hm : m x' y' z' < m x y z) (hF : Sub F (Fx x' y' z')) (hl : (lx x' y' z').Sublist l) :
    QP n D W Bo (Exit.then (fun a w => ∃ x' y' z', I x' y' z' ∧ m x' y' z' < m x y z ∧ Fr n (Fx x' y' z') D a ∧ St W Bo w (lx x' y' z')) Q) .normal F l :=
  fun _ _ ha hw => ⟨x', y', z', hy, hm, ha.weaken hF, hw.sub hl⟩

/-- the end of a round -/
theorem q_round {σ : Type} {Fx : σ → List (Nat × Value)} {lx : σ → SH} {I : σ → Prop} {m : σ → Nat} {x : σ} (y : σ) (hy : I y) (hm : m y < m x) (hF : Sub F (Fx y)) (hl : (lx y).Sublist l) :
    QP n D W Bo (Exit.then (fun a w => ∃ y, I y ∧ m y < m x ∧ Fr n (Fx y) D a ∧ St W Bo w (lx y)) Q) .normal F l :=
  fun _ _ ha hw => ⟨y, hy, hm, ha.weaken hF, hw.sub hl⟩

/-! a region -/

theorem s_nil (h : QP n D W Bo Q .normal F l) : LP r P n D W Bo ops Q [] F l := fun a w ha hw => wpListIn_nil (h a w ha hw)

theorem about_none {o : Oper} (h : ∀ c, o.op ≠ .call c) (ρ : Operand → Value) (w : World) : o.about P w ρ = none := by
  unfold Oper.about
  cases ho : o.op <;> first | rfl | exact absurd ho (h _)

theorem semAt_eq {o : Oper} (ρ : Operand → Value) (h : ∀ c, o.op ≠ .defer c) : o.semAt (Fw r).round ρ = execOp ρ o := Oper.semAt_eq _ _ _ h

/-- a guarded operation that is wanted -/
theorem wanted_of {o : Oper} {j d : Nat} {b : Bool} (hg : o.guard = some (j, b)) (hj : (ops[j]?).bind (·.dst) = some d) (hv : lkO F d = some (.bool b)) {a : Act} (ha : Fr n F D a) :
    Region.wanted o (yielded ops a.tmps) = true := by
  simp only [Region.wanted, hg, yielded, hj, Option.bind_some, ha.slot d _ hv]
  simp

theorem unwanted_of {o : Oper} {j d : Nat} {b b' : Bool} (hg : o.guard = some (j, b)) (hj : (ops[j]?).bind (·.dst) = some d) (hv : lkO F d = some (.bool b')) (hb : (b' == b) = false) {a : Act} (ha : Fr n F D a) :
    Region.wanted o (yielded ops a.tmps) = false := by
  simp only [Region.wanted, hg, yielded, hj, Option.bind_some, ha.slot d _ hv]
  simpa using hb

/-- one that is not wanted because an operation before it was not wanted: its slot is undefined -/
theorem unwanted_of' {o : Oper} {j d : Nat} {b : Bool} (hg : o.guard = some (j, b)) (hj : (ops[j]?).bind (·.dst) = some d) (hv : lkO F d = some undef) {a : Act} (ha : Fr n F D a) :
    Region.wanted o (yielded ops a.tmps) = false := by
  simp only [Region.wanted, hg, yielded, hj, Option.bind_some, ha.slot d _ hv]
  simp [undef]

/-- an operation is carried out: it has no guard, or its guard says yes -/
inductive Wn (ops : Array Oper) (F : List (Nat × Value)) : Option (Nat × Bool) → Prop
  | none : Wn ops F none
  | some {j e : Nat} {b : Bool} (hj : (ops[j]?).bind (·.dst) = some e) (hv : lkO F e = some (.bool b)) : Wn ops F (some (j, b))

theorem Wn.wanted {o : Oper} {g : Option (Nat × Bool)} (h : Wn ops F g) (hg : o.guard = g) {a : Act} (ha : Fr n F D a) : Region.wanted o (yielded ops a.tmps) = true := by
  cases h with
  | none => simp [Region.wanted, hg]
  | some hj hv => exact wanted_of hg hj hv ha

theorem wpListIn_of {Fc : Fence} {k : Nat} {o : Oper} {a : Act} {w : World} (hw : Region.wanted o (yielded ops a.tmps) = true) (h : o.wpIn Fc k P a w (wpListIn Fc k P ops Q rest) Q) : wpListIn Fc k P ops Q (o :: rest) a w := by
  simp only [wpListIn]
  rw [if_pos hw]; exact h

/-- an operation that yields a value -/
theorem s_y {op : Op} {ty : TypeId} {ps : String} {af : Array Edge} {g : Option (Nat × Bool)} {d : Nat} {v : Value} (hy : Y P n D W Bo ⟨some d, op, ty, ps, af, g⟩ F l v) (h : LP r P n D W Bo ops Q rest ((d, v) :: F) l)
    (hn : Nat.blt d n = true := by rfl) (hg : Wn ops F g := by first | exact .none | exact .some rfl rfl) : LP r P n D W Bo ops Q (⟨some d, op, ty, ps, af, g⟩ :: rest) F l := by
  intro a w ha hw
  refine wpListIn_of (hg.wanted rfl ha) ?_
  refine ⟨fun f _ => trivial, ?_⟩
  rw [semAt_eq _ hy.1, hy.2 a w ha hw]
  exact h _ _ (ha.put d v hn) hw

/-- one whose guard says no -/
theorem s_no {op : Op} {ty : TypeId} {ps : String} {af : Array Edge} {d j e : Nat} {b b' : Bool} (h : LP r P n D W Bo ops Q rest ((d, undef) :: F) l) (hn : Nat.blt d n = true := by rfl)
    (hj : (ops[j]?).bind (·.dst) = some e := by rfl) (hv : lkO F e = some (.bool b') := by rfl) (hb : (b' == b) = false := by rfl) : LP r P n D W Bo ops Q (⟨some d, op, ty, ps, af, some (j, b)⟩ :: rest) F l := by
  intro a w ha hw
  simp only [wpListIn]
  rw [unwanted_of (o := ⟨some d, op, ty, ps, af, some (j, b)⟩) rfl hj hv hb ha]
  exact ⟨fun f _ => trivial, h _ _ (ha.put d _ hn) hw⟩

/-- one whose guard was not carried out -/
theorem s_nu {op : Op} {ty : TypeId} {ps : String} {af : Array Edge} {d j e : Nat} {b : Bool} (h : LP r P n D W Bo ops Q rest ((d, undef) :: F) l) (hn : Nat.blt d n = true := by rfl)
    (hj : (ops[j]?).bind (·.dst) = some e := by rfl) (hv : lkO F e = some undef := by rfl) : LP r P n D W Bo ops Q (⟨some d, op, ty, ps, af, some (j, b)⟩ :: rest) F l := by
  intro a w ha hw
  simp only [wpListIn]
  rw [unwanted_of' (o := ⟨some d, op, ty, ps, af, some (j, b)⟩) rfl hj hv ha]
  exact ⟨fun f _ => trivial, h _ _ (ha.put d _ hn) hw⟩

/-- a comparison in a region, both ways -/
theorem s_ifd {op : Op} {ty : TypeId} {ps : String} {af : Array Edge} {g : Option (Nat × Bool)} {d : Nat} {p : Prop} [dp : Decidable p] (hy : Y P n D W Bo ⟨some d, op, ty, ps, af, g⟩ F l (.bool (decide p)))
    (h1 : p → LP r P n D W Bo ops Q rest ((d, .bool true) :: F) l) (h2 : ¬ p → LP r P n D W Bo ops Q rest ((d, .bool false) :: F) l) (hn : Nat.blt d n = true := by rfl) (hg : Wn ops F g := by first | exact .none | exact .some rfl rfl) :
    LP r P n D W Bo ops Q (⟨some d, op, ty, ps, af, g⟩ :: rest) F l := by
  by_cases hp : p
  · exact s_y hy (by rw [decide_eq_true hp]; exact h1 hp) hn hg
  · exact s_y hy (by rw [decide_eq_false hp]; exact h2 hp) hn hg
theorem s_ifn {op : Op} {ty : TypeId} {ps : String} {af : Array Edge} {g : Option (Nat × Bool)} {d : Nat} {p : Prop} [dp : Decidable p] (hy : Y P n D W Bo ⟨some d, op, ty, ps, af, g⟩ F l (.bool (!decide p)))
    (h1 : ¬ p → LP r P n D W Bo ops Q rest ((d, .bool true) :: F) l) (h2 : p → LP r P n D W Bo ops Q rest ((d, .bool false) :: F) l) (hn : Nat.blt d n = true := by rfl) (hg : Wn ops F g := by first | exact .none | exact .some rfl rfl) :
    LP r P n D W Bo ops Q (⟨some d, op, ty, ps, af, g⟩ :: rest) F l := by
  by_cases hp : p
  · exact s_y hy (by rw [decide_eq_true hp]; exact h2 hp) hn hg
  · exact s_y hy (by rw [decide_eq_false hp]; exact h1 hp) hn hg
/-- a comparison that is known -/
theorem s_yt {op : Op} {ty : TypeId} {ps : String} {af : Array Edge} {g : Option (Nat × Bool)} {d : Nat} {p : Prop} [dp : Decidable p] (hy : Y P n D W Bo ⟨some d, op, ty, ps, af, g⟩ F l (.bool (decide p)))
    (h1 : LP r P n D W Bo ops Q rest ((d, .bool true) :: F) l) (hp : p := by omega) (hn : Nat.blt d n = true := by rfl) (hg : Wn ops F g := by first | exact .none | exact .some rfl rfl) : LP r P n D W Bo ops Q (⟨some d, op, ty, ps, af, g⟩ :: rest) F l :=
  s_y hy (by rw [decide_eq_true hp]; exact h1) hn hg
theorem s_yf {op : Op} {ty : TypeId} {ps : String} {af : Array Edge} {g : Option (Nat × Bool)} {d : Nat} {p : Prop} [dp : Decidable p] (hy : Y P n D W Bo ⟨some d, op, ty, ps, af, g⟩ F l (.bool (decide p)))
    (h1 : LP r P n D W Bo ops Q rest ((d, .bool false) :: F) l) (hp : ¬ p := by omega) (hn : Nat.blt d n = true := by rfl) (hg : Wn ops F g := by first | exact .none | exact .some rfl rfl) : LP r P n D W Bo ops Q (⟨some d, op, ty, ps, af, g⟩ :: rest) F l :=
  s_y hy (by rw [decide_eq_false hp]; exact h1) hn hg
/-- a truth value that is not known: both ways -/
theorem s_ifb {d : Nat} {b : Bool} (h1 : b = true → LP r P n D W Bo ops Q rest ((d, .bool true) :: F) l)
    (h2 : b = false → LP r P n D W Bo ops Q rest ((d, .bool false) :: F) l) : LP r P n D W Bo ops Q rest ((d, .bool b) :: F) l := by
  cases b with
  | true => exact h1 rfl
  | false => exact h2 rfl

end
end Eng
