/- Joined texts: Core Base. -/
import Derived.WalkKit
import Derived.TacticsInMore
import Derived.OrdersIn
import Derived.RangeFuncCalls
import Derived.Deep.LoopGhost
import Derived.Deep.Quiet
import Derived.KernelRfl
import Derived.Laws.BytesString
import Derived.Laws.StructEq
import Derived.MapKept
import Derived.Laws.IdiomStrings
import Derived.Recover
import Derived.RangeFuncLeaves
import Derived.ChangeKeysEq
import Derived.Maps.RangeRun
import Derived.Laws.Build
import Derived.Lib.Overlaps
import Derived.ProofKit
import Derived.LaidMore
import Derived.LaidHandle
import Derived.OpenShut
import Derived.FnData
import Derived.SizedLaws
import Derived.ChangeMaps5
import Derived.Deep.Slices
import Derived.JoinedOf
import Derived.SevenTiedAt
import Derived.Test.YtegfmbefhpagmaaGreatDoorChecked
import Derived.Test.YtegfmbefhpagmaaGreatDoorRows
import Derived.Test.YtegfmbefhpagmaaGreatDoorCards
import Derived.Test.YtegfmbefhpagmaaGreatDoorTie
set_option linter.all false
section
namespace Eng
open Go Go.RowKit
def Fw (r:Option Nat):Fence:={ Fence.wide with round:=r }
theorem Fw_fn (r:Option Nat) (f:FuncId):(Fw r).fn f:=trivial
theorem Fw_none:Fw none = Fence.wide:=rfl
/-- a part of memory that is known: a block; or a slice that owns its block, of which what lies behind the length is not known -/
inductive Res where
  | blk (b:Nat) (o:Obj)
  | row (a:Option Addr) (c:Nat) (e:TypeId) (s:Nat) (n:Nat) (xs:List Value)
def Res.key:Res → Option Nat
  | .blk b _=>some b
  | .row a _ _ _ _ _=>a.map (·.block)
def Res.holds (w:World):Res → Prop
  | .blk b o=>w.heap[b]? = some o
  | .row a c e s n xs=>xs.length = n * s ∧ n ≤ c ∧
    ((a = none ∧ c = 0) ∨ ∃ g cur,a = some ⟨g,0,none⟩ ∧ w.heap[g]? = some (.cells cur e (0,0)) ∧ c ≤ maxLen ∧ cur.size = c * s ∧ cur.toList.take (n * s) = xs)
theorem Res.holds_congr {w w':World} {p:Res} (h:p.holds w) (hk:∀ k,p.key = some k → w'.heap[k]? = w.heap[k]?):p.holds w':=by
  cases p with
  | blk b o=>exact (hk b rfl).trans h
  | row a c e s n xs =>
    obtain ⟨h1,h2,h3⟩:=h
    refine ⟨h1,h2,?_⟩
    rcases h3 with h3 | ⟨g,cur,rfl,h4,h5⟩
    · exact .inl h3
    · exact .inr ⟨g,cur,rfl,(hk g rfl).trans h4,h5⟩
theorem Res.lt {w:World} {p:Res} (h:p.holds w) {k:Nat} (hk:p.key = some k):k < w.heap.size:=by
  cases p with
  | blk b o=>cases hk; exact (Array.getElem?_eq_some_iff.1 h).1
  | row a c e s n xs =>
    obtain ⟨_,_,h3⟩:=h
    rcases h3 with ⟨rfl,_⟩ | ⟨g,cur,rfl,h4,_⟩
    · simp [Res.key] at hk
    · simp [Res.key] at hk; subst hk; exact (Array.getElem?_eq_some_iff.1 h4).1
abbrev SH:=List Res
def keys (l:SH):List Nat:=l.filterMap Res.key
/-- w is W with the parts l (new ones, or of the blocks Bo), and possibly other new blocks -/
structure St (W:World) (Bo:List Nat) (w:World) (l:SH):Prop where
  os:w.os = W.os
  tape:w.tape = W.tape
  output:w.output = W.output
  size:W.heap.size ≤ w.heap.size
  old:∀ k,k < W.heap.size → k ∉ Bo → w.heap[k]? = W.heap[k]?
  own:∀ p ∈ l,p.holds w ∧ ∀ k,p.key = some k → (W.heap.size ≤ k ∨ k ∈ Bo)
  nd:(keys l).Nodup
def lkO:List (Nat × Value) → Nat → Option Value
  | [],_=>none
  | (k,v) :: r,t=>bif Nat.beq k t then some v else lkO r t
def evO (F:List (Nat × Value)):Operand → Option Value
  | .tmp t=>lkO F t
  | .const v=>some v
  | .global g=>some (.pointer (some ⟨g,0,none⟩))
  | .func f=>some (.func (.func f) #[] #[])
def evL (F:List (Nat × Value)):List Operand → Option (List Value)
  | []=>some []
  | x :: xs=>match evO F x,evL F xs with
    | some v,some vs=>some (v :: vs)
    | _,_=>none
theorem evL_map {F:List (Nat × Value)}:∀ {xs:List Operand} {vs:List Value},evL F xs = some vs → xs.map (evO F) = vs.map some
  | [],vs,h=>by simp [evL] at h; subst h; rfl
  | x :: xs,vs,h=>by
    unfold evL at h
    cases h1:evO F x with
    | none=>simp [h1] at h
    | some v =>
      cases h2:evL F xs with
      | none=>simp [h1,h2] at h
      | some us=>simp [h1,h2] at h; subst h; simp [h1,evL_map h2]
structure Fr (n:Nat) (F:List (Nat × Value)) (D:List Deferred) (a:Act):Prop where
  size:a.tmps.size = n
  defers:a.defers = D
  slot:∀ t v,lkO F t = some v → a.tmps[t]? = some v
theorem Fr.eval {n:Nat} {F:List (Nat × Value)} {D:List Deferred} {a:Act} (h:Fr n F D a) {x:Operand} {v:Value} (hx:evO F x = some v):a.eval x = v:=by
  cases x with
  | tmp t=>have:=h.slot t v hx; simp [Act.eval,Array.getD_eq_getD_getElem?,this]
  | const c=>simpa [evO,Act.eval] using hx
  | global g=>simpa [evO,Act.eval] using hx
  | func f=>simpa [evO,Act.eval] using hx
theorem Fr.put {n:Nat} {F:List (Nat × Value)} {D:List Deferred} {a:Act} (h:Fr n F D a) (d:Nat) (v:Value) (hd:Nat.blt d n = true) :
    Fr n ((d,v) :: F) D (a.put (some d) v):=by
  have hd':d < n:=by have:=hd; simp [Nat.blt] at this; omega
  refine ⟨by simp [Act.put,h.size],by simp [Act.put,h.defers],?_⟩
  intro t u ht
  simp only [Act.put]
  rw [Array.getElem?_setIfInBounds]
  unfold lkO at ht
  cases hb:Nat.beq d t with
  | true =>
    have e:=Nat.eq_of_beq_eq_true hb
    subst e
    rw [hb] at ht
    simp only [cond_true,Option.some.injEq] at ht
    subst ht
    rw [h.size]; simp [hd']
  | false =>
    have e:=Nat.ne_of_beq_eq_false hb
    rw [hb] at ht
    simp only [cond_false] at ht
    rw [if_neg e]
    exact h.slot t u ht
theorem Fr.put_none {n:Nat} {F:List (Nat × Value)} {D:List Deferred} {a:Act} (h:Fr n F D a) (v:Value):Fr n F D (a.put none v):=h
def Sub (F:List (Nat × Value)):List (Nat × Value) → Prop
  | []=>True
  | (t,v) :: r=>lkO F t = some v ∧ Sub F r
theorem Sub.look {F:List (Nat × Value)}:∀ {G:List (Nat × Value)},Sub F G → ∀ t v,lkO G t = some v → lkO F t = some v
  | [],_,t,v,h=>by simp [lkO] at h
  | (k,u) :: r,hs,t,v,h=>by
    unfold lkO at h
    cases hb:Nat.beq k t with
    | true =>
      have e:=Nat.eq_of_beq_eq_true hb
      subst e
      rw [hb] at h
      simp only [cond_true,Option.some.injEq] at h
      subst h
      exact hs.1
    | false =>
      rw [hb] at h
      exact hs.2.look t v h
theorem Fr.weaken {n:Nat} {F G:List (Nat × Value)} {D:List Deferred} {a:Act} (h:Fr n F D a) (hs:Sub F G):Fr n G D a :=
  ⟨h.size,h.defers,fun t v ht=>h.slot t v (hs.look t v ht)⟩
theorem St.refl (W:World):St W [] W []:=⟨rfl,rfl,rfl,Nat.le_refl _,fun _ _ _=>rfl,fun _ h=>by simp at h,List.nodup_nil⟩
theorem mem_keys {l:SH} {k:Nat}:k ∈ keys l ↔ ∃ p ∈ l,p.key = some k:=by simp [keys,List.mem_filterMap]
theorem St.lt {W w:World} {Bo:List Nat} {l:SH} (h:St W Bo w l) {p:Res} (hp:p ∈ l) {k:Nat} (hk:p.key = some k):k < w.heap.size :=
  Res.lt (h.own p hp).1 hk
theorem St.ltk {W w:World} {Bo:List Nat} {l:SH} (h:St W Bo w l) {k:Nat} (hk:k ∈ keys l):k < w.heap.size:=by
  obtain ⟨p,hp,e⟩:=mem_keys.1 hk
  exact h.lt hp e
theorem St.drew {W w:World} {Bo:List Nat} {l:SH} (h:St W Bo w l):St W Bo w.drew l :=
  ⟨h.os,h.tape,h.output,h.size,h.old,h.own,h.nd⟩
theorem St.below {W w:World} {l:SH} (h:St W [] w l):Below W.heap.size W w :=
  ⟨h.os,h.tape,h.output,h.size,fun k hk=>h.old k hk (by simp)⟩
theorem St.sub {W w:World} {Bo:List Nat} {l l':SH} (h:St W Bo w l) (hs:l'.Sublist l):St W Bo w l' :=
  ⟨h.os,h.tape,h.output,h.size,h.old,fun q hq=>h.own q (hs.subset hq),h.nd.sublist (hs.filterMap _)⟩
theorem St.perm {W w:World} {Bo:List Nat} {l l':SH} (h:St W Bo w l) (hs:l'.Perm l):St W Bo w l' :=
  ⟨h.os,h.tape,h.output,h.size,h.old,fun q hq=>h.own q (hs.mem_iff.1 hq),((hs.filterMap _).nodup_iff).2 h.nd⟩
theorem St.add {W w w':World} {Bo:List Nat} {l:SH} (h:St W Bo w l) {p:Res} (hb:Below w.heap.size w w') (hp:p.holds w') (hk:∀ k,p.key = some k → w.heap.size ≤ k) :
    St W Bo w' (p :: l):=by
  refine ⟨hb.os.trans h.os,hb.tape.trans h.tape,hb.output.trans h.output,Nat.le_trans h.size hb.size,?_,?_,?_⟩
  · intro k h1 h2
    rw [hb.block k (Nat.lt_of_lt_of_le h1 h.size)]
    exact h.old k h1 h2
  · intro q hq
    rcases List.mem_cons.1 hq with rfl | hq
    · exact ⟨hp,fun k h1=>.inl (Nat.le_trans h.size (hk k h1))⟩
    · exact ⟨Res.holds_congr (h.own q hq).1 fun k h1=>hb.block k (h.lt hq h1),(h.own q hq).2⟩
  · unfold keys
    rw [List.filterMap_cons]
    cases hp:p.key with
    | none=>exact h.nd
    | some k =>
      refine List.nodup_cons.2 ⟨?_,h.nd⟩
      intro hm
      have:=h.ltk hm
      have:=hk k hp
      omega
theorem St.alloc {W w:World} {Bo:List Nat} {l:SH} (h:St W Bo w l) (o:Obj):St W Bo (w.alloc o) (.blk w.heap.size o :: l) :=
  h.add ((Below.refl _ _).alloc (Nat.le_refl _) o) (heap_alloc_new w _) (fun k hk=>by cases hk; exact Nat.le_refl _)
theorem St.more {W w w':World} {Bo:List Nat} {l:SH} (h:St W Bo w l) (hb:Below w.heap.size w w'):St W Bo w' l :=
  (h.add (p:=.row none 0 0 0 0 []) hb ⟨by simp,by simp,.inl ⟨rfl,rfl⟩⟩ (fun k hk=>by simp [Res.key] at hk)).sub (List.sublist_cons_self _ _)
/-- a list with one entry replaced, found by its place -/
inductive Rep (p p':Res):SH → SH → Prop
  | head (l:SH):Rep p p' (p :: l) (p' :: l)
  | tail (q:Res) {l l':SH} (h:Rep p p' l l'):Rep p p' (q :: l) (q :: l')
theorem Rep.mem {p p':Res} {l l':SH} (h:Rep p p' l l'):p ∈ l:=by
  induction h with
  | head=>exact .head _
  | tail q _ ih=>exact .tail _ ih
theorem Rep.split {p p':Res} {l l':SH} (h:Rep p p' l l'):∃ l1 l2,l = l1 ++ p :: l2 ∧ l' = l1 ++ p' :: l2:=by
  induction h with
  | head l=>exact ⟨[],l,rfl,rfl⟩
  | tail q _ ih=>obtain ⟨l1,l2,rfl,rfl⟩:=ih; exact ⟨q :: l1,l2,rfl,rfl⟩
theorem St.change {W w w':World} {Bo:List Nat} {l l':SH} {p p':Res} (h:St W Bo w l) (hr:Rep p p' l l')
    (hos:w'.os = w.os) (ht:w'.tape = w.tape) (ho:w'.output = w.output) (hs:w.heap.size ≤ w'.heap.size)
    (hk:∀ k,k < w.heap.size → p.key ≠ some k → w'.heap[k]? = w.heap[k]?) (hp:p'.holds w')
    (hkey:∀ k,p'.key = some k → p.key = some k ∨ w.heap.size ≤ k):St W Bo w' l':=by
  obtain ⟨l1,l2,rfl,rfl⟩:=hr.split
  have hpm:p ∈ l1 ++ p :: l2:=by simp
  have hnd:=h.nd
  have hsub:(l1 ++ l2).Sublist (l1 ++ p :: l2):=List.Sublist.append_left (List.sublist_cons_self _ _) _
  have h0:=h.sub hsub
  have hne:∀ q ∈ l1 ++ l2,∀ k,q.key = some k → p.key ≠ some k:=by
    intro q hq k hqk hpk
    have hnd':(keys (p :: (l1 ++ l2))).Nodup:=((List.perm_middle.filterMap Res.key).nodup_iff).1 hnd
    unfold keys at hnd'
    rw [List.filterMap_cons,hpk,List.nodup_cons] at hnd'
    exact hnd'.1 (mem_keys.2 ⟨q,hq,hqk⟩)
  have h1:St W Bo w' (l1 ++ l2):=by
    refine ⟨hos.trans h.os,ht.trans h.tape,ho.trans h.output,Nat.le_trans h.size hs,?_,?_,h0.nd⟩
    · intro k h1 h2
      rw [hk k (Nat.lt_of_lt_of_le h1 h.size)]
      · exact h.old k h1 h2
      · intro e
        rcases (h.own p hpm).2 k e with h3 | h3
        · omega
        · exact h2 h3
    · intro q hq
      exact ⟨Res.holds_congr (h0.own q hq).1 fun k h3=>hk k (h0.lt hq h3) (hne q hq k h3),(h0.own q hq).2⟩
  have h2:St W Bo w' (p' :: (l1 ++ l2)):=by
    refine ⟨h1.os,h1.tape,h1.output,h1.size,h1.old,?_,?_⟩
    · intro q hq
      rcases List.mem_cons.1 hq with rfl | hq
      · refine ⟨hp,fun k h3=>?_⟩
        rcases hkey k h3 with h4 | h4
        · exact (h.own p hpm).2 k h4
        · exact .inl (Nat.le_trans h.size h4)
      · exact h1.own q hq
    · unfold keys
      rw [List.filterMap_cons]
      cases hpk:p'.key with
      | none=>exact h1.nd
      | some k =>
        refine List.nodup_cons.2 ⟨?_,h1.nd⟩
        intro hm
        obtain ⟨q,hq,hqk⟩:=mem_keys.1 hm
        rcases hkey k hpk with h4 | h4
        · exact hne q hq k hqk h4
        · have:=h0.lt hq hqk
          omega
  exact h2.perm List.perm_middle
theorem St.trans {W w w':World} {Bo:List Nat} {l l':SH} (h:St W Bo w l) (h':St w [] w' l'):St W Bo w' (l' ++ l):=by
  refine ⟨h'.os.trans h.os,h'.tape.trans h.tape,h'.output.trans h.output,Nat.le_trans h.size h'.size,?_,?_,?_⟩
  · intro k hk hb
    rw [h'.old k (by have:=h.size; omega) (by simp)]
    exact h.old k hk hb
  · intro p hp
    rcases List.mem_append.1 hp with hp | hp
    · refine ⟨(h'.own p hp).1,fun k hk=>?_⟩
      rcases (h'.own p hp).2 k hk with h1 | h1
      · exact .inl (Nat.le_trans h.size h1)
      · simp at h1
    · exact ⟨Res.holds_congr (h.own p hp).1 fun k hk=>h'.old k (h.lt hp hk) (by simp),(h.own p hp).2⟩
  · unfold keys
    rw [List.filterMap_append,List.nodup_append]
    refine ⟨h'.nd,h.nd,?_⟩
    intro x hx y hy e
    subst e
    obtain ⟨p,hp,hpk⟩:=mem_keys.1 hx
    have h2:=h.ltk hy
    rcases (h'.own p hp).2 _ hpk with h1 | h1
    · omega
    · simp at h1
theorem St.trans1 {W w w':World} {Bo:List Nat} {l l1 l':SH} {b:Nat} {o o':Obj} (h:St W Bo w l) (hr:Rep (.blk b o) (.blk b o') l l1)
    (h':St w [b] w' (.blk b o' :: l')):St W Bo w' (l' ++ l1):=by
  have h1:St W Bo w' l1:=by
    refine h.change hr h'.os h'.tape h'.output h'.size ?_ (h'.own _ (.head _)).1 (fun k hk=>.inl hk)
    intro k hk hne
    exact h'.old k hk (by intro e; rw [List.mem_singleton] at e; exact hne (by rw [e]; rfl))
  have hnd:=h'.nd
  unfold keys at hnd
  rw [List.filterMap_cons] at hnd
  simp only [Res.key] at hnd
  rw [List.nodup_cons] at hnd
  refine ⟨h1.os,h1.tape,h1.output,h1.size,h1.old,?_,?_⟩
  · intro p hp
    rcases List.mem_append.1 hp with hp | hp
    · refine ⟨(h'.own p (.tail _ hp)).1,fun k hk=>?_⟩
      rcases (h'.own p (.tail _ hp)).2 k hk with h2 | h2
      · exact .inl (Nat.le_trans h.size h2)
      · rw [List.mem_singleton] at h2
        subst h2
        exact absurd (mem_keys.2 ⟨p,hp,hk⟩) hnd.1
    · exact h1.own p hp
  · unfold keys
    rw [List.filterMap_append,List.nodup_append]
    refine ⟨hnd.2,h1.nd,?_⟩
    intro x hx y hy e
    subst e
    obtain ⟨p,hp,hpk⟩:=mem_keys.1 hx
    obtain ⟨l3,l4,rfl,rfl⟩:=hr.split
    have hy':x ∈ keys (l3 ++ .blk b o :: l4):=by
      unfold keys
      simpa [List.filterMap_append,List.filterMap_cons,Res.key] using hy
    have h3:=h.ltk hy'
    rcases (h'.own p (.tail _ hp)).2 _ hpk with h2 | h2
    · omega
    · rw [List.mem_singleton] at h2
      subst h2
      exact absurd (mem_keys.2 ⟨p,hp,hpk⟩) hnd.1
section
variable (r:Option Nat) (P:Program) (n:Nat) (D:List Deferred) (W:World) (Bo:List Nat)
def CP (c:Code) (Q:Exit → Act → World → Prop) (F:List (Nat × Value)) (l:SH):Prop :=
  ∀ a w,Fr n F D a → St W Bo w l → c.wpIn (Fw r) 0 P Q a w
def LP (ops:Array Oper) (Q:Exit → Act → World → Prop) (rest:List Oper) (F:List (Nat × Value)) (l:SH):Prop :=
  ∀ a w,Fr n F D a → St W Bo w l → wpListIn (Fw r) 0 P ops Q rest a w
def QP (Q:Exit → Act → World → Prop) (e:Exit) (F:List (Nat × Value)) (l:SH):Prop :=
  ∀ a w,Fr n F D a → St W Bo w l → Q e a w
def Y (o:Oper) (F:List (Nat × Value)) (l:SH) (v:Value):Prop :=
  (∀ c,o.op ≠ .defer c) ∧ ∀ a w,Fr n F D a → St W Bo w l → (execOp a.eval o).run P w = .ok (.value v) w
end
section
variable {r:Option Nat} {P:Program} {n:Nat} {D:List Deferred} {W:World} {Bo:List Nat} {Q Q':Exit → Act → World → Prop}
  {F G:List (Nat × Value)} {l l':SH} {ops:Array Oper} {rest:List Oper} {c c1 c2:Code}
theorem c_sub (hs:l'.Sublist l) (h:CP r P n D W Bo c Q F l'):CP r P n D W Bo c Q F l:=fun a w ha hw=>h a w ha (hw.sub hs)
theorem q_sub {e:Exit} (hs:l'.Sublist l) (h:QP n D W Bo Q e F l'):QP n D W Bo Q e F l:=fun a w ha hw=>h a w ha (hw.sub hs)
theorem q_perm {e:Exit} (hs:l'.Perm l) (h:QP n D W Bo Q e F l'):QP n D W Bo Q e F l:=fun a w ha hw=>h a w ha (hw.perm hs)
theorem c_seq (h:CP r P n D W Bo c1 (Exit.then (c2.wpIn (Fw r) 0 P Q) Q) F l):CP r P n D W Bo (c1.seq c2) Q F l :=
  fun a w ha hw=>wpIn_seq (h a w ha hw)
theorem c_skip (h:QP n D W Bo Q .normal F l):CP r P n D W Bo .skip Q F l:=fun a w ha hw=>wpIn_skip (h a w ha hw)
theorem c_ret (h:QP n D W Bo Q .ret F l):CP r P n D W Bo .ret Q F l:=fun a w ha hw=>wpIn_ret (h a w ha hw)
theorem c_exit {id:Nat} (h:QP n D W Bo Q (.exit id) F l):CP r P n D W Bo (.exit id) Q F l:=fun a w ha hw=>wpIn_exit (h a w ha hw)
theorem c_block {id:Nat} (h:CP r P n D W Bo c (Exit.inBlock id Q) F l):CP r P n D W Bo (.block id c) Q F l :=
  fun a w ha hw=>wpIn_block (h a w ha hw)
theorem c_true {x:Operand} (hx:evO F x = some (.bool true)) (h:CP r P n D W Bo c1 Q F l):CP r P n D W Bo (.cond x c1 c2) Q F l :=
  fun a w ha hw=>wpIn_cond_true (ha.eval hx) (h a w ha hw)
theorem c_false {x:Operand} (hx:evO F x = some (.bool false)) (h:CP r P n D W Bo c2 Q F l):CP r P n D W Bo (.cond x c1 c2) Q F l :=
  fun a w ha hw=>wpIn_cond_false (ha.eval hx) (h a w ha hw)
theorem c_if {x:Operand} {b:Bool} (hx:evO F x = some (.bool b)) (h1:b = true → CP r P n D W Bo c1 Q F l) (h2:b = false → CP r P n D W Bo c2 Q F l) :
    CP r P n D W Bo (.cond x c1 c2) Q F l:=by
  cases b with
  | true=>exact c_true hx (h1 rfl)
  | false=>exact c_false hx (h2 rfl)
theorem c_ifd {x:Operand} {p:Prop} [dp:Decidable p] (h1:p → CP r P n D W Bo c1 Q F l) (h2:¬ p → CP r P n D W Bo c2 Q F l) (hx:evO F x = some (.bool (decide p)):=by rfl) :
    CP r P n D W Bo (.cond x c1 c2) Q F l:=by
  by_cases hp:p
  · exact c_true (by rw [hx,decide_eq_true hp]) (h1 hp)
  · exact c_false (by rw [hx,decide_eq_false hp]) (h2 hp)
theorem c_ifn {x:Operand} {p:Prop} [dp:Decidable p] (h1:¬ p → CP r P n D W Bo c1 Q F l) (h2:p → CP r P n D W Bo c2 Q F l) (hx:evO F x = some (.bool (!decide p)):=by rfl) :
    CP r P n D W Bo (.cond x c1 c2) Q F l:=by
  by_cases hp:p
  · exact c_false (by rw [hx,decide_eq_true hp]; rfl) (h2 hp)
  · exact c_true (by rw [hx,decide_eq_false hp]; rfl) (h1 hp)
theorem c_t {x:Operand} (h:CP r P n D W Bo c1 Q F l) (hx:evO F x = some (.bool true):=by rfl):CP r P n D W Bo (.cond x c1 c2) Q F l:=c_true hx h
theorem c_f {x:Operand} (h:CP r P n D W Bo c2 Q F l) (hx:evO F x = some (.bool false):=by rfl):CP r P n D W Bo (.cond x c1 c2) Q F l:=c_false hx h
theorem c_reg {id:Nat} {os:List Oper} (h:LP r P n D W Bo os.toArray Q os F l):CP r P n D W Bo (.region id os.toArray false) Q F l :=
  fun a w ha hw=>wpIn_region_lit (h a w ha hw)
theorem c_cut {R:Act → World → Prop} (h:CP r P n D W Bo c (fun e a w=>e = .normal ∧ R a w) F l) (hq:∀ a w,R a w → Q .normal a w):CP r P n D W Bo c Q F l :=
  fun a w ha hw=>wpIn_mono (h a w ha hw) fun e a' w' hh=>by obtain ⟨rfl,h2⟩:=hh; exact hq _ _ h2
theorem q_then (h:CP r P n D W Bo c Q F l):QP n D W Bo (Exit.then (c.wpIn (Fw r) 0 P Q) Q') .normal F l:=h
theorem q_ret {K:Act → World → Prop} (h:QP n D W Bo Q .ret F l):QP n D W Bo (Exit.then K Q) .ret F l:=h
theorem q_retb {id:Nat} (h:QP n D W Bo Q .ret F l):QP n D W Bo (Exit.inBlock id Q) .ret F l:=h
theorem q_ex {K:Act → World → Prop} {id:Nat} (h:QP n D W Bo Q (.exit id) F l):QP n D W Bo (Exit.then K Q) (.exit id) F l:=h
theorem q_exb {id:Nat} (h:QP n D W Bo Q .normal F l):QP n D W Bo (Exit.inBlock id Q) (.exit id) F l:=by
  intro a w ha hw; simp only [Exit.inBlock,if_true]; exact h a w ha hw
theorem q_exn {id i:Nat} (hne:Nat.beq i id = false) (h:QP n D W Bo Q (.exit i) F l):QP n D W Bo (Exit.inBlock id Q) (.exit i) F l:=by
  intro a w ha hw
  have e:=Nat.ne_of_beq_eq_false hne
  simp only [Exit.inBlock,if_neg e]; exact h a w ha hw
theorem q_nb {id:Nat} (h:QP n D W Bo Q .normal F l):QP n D W Bo (Exit.inBlock id Q) .normal F l:=h
theorem c_loop {σ:Type} (Fx:σ → List (Nat × Value)) (lx:σ → SH) (I:σ → Prop) (m:σ → Nat) (x:σ) (hx:I x) (hF:Sub F (Fx x)) (hl:(lx x).Sublist l)
    (h:∀ x,I x → CP r P n D W Bo c (Exit.then (fun a w=>∃ y,I y ∧ m y < m x ∧ Fr n (Fx y) D a ∧ St W Bo w (lx y)) Q) (Fx x) (lx x)) :
    CP r P n D W Bo (.loop c) Q F l:=by
  intro a w ha hw
  let J:Nat → Act → World → Prop:=fun k a w=>∃ y,I y ∧ m y = k ∧ Fr n (Fx y) D a ∧ St W Bo w (lx y)
  have h0:∃ k,J k a w:=⟨_,x,hx,rfl,ha.weaken hF,hw.sub hl⟩
  have key:=wpIn_loop (F:=Fw r) (n:=0) (P:=P) (Q:=Q) (c:=c) (a:=a) (w:=w) (fun a w=>∃ k,J k a w) (fun a w=>leastOf (fun k=>J k a w)) h0
  apply key
  intro a w hI
  have hlst:=(leastOf_spec hI).1
  obtain ⟨y,hy,hm,hya,hyw⟩:=hlst
  refine wpIn_mono (h y hy a w hya hyw) ?_
  intro e a' w' hq
  cases e with
  | normal =>
    obtain ⟨z,hz,hlt,hza,hzw⟩:=hq
    have hJ:J (m z) a' w':=⟨z,hz,rfl,hza,hzw⟩
    exact show (∃ k,J k a' w') ∧ leastOf (fun k=>J k a' w') < leastOf (fun k=>J k a w) from
      ⟨⟨_,hJ⟩,Nat.lt_of_le_of_lt ((leastOf_spec ⟨_,hJ⟩).2 _ hJ) (hm ▸ hlt)⟩
  | exit id=>exact hq
  | goto l=>exact hq
  | ret=>exact hq
  | panic ch=>exact hq
  | outgrown=>exact hq
theorem c_loop2 {σ τ:Type} (Fx:σ → τ → List (Nat × Value)) (lx:σ → τ → SH) (I:σ → τ → Prop) (m:σ → τ → Nat) (x:σ) (y:τ) (hx:I x y) (hF:Sub F (Fx x y)) (hl:(lx x y).Sublist l)
    (h:∀ x y,I x y → CP r P n D W Bo c (Exit.then (fun a w=>∃ x' y',I x' y' ∧ m x' y' < m x y ∧ Fr n (Fx x' y') D a ∧ St W Bo w (lx x' y')) Q) (Fx x y) (lx x y)) :
    CP r P n D W Bo (.loop c) Q F l :=
  c_loop (fun p:σ × τ=>Fx p.1 p.2) (fun p=>lx p.1 p.2) (fun p=>I p.1 p.2) (fun p=>m p.1 p.2) (x,y) hx hF hl fun ⟨x,y⟩ hI a w ha hw =>
    wpIn_mono (h x y hI a w ha hw) fun e a' w' q=>by
      cases e with
      | normal=>obtain ⟨x',y',h1,h2,h3,h4⟩:=q; exact ⟨(x',y'),h1,h2,h3,h4⟩
      | exit id=>exact q
      | goto l=>exact q
      | ret=>exact q
      | panic ch=>exact q
      | outgrown=>exact q
theorem q_round2 {σ τ:Type} {Fx:σ → τ → List (Nat × Value)} {lx:σ → τ → SH} {I:σ → τ → Prop} {m:σ → τ → Nat} {x:σ} {y:τ} (x':σ) (y':τ) (hy:I x' y') (hm:m x' y' < m x y) (hF:Sub F (Fx x' y')) (hl:(lx x' y').Sublist l) :
    QP n D W Bo (Exit.then (fun a w=>∃ x' y',I x' y' ∧ m x' y' < m x y ∧ Fr n (Fx x' y') D a ∧ St W Bo w (lx x' y')) Q) .normal F l :=
  fun _ _ ha hw=>⟨x',y',hy,hm,ha.weaken hF,hw.sub hl⟩
theorem c_loop3 {σ τ υ:Type} (Fx:σ → τ → υ → List (Nat × Value)) (lx:σ → τ → υ → SH) (I:σ → τ → υ → Prop) (m:σ → τ → υ → Nat) (x:σ) (y:τ) (z:υ) (hx:I x y z) (hF:Sub F (Fx x y z)) (hl:(lx x y z).Sublist l)
    (h:∀ x y z,I x y z → CP r P n D W Bo c (Exit.then (fun a w=>∃ x' y' z',I x' y' z' ∧ m x' y' z' < m x y z ∧ Fr n (Fx x' y' z') D a ∧ St W Bo w (lx x' y' z')) Q) (Fx x y z) (lx x y z)) :
    CP r P n D W Bo (.loop c) Q F l :=
  c_loop (fun p:σ × τ × υ=>Fx p.1 p.2.1 p.2.2) (fun p=>lx p.1 p.2.1 p.2.2) (fun p=>I p.1 p.2.1 p.2.2) (fun p=>m p.1 p.2.1 p.2.2) (x,y,z) hx hF hl fun ⟨x,y,z⟩ hI a w ha hw =>
    wpIn_mono (h x y z hI a w ha hw) fun e a' w' q=>by
      cases e with
      | normal=>obtain ⟨x',y',z',h1,h2,h3,h4⟩:=q; exact ⟨(x',y',z'),h1,h2,h3,h4⟩
      | exit id=>exact q
      | goto l=>exact q
      | ret=>exact q
      | panic ch=>exact q
      | outgrown=>exact q
theorem q_round3 {σ τ υ:Type} {Fx:σ → τ → υ → List (Nat × Value)} {lx:σ → τ → υ → SH} {I:σ → τ → υ → Prop} {m:σ → τ → υ → Nat} {x:σ} {y:τ} {z:υ} (x':σ) (y':τ) (z':υ) (hy:I x' y' z') (hm:m x' y' z' < m x y z) (hF:Sub F (Fx x' y' z')) (hl:(lx x' y' z').Sublist l) :
    QP n D W Bo (Exit.then (fun a w=>∃ x' y' z',I x' y' z' ∧ m x' y' z' < m x y z ∧ Fr n (Fx x' y' z') D a ∧ St W Bo w (lx x' y' z')) Q) .normal F l :=
  fun _ _ ha hw=>⟨x',y',z',hy,hm,ha.weaken hF,hw.sub hl⟩
theorem q_round {σ:Type} {Fx:σ → List (Nat × Value)} {lx:σ → SH} {I:σ → Prop} {m:σ → Nat} {x:σ} (y:σ) (hy:I y) (hm:m y < m x) (hF:Sub F (Fx y)) (hl:(lx y).Sublist l) :
    QP n D W Bo (Exit.then (fun a w=>∃ y,I y ∧ m y < m x ∧ Fr n (Fx y) D a ∧ St W Bo w (lx y)) Q) .normal F l :=
  fun _ _ ha hw=>⟨y,hy,hm,ha.weaken hF,hw.sub hl⟩
theorem s_nil (h:QP n D W Bo Q .normal F l):LP r P n D W Bo ops Q [] F l:=fun a w ha hw=>wpListIn_nil (h a w ha hw)
theorem semAt_eq {o:Oper} (ρ:Operand → Value) (h:∀ c,o.op ≠ .defer c):o.semAt (Fw r).round ρ = execOp ρ o:=Oper.semAt_eq _ _ _ h
theorem wanted_of {o:Oper} {j d:Nat} {b:Bool} (hg:o.guard = some (j,b)) (hj:(ops[j]?).bind (·.dst) = some d) (hv:lkO F d = some (.bool b)) {a:Act} (ha:Fr n F D a) :
    Region.wanted o (yielded ops a.tmps) = true:=by
  simp only [Region.wanted,hg,yielded,hj,Option.bind_some,ha.slot d _ hv]
  simp
theorem unwanted_of {o:Oper} {j d:Nat} {b b':Bool} (hg:o.guard = some (j,b)) (hj:(ops[j]?).bind (·.dst) = some d) (hv:lkO F d = some (.bool b')) (hb:(b' == b) = false) {a:Act} (ha:Fr n F D a) :
    Region.wanted o (yielded ops a.tmps) = false:=by
  simp only [Region.wanted,hg,yielded,hj,Option.bind_some,ha.slot d _ hv]
  simpa using hb
/-- an operation is carried out: it has no guard, or its guard says yes -/
inductive Wn (ops:Array Oper) (F:List (Nat × Value)):Option (Nat × Bool) → Prop
  | none:Wn ops F none
  | some {j e:Nat} {b:Bool} (hj:(ops[j]?).bind (·.dst) = some e) (hv:lkO F e = some (.bool b)):Wn ops F (some (j,b))
theorem Wn.wanted {o:Oper} {g:Option (Nat × Bool)} (h:Wn ops F g) (hg:o.guard = g) {a:Act} (ha:Fr n F D a):Region.wanted o (yielded ops a.tmps) = true:=by
  cases h with
  | none=>simp [Region.wanted,hg]
  | some hj hv=>exact wanted_of hg hj hv ha
theorem wpListIn_of {Fc:Fence} {k:Nat} {o:Oper} {a:Act} {w:World} (hw:Region.wanted o (yielded ops a.tmps) = true) (h:o.wpIn Fc k P a w (wpListIn Fc k P ops Q rest) Q):wpListIn Fc k P ops Q (o :: rest) a w:=by
  simp only [wpListIn]
  rw [if_pos hw]; exact h
theorem s_y {op:Op} {ty:TypeId} {ps:String} {af:Array Edge} {g:Option (Nat × Bool)} {d:Nat} {v:Value} (hy:Y P n D W Bo ⟨some d,op,ty,ps,af,g⟩ F l v) (h:LP r P n D W Bo ops Q rest ((d,v) :: F) l)
    (hn:Nat.blt d n = true:=by rfl) (hg:Wn ops F g:=by first | exact .none | exact .some rfl rfl):LP r P n D W Bo ops Q (⟨some d,op,ty,ps,af,g⟩ :: rest) F l:=by
  intro a w ha hw
  refine wpListIn_of (hg.wanted rfl ha) ?_
  refine ⟨fun f _=>trivial,?_⟩
  rw [semAt_eq _ hy.1,hy.2 a w ha hw]
  exact h _ _ (ha.put d v hn) hw
theorem s_no {op:Op} {ty:TypeId} {ps:String} {af:Array Edge} {d j e:Nat} {b b':Bool} (h:LP r P n D W Bo ops Q rest ((d,undef) :: F) l) (hn:Nat.blt d n = true:=by rfl)
    (hj:(ops[j]?).bind (·.dst) = some e:=by rfl) (hv:lkO F e = some (.bool b'):=by rfl) (hb:(b' == b) = false:=by rfl):LP r P n D W Bo ops Q (⟨some d,op,ty,ps,af,some (j,b)⟩ :: rest) F l:=by
  intro a w ha hw
  simp only [wpListIn]
  rw [unwanted_of (o:=⟨some d,op,ty,ps,af,some (j,b)⟩) rfl hj hv hb ha]
  exact ⟨fun f _=>trivial,h _ _ (ha.put d _ hn) hw⟩
theorem s_ifd {op:Op} {ty:TypeId} {ps:String} {af:Array Edge} {g:Option (Nat × Bool)} {d:Nat} {p:Prop} [dp:Decidable p] (hy:Y P n D W Bo ⟨some d,op,ty,ps,af,g⟩ F l (.bool (decide p)))
    (h1:p → LP r P n D W Bo ops Q rest ((d,.bool true) :: F) l) (h2:¬ p → LP r P n D W Bo ops Q rest ((d,.bool false) :: F) l) (hn:Nat.blt d n = true:=by rfl) (hg:Wn ops F g:=by first | exact .none | exact .some rfl rfl) :
    LP r P n D W Bo ops Q (⟨some d,op,ty,ps,af,g⟩ :: rest) F l:=by
  by_cases hp:p
  · exact s_y hy (by rw [decide_eq_true hp]; exact h1 hp) hn hg
  · exact s_y hy (by rw [decide_eq_false hp]; exact h2 hp) hn hg
end
end Eng
namespace Eng
open Go Go.RowKit
class HU (P:Program) (t:TypeId) (d:outParam TypeDesc):Prop where
  h:P.underlying t = some d
class HZ (P:Program) (t:TypeId) (z:outParam Value):Prop where
  h:∀ w,(zeroValue t).run P w = .ok z w
class HS (P:Program) (t:TypeId) (size bytes:outParam Nat):Prop where
  h:∃ i,P.info? t = some i ∧ i.size = size ∧ i.bytes = bytes
def flat:TypeDesc → Bool
  | .struct _ | .array _ _=>false
  | _=>true
class HT (P:Program) (t:TypeId) (b:outParam Bool):Prop where
  h:∃ d,P.underlying t = some d ∧ flat d = b
class HI (P:Program) (t:TypeId):Prop where
  h:∃ ms,P.underlying t = some (.interface ms)
/-- a field of a struct: its type, its place -/
class HD (P:Program) (t:TypeId) (i:Nat) (ft off:outParam Nat):Prop where
  h:∃ fs f,P.underlying t = some (.struct fs) ∧ fs[i]? = some f ∧ f.type = ft ∧ f.offset = off
theorem HS.of {P:Program} {t:TypeId} {size bytes:Nat} (h:(P.info? t).map (fun i=>(i.size,i.bytes)) = some (size,bytes)):HS P t size bytes:=by
  cases hi:P.info? t with
  | none=>rw [hi] at h; cases h
  | some i=>rw [hi] at h; simp at h; exact ⟨i,hi,h.1,h.2⟩
@[reducible] def B (x:UInt8):Value:=.int .u8 (x.toNat:Int)
@[reducible] def W32 (x:UInt32):Value:=.int .u32 (x.toNat:Int)
@[reducible] def I (z:Int):Value:=.int .i64 z
@[reducible] def U (x:Nat):Value:=.int .u64 (x:Int)
def R64 (z:Int):Prop:=-9223372036854775808 ≤ z ∧ z ≤ 9223372036854775807
theorem wrap_i64 {z:Int} (h:R64 z):IntKind.i64.wrap z = z:=by
  unfold R64 at h
  have e1:(2:Int) ^ IntKind.i64.bits = 18446744073709551616:=by decide
  have e2:(2:Int) ^ (IntKind.i64.bits - 1) = 9223372036854775808:=by decide
  have e3:IntKind.i64.signed = true:=rfl
  simp only [IntKind.wrap,e1,e2,e3,Bool.true_and,decide_eq_true_eq]
  split <;> omega
theorem wrap_u64 {z:Int} (h0:0 ≤ z) (h:z < 18446744073709551616):IntKind.u64.wrap z = z:=by
  simp only [IntKind.wrap,IntKind.bits,IntKind.signed,Bool.false_and]
  rw [show (2:Int) ^ 64 = 18446744073709551616 by decide]
  simp; omega
theorem wrap_u8 (z:Int):IntKind.u8.wrap z = z % 256:=by
  simp only [IntKind.wrap,IntKind.bits,IntKind.signed,Bool.false_and]
  rw [show (2:Int) ^ 8 = 256 by decide]
  simp
theorem wrap_u32 (z:Int):IntKind.u32.wrap z = z % 4294967296:=by
  simp only [IntKind.wrap,IntKind.bits,IntKind.signed,Bool.false_and]
  rw [show (2:Int) ^ 32 = 4294967296 by decide]
  simp
theorem wrap_u64' (z:Int):IntKind.u64.wrap z = z % 18446744073709551616:=by
  simp only [IntKind.wrap,IntKind.bits,IntKind.signed,Bool.false_and]
  rw [show (2:Int) ^ 64 = 18446744073709551616 by decide]
  simp
theorem bits32 (p q:UInt32) (f:BitVec 32 → BitVec 32 → BitVec 32) (r:UInt32) (h:f p.toBitVec q.toBitVec = r.toBitVec) :
    IntKind.u32.wrap ((f (BitVec.ofInt 32 (p.toNat:Int)) (BitVec.ofInt 32 (q.toNat:Int))).toNat:Int) = (r.toNat:Int):=by
  have e:∀ x:UInt32,BitVec.ofInt 32 (x.toNat:Int) = x.toBitVec:=by
    intro x; rw [BitVec.ofInt_natCast]; exact BitVec.eq_of_toNat_eq (by simp)
  rw [e,e,h,wrap_u32]
  have:=r.toBitVec.isLt
  show ((r.toNat:Int)) % 4294967296 = _
  have h2:r.toNat < 4294967296:=this
  omega
theorem run_shr (P:Program) (w:World) (k yk:IntKind) (p:Int) (m:Nat):(Op.shift .shr k p yk (m:Int)).run P w = .ok (.int k (p.fdiv (2 ^ (min m k.bits)))) w:=by
  unfold Op.shift
  rw [if_neg (by omega),Int.toNat_natCast]; rfl
theorem run_shl (P:Program) (w:World) (k yk:IntKind) (p:Int) (m:Nat):(Op.shift .shl k p yk (m:Int)).run P w = .ok (.int k (k.wrap (p * 2 ^ (min m k.bits)))) w:=by
  unfold Op.shift
  rw [if_neg (by omega),Int.toNat_natCast]; rfl
theorem exec_bin (P:Program) (w w':World) (ρ:Operand → Value) (d:Option Tmp) (op:BinOp) (ta tb:TypeId) (x y:Operand) (ty:TypeId) (ps:String) (af:Array Edge) (g:Option (Nat × Bool)) (v:Value)
    (hop:op ≠ .eql ∧ op ≠ .neq) (h:(binOp op ta (ρ x) (ρ y)).run P w = .ok v w'):(execOp ρ ⟨d,.binOp op ta x y tb,ty,ps,af,g⟩).run P w = .ok (.value v) w':=by
  have:eqGuard op ta x y (ρ x) (ρ y) = pure ():=by
    unfold eqGuard
    cases op <;> first | rfl | exact absurd rfl hop.1 | exact absurd rfl hop.2
  simp only [execOp,this,Sem.run_bind,Sem.run_pure,Result.andThen_ok,h]
section
variable {P:Program} {n:Nat} {D:List Deferred} {W:World} {Bo:List Nat} {F:List (Nat × Value)} {l:SH}
  {d:Option Tmp} {ty:TypeId} {ps:String} {af:Array Edge} {g:Option (Nat × Bool)} {x y z:Operand} {v u:Value} {ta tb:TypeId}
theorem Y.mk {o:Oper} (h2:∀ c,o.op ≠ .defer c) (h:∀ a w,Fr n F D a → St W Bo w l → (execOp a.eval o).run P w = .ok (.value v) w):Y P n D W Bo o F l v:=⟨h2,h⟩
theorem y_mv (hx:evO F x = some v:=by rfl):Y P n D W Bo ⟨d,.move x,ty,ps,af,g⟩ F l v :=
  .mk (by simp) fun a w ha _=>by simp [execOp,ha.eval hx,pure]
theorem y_as (hx:evO F x = some v:=by rfl):Y P n D W Bo ⟨d,.assign x,ty,ps,af,g⟩ F l v :=
  .mk (by simp) fun a w ha _=>by simp [execOp,ha.eval hx,pure]
theorem y_pkT (hc:evO F x = some (.bool true):=by rfl) (hx:evO F y = some v:=by rfl):Y P n D W Bo ⟨d,.pick x y z,ty,ps,af,g⟩ F l v :=
  .mk (by simp) fun a w ha _=>by simp [execOp,ha.eval hc,ha.eval hx,asBool]
theorem y_pkF (hc:evO F x = some (.bool false):=by rfl) (hx:evO F z = some v:=by rfl):Y P n D W Bo ⟨d,.pick x y z,ty,ps,af,g⟩ F l v :=
  .mk (by simp) fun a w ha _=>by simp [execOp,ha.eval hc,ha.eval hx,asBool]
theorem y_pk {b:Bool} (hc:evO F x = some (.bool b):=by rfl) (h1:b = true → evO F y = some v:=by first | (intro h; cases h; done) | (intro _; rfl)) (h2:b = false → evO F z = some v:=by first | (intro h; cases h; done) | (intro _; rfl)) :
    Y P n D W Bo ⟨d,.pick x y z,ty,ps,af,g⟩ F l v:=by
  cases b with
  | true=>exact y_pkT hc (h1 rfl)
  | false=>exact y_pkF hc (h2 rfl)
theorem y_ext {vs:Array Value} {i:Nat} (hx:evO F x = some (.tuple vs):=by rfl) (hv:vs[i]? = some v:=by rfl):Y P n D W Bo ⟨d,.extract x i,ty,ps,af,g⟩ F l v :=
  .mk (by simp) fun a w ha _=>by simp [execOp,ha.eval hx,Instr.extract,hv]
theorem y_not {b:Bool} (hx:evO F x = some (.bool b):=by rfl):Y P n D W Bo ⟨d,.unOp .not ta x,ty,ps,af,g⟩ F l (.bool (!b)) :=
  .mk (by simp) fun a w ha _=>by simp [execOp,ha.eval hx,Op.unary]
theorem y_neg {p:Int} (hx:evO F x = some (I p):=by rfl) (hr:R64 (-p):=by (unfold R64; omega)):Y P n D W Bo ⟨d,.unOp .neg ta x,ty,ps,af,g⟩ F l (I (-p)) :=
  .mk (by simp) fun a w ha _=>by simp [execOp,ha.eval hx,Op.unary,Op.intArith,wrap_i64 hr]
theorem y_func {fn:Fn} {as9 bs:Array Operand} {fs cs:List Value} (hf:evL F as9.toList = some fs:=by rfl) (hb:evL F bs.toList = some cs:=by rfl) :
    Y P n D W Bo ⟨d,.makeFunc fn as9 bs,ty,ps,af,g⟩ F l (.func fn fs.toArray cs.toArray):=by
  refine .mk (by simp) fun a w ha _=>?_
  have key:∀ (as9:List Operand) (fs:List Value),as9.map (evO F) = fs.map some → as9.map a.eval = fs:=by
    intro as9
    induction as9 with
    | nil=>intro fs h; cases fs with
      | nil=>rfl
      | cons _ _=>simp at h
    | cons x as9 ih=>intro fs h; cases fs with
      | nil=>simp at h
      | cons v fs=>simp at h; simp [ha.eval h.1,ih fs h.2]
  have e1:as9.map a.eval = fs.toArray:=by rw [← Array.toList_inj]; simp [key _ _ (evL_map hf)]
  have e2:bs.map a.eval = cs.toArray:=by rw [← Array.toList_inj]; simp [key _ _ (evL_map hb)]
  simp [execOp,Instr.makeFunc,e1,e2]
theorem y_add {p q:Int} (hx:evO F x = some (I p):=by rfl) (hy:evO F y = some (I q):=by rfl) (hr:R64 (p + q):=by (unfold R64; omega)):Y P n D W Bo ⟨d,.binOp .add ta x y tb,ty,ps,af,g⟩ F l (I (p + q)) :=
  .mk (by simp) fun a w ha _=>by simp [execOp,ha.eval hx,ha.eval hy,eqGuard,binOp,Op.intArith,wrap_i64 hr]
theorem y_sub {p q:Int} (hx:evO F x = some (I p):=by rfl) (hy:evO F y = some (I q):=by rfl) (hr:R64 (p - q):=by (unfold R64; omega)):Y P n D W Bo ⟨d,.binOp .sub ta x y tb,ty,ps,af,g⟩ F l (I (p - q)) :=
  .mk (by simp) fun a w ha _=>by simp [execOp,ha.eval hx,ha.eval hy,eqGuard,binOp,Op.intArith,wrap_i64 hr]
theorem y_mul {p q:Int} (hx:evO F x = some (I p):=by rfl) (hy:evO F y = some (I q):=by rfl) (hr:R64 (p * q):=by (unfold R64; omega)):Y P n D W Bo ⟨d,.binOp .mul ta x y tb,ty,ps,af,g⟩ F l (I (p * q)) :=
  .mk (by simp) fun a w ha _=>by simp [execOp,ha.eval hx,ha.eval hy,eqGuard,binOp,Op.intArith,wrap_i64 hr]
theorem y_lss {k:IntKind} {p q:Int} (hx:evO F x = some (.int k p):=by rfl) (hy:evO F y = some (.int k q):=by rfl):Y P n D W Bo ⟨d,.binOp .lss ta x y tb,ty,ps,af,g⟩ F l (.bool (decide (p < q))) :=
  .mk (by simp) fun a w ha _=>by simp [execOp,ha.eval hx,ha.eval hy,eqGuard,binOp,Op.intCmp]
theorem y_leq {k:IntKind} {p q:Int} (hx:evO F x = some (.int k p):=by rfl) (hy:evO F y = some (.int k q):=by rfl):Y P n D W Bo ⟨d,.binOp .leq ta x y tb,ty,ps,af,g⟩ F l (.bool (decide (p ≤ q))) :=
  .mk (by simp) fun a w ha _=>by simp [execOp,ha.eval hx,ha.eval hy,eqGuard,binOp,Op.intCmp]
theorem y_gtr {k:IntKind} {p q:Int} (hx:evO F x = some (.int k p):=by rfl) (hy:evO F y = some (.int k q):=by rfl):Y P n D W Bo ⟨d,.binOp .gtr ta x y tb,ty,ps,af,g⟩ F l (.bool (decide (q < p))) :=
  .mk (by simp) fun a w ha _=>by simp [execOp,ha.eval hx,ha.eval hy,eqGuard,binOp,Op.intCmp]
theorem y_geq {k:IntKind} {p q:Int} (hx:evO F x = some (.int k p):=by rfl) (hy:evO F y = some (.int k q):=by rfl):Y P n D W Bo ⟨d,.binOp .geq ta x y tb,ty,ps,af,g⟩ F l (.bool (decide (q ≤ p))) :=
  .mk (by simp) fun a w ha _=>by simp [execOp,ha.eval hx,ha.eval hy,eqGuard,binOp,Op.intCmp]
theorem y_eql {k:IntKind} {p q:Int} (hx:evO F x = some (.int k p):=by rfl) (hy:evO F y = some (.int k q):=by rfl):Y P n D W Bo ⟨d,.binOp .eql ta x y tb,ty,ps,af,g⟩ F l (.bool (decide (p = q))) :=
  .mk (by simp) fun a w ha _=>by simp [execOp,ha.eval hx,ha.eval hy,eqGuard,binOp,Op.intCmp]; rfl
theorem y_neq {k:IntKind} {p q:Int} (hx:evO F x = some (.int k p):=by rfl) (hy:evO F y = some (.int k q):=by rfl):Y P n D W Bo ⟨d,.binOp .neq ta x y tb,ty,ps,af,g⟩ F l (.bool (!decide (p = q))) :=
  .mk (by simp) fun a w ha _=>by simp [execOp,ha.eval hx,ha.eval hy,eqGuard,binOp,Op.intCmp]; rfl
theorem y_quo {p q:Int} (hx:evO F x = some (I p):=by rfl) (hy:evO F y = some (I q):=by rfl) (h0:0 ≤ p:=by omega) (h1:0 < q:=by omega) (hr:R64 p:=by (unfold R64; omega)):Y P n D W Bo ⟨d,.binOp .quo ta x y tb,ty,ps,af,g⟩ F l (I (p / q)) :=
  .mk (by simp) fun a w ha _=>by
    have h2:R64 (p / q):=by
      have h3:=Int.ediv_nonneg h0 (Int.le_of_lt h1)
      have h4:=Int.ediv_le_self q h0
      unfold R64 at *; omega
    have h5:q ≠ 0:=by omega
    simp [execOp,ha.eval hx,ha.eval hy,eqGuard,binOp,Op.intDiv,h5,Int.tdiv_eq_ediv_of_nonneg h0,wrap_i64 h2]
theorem y_rem {p q:Int} (hx:evO F x = some (I p):=by rfl) (hy:evO F y = some (I q):=by rfl) (h0:0 ≤ p:=by omega) (h1:0 < q:=by omega) (hr:R64 p:=by (unfold R64; omega)):Y P n D W Bo ⟨d,.binOp .rem ta x y tb,ty,ps,af,g⟩ F l (I (p % q)) :=
  .mk (by simp) fun a w ha _=>by
    have h2:R64 (p % q):=by
      have h3:=Int.emod_nonneg p (show q ≠ 0 by omega)
      have h4:=Int.emod_lt_of_pos p h1
      have h6:p % q ≤ p:=by have:=Int.mul_ediv_add_emod p q; have:=Int.mul_nonneg (Int.le_of_lt h1) (Int.ediv_nonneg h0 (Int.le_of_lt h1)); omega
      unfold R64 at *; omega
    have h5:q ≠ 0:=by omega
    simp [execOp,ha.eval hx,ha.eval hy,eqGuard,binOp,Op.intDiv,h5,Int.tmod_eq_emod_of_nonneg h0]
theorem y_add32 {p q:UInt32} (hx:evO F x = some (W32 p):=by rfl) (hy:evO F y = some (W32 q):=by rfl):Y P n D W Bo ⟨d,.binOp .add ta x y tb,ty,ps,af,g⟩ F l (W32 (p + q)) :=
  .mk (by simp) fun a w ha _=>by
    simp [execOp,ha.eval hx,ha.eval hy,eqGuard,binOp,Op.intArith,wrap_u32]
theorem y_xor32 {p q:UInt32} (hx:evO F x = some (W32 p):=by rfl) (hy:evO F y = some (W32 q):=by rfl):Y P n D W Bo ⟨d,.binOp .xor ta x y tb,ty,ps,af,g⟩ F l (W32 (p ^^^ q)) :=
  .mk (by simp) fun a w ha _=>by
    have h:=bits32 p q (· ^^^ ·) (p ^^^ q) rfl
    simp only [execOp,ha.eval hx,ha.eval hy,eqGuard,binOp]
    show Result.ok (Next.value (.int .u32 (IntKind.u32.wrap _))) w = _
    exact congrArg (fun z=>Result.ok (Next.value (.int .u32 z)) w) h
theorem y_and32 {p q:UInt32} (hx:evO F x = some (W32 p):=by rfl) (hy:evO F y = some (W32 q):=by rfl):Y P n D W Bo ⟨d,.binOp .and ta x y tb,ty,ps,af,g⟩ F l (W32 (p &&& q)) :=
  .mk (by simp) fun a w ha _=>by
    have h:=bits32 p q (· &&& ·) (p &&& q) rfl
    simp only [execOp,ha.eval hx,ha.eval hy,eqGuard,binOp]
    show Result.ok (Next.value (.int .u32 (IntKind.u32.wrap _))) w = _
    exact congrArg (fun z=>Result.ok (Next.value (.int .u32 z)) w) h
theorem y_or32 {p q:UInt32} (hx:evO F x = some (W32 p):=by rfl) (hy:evO F y = some (W32 q):=by rfl):Y P n D W Bo ⟨d,.binOp .or ta x y tb,ty,ps,af,g⟩ F l (W32 (p ||| q)) :=
  .mk (by simp) fun a w ha _=>by
    have h:=bits32 p q (· ||| ·) (p ||| q) rfl
    simp only [execOp,ha.eval hx,ha.eval hy,eqGuard,binOp]
    show Result.ok (Next.value (.int .u32 (IntKind.u32.wrap _))) w = _
    exact congrArg (fun z=>Result.ok (Next.value (.int .u32 z)) w) h
theorem y_shl32 {p:UInt32} {q:Int} {k:IntKind} (hx:evO F x = some (W32 p):=by rfl) (hy:evO F y = some (.int k q):=by rfl) (h0:0 ≤ q:=by decide) (h1:q < 32:=by decide) :
    Y P n D W Bo ⟨d,.binOp .shl ta x y tb,ty,ps,af,g⟩ F l (W32 (p <<< UInt32.ofNat q.toNat)) :=
  .mk (by simp) fun a w ha _=>by
    obtain ⟨m,rfl⟩:=Int.eq_ofNat_of_zero_le h0
    have hm:m < 32:=by omega
    have e2:min m 32 = m:=by omega
    have e3:((p.toNat:Int) * 2 ^ m) % 4294967296 = ((p <<< UInt32.ofNat m).toNat:Int):=by
      rw [UInt32.toNat_shiftLeft,Nat.shiftLeft_eq]
      have:(UInt32.ofNat m).toNat % 32 = m:=by simp; omega
      rw [this]
      simp
    refine exec_bin P w w _ _ _ _ _ _ _ _ _ _ _ _ ⟨by simp,by simp⟩ ?_
    rw [ha.eval hx,ha.eval hy]
    refine (run_shl P w .u32 k _ m).trans ?_
    rw [show min m IntKind.u32.bits = m from e2,wrap_u32,e3]; rfl
theorem y_shr32 {p:UInt32} {q:Int} {k:IntKind} (hx:evO F x = some (W32 p):=by rfl) (hy:evO F y = some (.int k q):=by rfl) (h0:0 ≤ q:=by decide) (h1:q < 32:=by decide) :
    Y P n D W Bo ⟨d,.binOp .shr ta x y tb,ty,ps,af,g⟩ F l (W32 (p >>> UInt32.ofNat q.toNat)) :=
  .mk (by simp) fun a w ha _=>by
    obtain ⟨m,rfl⟩:=Int.eq_ofNat_of_zero_le h0
    have hm:m < 32:=by omega
    have e2:min m 32 = m:=by omega
    have e3:(p.toNat:Int).fdiv (2 ^ m) = ((p >>> UInt32.ofNat m).toNat:Int):=by
      rw [UInt32.toNat_shiftRight,Nat.shiftRight_eq_div_pow]
      have:(UInt32.ofNat m).toNat % 32 = m:=by simp; omega
      rw [this,Int.fdiv_eq_ediv_of_nonneg _ (by exact Int.le_of_lt (Int.pow_pos (by decide)))]
      simp
    refine exec_bin P w w _ _ _ _ _ _ _ _ _ _ _ _ ⟨by simp,by simp⟩ ?_
    rw [ha.eval hx,ha.eval hy]
    refine (run_shr P w .u32 k _ m).trans ?_
    rw [show min m IntKind.u32.bits = m from e2,e3]; rfl
theorem y_shr {p:Nat} {q:Int} {k k':IntKind} (hx:evO F x = some (.int k (p:Int)):=by rfl) (hy:evO F y = some (.int k' q):=by rfl) (h0:0 ≤ q:=by omega) (h1:q ≤ k.bits:=by (simp only [IntKind.bits]; omega)) :
    Y P n D W Bo ⟨d,.binOp .shr ta x y tb,ty,ps,af,g⟩ F l (.int k ((p / 2 ^ q.toNat:Nat):Int)) :=
  .mk (by simp) fun a w ha _=>by
    obtain ⟨m,rfl⟩:=Int.eq_ofNat_of_zero_le h0
    have e2:min m k.bits = m:=by omega
    have e3:(p:Int).fdiv (2 ^ m) = ((p / 2 ^ m:Nat):Int):=by
      rw [Int.fdiv_eq_ediv_of_nonneg _ (by exact Int.le_of_lt (Int.pow_pos (by decide)))]; simp
    refine exec_bin P w w _ _ _ _ _ _ _ _ _ _ _ _ ⟨by simp,by simp⟩ ?_
    rw [ha.eval hx,ha.eval hy]
    refine (run_shr P w k k' _ m).trans ?_
    rw [e2,e3]; rfl
theorem y_sar {p:Int} {q:Int} {k k':IntKind} (hx:evO F x = some (.int k p):=by rfl) (hy:evO F y = some (.int k' q):=by rfl) (h0:0 ≤ q:=by omega) (h1:q ≤ k.bits:=by (simp only [IntKind.bits]; omega)) :
    Y P n D W Bo ⟨d,.binOp .shr ta x y tb,ty,ps,af,g⟩ F l (.int k (p / 2 ^ q.toNat)) :=
  .mk (by simp) fun a w ha _=>by
    obtain ⟨m,rfl⟩:=Int.eq_ofNat_of_zero_le h0
    have e2:min m k.bits = m:=by omega
    have e3:p.fdiv (2 ^ m) = p / 2 ^ m:=Int.fdiv_eq_ediv_of_nonneg _ (by exact Int.le_of_lt (Int.pow_pos (by decide)))
    refine exec_bin P w w _ _ _ _ _ _ _ _ _ _ _ _ ⟨by simp,by simp⟩ ?_
    rw [ha.eval hx,ha.eval hy]
    refine (run_shr P w k k' _ m).trans ?_
    rw [e2,e3]; rfl
theorem y_shrc (q:Nat) {p:Int} {k k':IntKind} (hx:evO F x = some (.int k p):=by rfl) (hy:evO F y = some (.int k' (q:Int)):=by rfl) (h1:q ≤ k.bits:=by decide) :
    Y P n D W Bo ⟨d,.binOp .shr ta x y tb,ty,ps,af,g⟩ F l (.int k (p / 2 ^ q)):=by
  have:=y_sar (P:=P) (n:=n) (D:=D) (W:=W) (Bo:=Bo) (l:=l) (d:=d) (ty:=ty) (ps:=ps) (af:=af) (g:=g) (ta:=ta) (tb:=tb) hx hy (by omega) (by omega)
  rwa [Int.toNat_natCast] at this
theorem y_cvn {k:IntKind} {tb':Bool} [hu:HU P tb (.int k)] [ha':HT P ta tb'] {p:Int} {k':IntKind} (hx:evO F x = some (.int k' p):=by rfl) (hw:k.wrap p = p:=by first | exact wrap_i64 (by unfold R64; omega) | exact wrap_u64 (by omega) (by omega)):Y P n D W Bo ⟨d,.convert ta tb x,ty,ps,af,g⟩ F l (.int k p) :=
  .mk (by simp) fun a w ha _=>by
    simp [execOp,ha.eval hx,convert,run_underlying hu.h,run_underlying ha'.h.choose_spec.1,Conv.intToInt,hw]
theorem y_cv8 [hu:HU P tb (.int .u8)] {tb':Bool} [ha':HT P ta tb'] {p:Int} {k':IntKind} (hx:evO F x = some (.int k' p):=by rfl):Y P n D W Bo ⟨d,.convert ta tb x,ty,ps,af,g⟩ F l (B (UInt8.ofNat (p % 256).toNat)) :=
  .mk (by simp) fun a w ha _=>by
    have h0:=Int.emod_nonneg p (show (256:Int) ≠ 0 by decide)
    have h1:=Int.emod_lt_of_pos p (show (0:Int) < 256 by decide)
    have e:(((UInt8.ofNat (p % 256).toNat).toNat:Nat):Int) = p % 256:=by
      simp; omega
    simp only [execOp,ha.eval hx,convert,run_underlying hu.h,run_underlying ha'.h.choose_spec.1,Conv.intToInt,wrap_u8,Sem.run_bind,Result.andThen_ok,Sem.run_pure]
    exact congrArg (fun z=>Result.ok (Next.value (.int .u8 z)) w) e.symm
theorem y_cv32 [hu:HU P tb (.int .u32)] {tb':Bool} [ha':HT P ta tb'] {p:UInt8} (hx:evO F x = some (B p):=by rfl):Y P n D W Bo ⟨d,.convert ta tb x,ty,ps,af,g⟩ F l (W32 p.toUInt32) :=
  .mk (by simp) fun a w ha _=>by
    have h:=p.toNat_lt
    have e:(p.toNat:Int) % 4294967296 = (p.toUInt32.toNat:Int):=by simp; omega
    simp only [execOp,ha.eval hx,convert,run_underlying hu.h,run_underlying ha'.h.choose_spec.1,Conv.intToInt,wrap_u32,Sem.run_bind,Result.andThen_ok,Sem.run_pure]
    exact congrArg (fun z=>Result.ok (Next.value (.int .u32 z)) w) e
end
end Eng
namespace Eng
open Go Go.RowKit
def Rd (w:World) (a:Option Addr) (xs:List Value):Prop :=
  xs = [] ∨ ∃ b off cs t fz,a = some ⟨b,off,none⟩ ∧ w.heap[b]? = some (.cells cs t fz) ∧ ∀ i v,xs[i]? = some v → cs[off + i]? = some v
def ad (a:Option Addr) (i:Nat):Addr:=⟨(a.getD default).block,(a.getD default).off + i,none⟩
def RdS (W:World) (Bo:List Nat) (l:SH) (a:Option Addr) (xs:List Value):Prop:=∀ w,St W Bo w l → Rd w a xs
theorem Rd.congr {w w':World} {a:Option Addr} {xs:List Value} (h:Rd w a xs) (hk:∀ b,a.map (·.block) = some b → w'.heap[b]? = w.heap[b]?):Rd w' a xs:=by
  rcases h with h | ⟨b,off,cs,t,fz,rfl,h1,h2⟩
  · exact .inl h
  · exact .inr ⟨b,off,cs,t,fz,rfl,(hk b rfl).trans h1,h2⟩
theorem Rd.lt {w:World} {a:Option Addr} {xs:List Value} (h:Rd w a xs) (hne:xs ≠ []) {b:Nat} (hb:a.map (·.block) = some b):b < w.heap.size:=by
  rcases h with h | ⟨b,off,cs,t,fz,rfl,h1,h2⟩
  · exact absurd h hne
  · cases hb; exact (Array.getElem?_eq_some_iff.1 h1).1
theorem Rd.nil (w:World) (a:Option Addr):Rd w a []:=.inl rfl
theorem Rd.st {W w:World} {l:SH} {a:Option Addr} {xs:List Value} (h:Rd W a xs) (hs:St W [] w l):Rd w a xs:=by
  rcases h with h | ⟨b,off,cs,t,fz,rfl,h1,h2⟩
  · exact .inl h
  · exact .inr ⟨b,off,cs,t,fz,rfl,(hs.old b (Array.getElem?_eq_some_iff.1 h1).1 (by simp)).trans h1,h2⟩
theorem rdW {W:World} {Bo:List Nat} {l:SH} {a:Option Addr} {xs:List Value} (h:Rd W a xs) (hb:∀ b ∈ Bo,a.map (·.block) ≠ some b):RdS W Bo l a xs:=by
  intro w hw
  rcases h with h | ⟨b,off,cs,t,fz,rfl,h1,h2⟩
  · exact .inl h
  · refine .inr ⟨b,off,cs,t,fz,rfl,(hw.old b (Array.getElem?_eq_some_iff.1 h1).1 ?_).trans h1,h2⟩
    intro hm
    exact hb b hm rfl
theorem rdW0 {W:World} {l:SH} {a:Option Addr} {xs:List Value} (h:Rd W a xs):RdS W [] l a xs:=rdW h (by simp)
theorem rdB {W:World} {Bo:List Nat} {l:SH} {b off:Nat} {cs:Array Value} {t:TypeId} {fz:Nat × Nat} {xs:List Value} (hm:Res.blk b (.cells cs t fz) ∈ l)
    (hx:∀ i v,xs[i]? = some v → cs[off + i]? = some v):RdS W Bo l (some ⟨b,off,none⟩) xs :=
  fun _ hw=>.inr ⟨b,off,cs,t,fz,rfl,(hw.own _ hm).1,hx⟩
theorem Res.rd {w:World} {a:Option Addr} {c:Nat} {e:TypeId} {s n:Nat} {xs:List Value} (h:(Res.row a c e s n xs).holds w):Rd w a xs:=by
  obtain ⟨h1,h2,h3⟩:=h
  rcases h3 with ⟨rfl,hc⟩ | ⟨g,cur,rfl,h4,h5,h6,h7⟩
  · refine .inl (List.eq_nil_of_length_eq_zero ?_)
    have:n = 0:=by omega
    rw [h1,this,Nat.zero_mul]
  · refine .inr ⟨g,0,cur,e,(0,0),rfl,h4,?_⟩
    intro i v hv
    rw [← h7,List.getElem?_take] at hv
    split at hv
    · simpa using hv
    · cases hv
theorem rdR {W:World} {Bo:List Nat} {l:SH} {a:Option Addr} {c:Nat} {e:TypeId} {s n:Nat} {xs:List Value} (hm:Res.row a c e s n xs ∈ l):RdS W Bo l a xs :=
  fun _ hw=>Res.rd (hw.own _ hm).1
theorem ad_add (a:Option Addr) (i j:Nat):(ad a i).add j = ad a (i + j):=by
  unfold Addr.add ad
  split
  · simp_all
  · simp [Nat.add_assoc]
theorem addr_add (b o j:Nat):(⟨b,o,none⟩:Addr).add j = ⟨b,o + j,none⟩:=by unfold Addr.add; split <;> simp_all
theorem Rd.drop {w:World} {a:Option Addr} {xs:List Value} (h:Rd w a xs) (k:Nat):Rd w (a.map (·.add k)) (xs.drop k):=by
  rcases h with rfl | ⟨b,off,cs,t,fz,rfl,h1,h2⟩
  · exact .inl (by simp)
  · refine .inr ⟨b,off + k,cs,t,fz,by simp [addr_add],h1,?_⟩
    intro i v hv
    rw [List.getElem?_drop] at hv
    have:=h2 _ _ hv
    rw [← this]; congr 1; omega
theorem Rd.take {w:World} {a:Option Addr} {xs:List Value} (h:Rd w a xs) (k:Nat):Rd w a (xs.take k):=by
  rcases h with rfl | ⟨b,off,cs,t,fz,rfl,h1,h2⟩
  · exact .inl (by simp)
  · refine .inr ⟨b,off,cs,t,fz,rfl,h1,?_⟩
    intro i v hv
    rw [List.getElem?_take] at hv
    split at hv
    · exact h2 _ _ hv
    · cases hv
theorem RdS.drop {W:World} {Bo:List Nat} {l:SH} {a:Option Addr} {xs:List Value} (h:RdS W Bo l a xs) (k:Nat):RdS W Bo l (a.map (·.add k)) (xs.drop k):=fun w hw=>(h w hw).drop k
theorem RdS.take {W:World} {Bo:List Nat} {l:SH} {a:Option Addr} {xs:List Value} (h:RdS W Bo l a xs) (k:Nat):RdS W Bo l a (xs.take k):=fun w hw=>(h w hw).take k
theorem Rd.cell {w:World} {a:Option Addr} {xs:List Value} (h:Rd w a xs) {i:Nat} {v:Value} (hv:xs[i]? = some v) :
    a = some (ad a 0) ∧ w.cell? (ad a i) = some v:=by
  rcases h with rfl | ⟨b,off,cs,t,fz,rfl,h1,h2⟩
  · simp at hv
  · refine ⟨rfl,?_⟩
    simp only [ad,Option.getD_some]
    rw [cell_of_row w b (off + i) cs t fz h1]
    exact h2 _ _ hv
theorem run_isAgg {P:Program} {t:TypeId} {b:Bool} (h:HT P t b) (w:World):(isAgg t).run P w = .ok (!b) w:=by
  obtain ⟨d,hu,rfl⟩:=h.h
  unfold isAgg
  simp only [Sem.run_bind,run_underlying hu,Result.andThen_ok]
  cases d <;> rfl
theorem run_sizeOf' {P:Program} {t:TypeId} {s b:Nat} (h:HS P t s b) (w:World):(Go.sizeOf t).run P w = .ok s w:=by
  obtain ⟨i,h1,h2,_⟩:=h.h
  simp [Go.sizeOf,typeInfo,h1,h2]
theorem run_loadCells' {P:Program} {w:World} {a:Addr} {cs:List Value} (h:∀ j v,cs[j]? = some v → w.cell? (a.add j) = some v):(loadCells a cs.length).run P w = .ok cs.toArray w :=
  run_loadCells_list w a cs h
theorem evs {F:List (Nat × Value)} {n:Nat} {D:List Deferred} {a:Act} (ha:Fr n F D a) {as9:Array Operand} {vs:List Value} (h:evL F as9.toList = some vs):as9.map a.eval = vs.toArray:=by
  have key:∀ (as9:List Operand) (fs:List Value),as9.map (evO F) = fs.map some → as9.map a.eval = fs:=by
    intro as9
    induction as9 with
    | nil=>intro fs h; cases fs with
      | nil=>rfl
      | cons _ _=>simp at h
    | cons x as9 ih=>intro fs h; cases fs with
      | nil=>simp at h
      | cons v fs=>simp at h; simp [ha.eval h.1,ih fs h.2]
  rw [← Array.toList_inj]; simp [key _ _ (evL_map h)]
def bs (l:List UInt8):List Value:=l.map B
theorem bs_length (l:List UInt8):(bs l).length = l.length:=by simp [bs]
theorem bs_get {l:List UInt8} {i:Nat} (h:i < l.length):(bs l)[i]? = some (B (l.getD i 0)):=by
  simp [bs,List.getElem?_map,List.getElem?_eq_getElem h,List.getD_eq_getElem?_getD]
def is (l:List Int):List Value:=l.map I
theorem is_length (l:List Int):(is l).length = l.length:=by simp [is]
theorem is_get {l:List Int} {i:Nat} (h:i < l.length):(is l)[i]? = some (I (l.getD i 0)):=by
  simp [is,List.getElem?_map,List.getElem?_eq_getElem h,List.getD_eq_getElem?_getD]
def ws (l:List UInt32):List Value:=l.map W32
theorem ws_length (l:List UInt32):(ws l).length = l.length:=by simp [ws]
theorem ws_get {l:List UInt32} {i:Nat} (h:i < l.length):(ws l)[i]? = some (W32 (l.getD i 0)):=by
  simp [ws,List.getElem?_map,List.getElem?_eq_getElem h,List.getD_eq_getElem?_getD]
section
variable {r:Option Nat} {P:Program} {n:Nat} {D:List Deferred} {W:World} {Bo:List Nat} {F:List (Nat × Value)} {l l':SH}
  {d:Option Tmp} {dd:Nat} {ty:TypeId} {ps:String} {af:Array Edge} {g:Option (Nat × Bool)} {x y z:Operand} {v u:Value} {ta tb t e:TypeId}
  {Q:Exit → Act → World → Prop} {ops:Array Oper} {rest:List Oper} {td:TypeDesc}
theorem ld_flat (hu:HT P t true) {w:World} {a:Addr} (hc:w.cell? a = some v):(Instr.loadAt t (.pointer (some a))).run P w = .ok v w:=by
  simp [Instr.loadAt,Instr.sureAddr,loadVar,run_isAgg hu,hc]
theorem ld_agg (hu:HT P t false) {s b:Nat} (hs:HS P t s b) {w:World} {a:Addr} {cs:List Value} (hl:cs.length = s) (hc:∀ j v,cs[j]? = some v → w.cell? (a.add j) = some v) :
    (Instr.loadAt t (.pointer (some a))).run P w = .ok (.agg cs.toArray) w:=by
  subst hl
  simp [Instr.loadAt,Instr.sureAddr,loadVar,run_isAgg hu,run_sizeOf' hs,run_loadCells' hc]
theorem y_ld0 {p:Value} (hx:evO F x = some p) (h:∀ w,St W Bo w l → (Instr.loadAt t p).run P w = .ok v w):Y P n D W Bo ⟨d,.load t x,ty,ps,af,g⟩ F l v :=
  .mk (by simp) fun a w ha hw=>by
    simp only [execOp,ha.eval hx,Sem.run_bind,h w hw]; rfl
theorem y_ld [hu:HT P t true] {b off:Nat} {cs:Array Value} {et:TypeId} {fz:Nat × Nat} (hx:evO F x = some (.pointer (some ⟨b,off,none⟩)):=by rfl)
    (hm:Res.blk b (.cells cs et fz) ∈ l:=by repeat (first | exact .head _ | apply List.Mem.tail)) (hv:cs[off]? = some v:=by rfl) :
    Y P n D W Bo ⟨d,.load t x,ty,ps,af,g⟩ F l v :=
  y_ld0 hx fun w hw=>ld_flat hu (by rw [cell_of_row w b off cs et fz (hw.own _ hm).1]; exact hv)
theorem y_ldr [hu:HT P t true] {a:Option Addr} {i:Nat} {xs:List Value} (hv:xs[i]? = some v) (hx:evO F x = some (.pointer (some (ad a i))):=by rfl)
    (hr:RdS W Bo l a xs:=by first | exact rdW0 (by assumption) | exact rdR (by repeat (first | exact .head _ | apply List.Mem.tail)) | assumption):Y P n D W Bo ⟨d,.load t x,ty,ps,af,g⟩ F l v :=
  y_ld0 hx fun w hw=>ld_flat hu ((hr w hw).cell hv).2
theorem y_ldb [hu:HT P t true] {a:Option Addr} {i:Nat} {q:List UInt8} (hx:evO F x = some (.pointer (some (ad a i))):=by rfl) (hr:RdS W Bo l a (bs q):=by first | exact rdW0 (by assumption) | exact rdR (by repeat (first | exact .head _ | apply List.Mem.tail)) | assumption) (hi:i < q.length:=by omega) :
    Y P n D W Bo ⟨d,.load t x,ty,ps,af,g⟩ F l (B (q.getD i 0)):=y_ldr (bs_get hi) hx hr
theorem y_ldi [hu:HT P t true] {a:Option Addr} {i:Nat} {q:List Int} (hx:evO F x = some (.pointer (some (ad a i))):=by rfl) (hr:RdS W Bo l a (is q):=by first | exact rdW0 (by assumption) | exact rdR (by repeat (first | exact .head _ | apply List.Mem.tail)) | assumption) (hi:i < q.length:=by omega) :
    Y P n D W Bo ⟨d,.load t x,ty,ps,af,g⟩ F l (I (q.getD i 0)):=y_ldr (is_get hi) hx hr
theorem y_ldw [hu:HT P t true] {a:Option Addr} {i:Nat} {q:List UInt32} (hx:evO F x = some (.pointer (some (ad a i))):=by rfl) (hr:RdS W Bo l a (ws q):=by first | exact rdW0 (by assumption) | exact rdR (by repeat (first | exact .head _ | apply List.Mem.tail)) | assumption) (hi:i < q.length:=by omega) :
    Y P n D W Bo ⟨d,.load t x,ty,ps,af,g⟩ F l (W32 (q.getD i 0)):=y_ldr (ws_get hi) hx hr
theorem y_lda [hu:HT P t false] {b:Nat} {cs:Array Value} {et:TypeId} {fz:Nat × Nat} {s by':Nat} [hs:HS P t s by'] (hx:evO F x = some (.pointer (some ⟨b,0,none⟩)):=by rfl)
    (hm:Res.blk b (.cells cs et fz) ∈ l:=by repeat (first | exact .head _ | apply List.Mem.tail)) (hl:cs.size = s:=by rfl) :
    Y P n D W Bo ⟨d,.load t x,ty,ps,af,g⟩ F l (.agg cs) :=
  y_ld0 hx fun w hw=>by
    have:=ld_agg (w:=w) (a:=⟨b,0,none⟩) (cs:=cs.toList) hu hs (by simpa using hl) (fun j v hv=>by
      rw [addr_add,cell_of_row w b _ cs et fz (hw.own _ hm).1]; simpa using hv)
    simpa using this
theorem y_ldra [hu:HT P t false] {s by':Nat} [hs:HS P t s by'] {a:Option Addr} {i:Nat} {xs cs:List Value} (hr:RdS W Bo l a xs) (hl:cs.length = s) (hv:∀ j v,cs[j]? = some v → xs[i + j]? = some v)
    (hx:evO F x = some (.pointer (some (ad a i))):=by rfl):Y P n D W Bo ⟨d,.load t x,ty,ps,af,g⟩ F l (.agg cs.toArray) :=
  y_ld0 hx fun w hw=>ld_agg hu hs hl fun j v h=>by
    rw [ad_add]; exact ((hr w hw).cell (hv j v h)).2
theorem y_nc {a:Addr} (hx:evO F x = some (.pointer (some a)):=by rfl):Y P n D W Bo ⟨d,.nilCheck x,ty,ps,af,g⟩ F l (.pointer (some a)) :=
  .mk (by simp) fun a w ha hw=>by simp only [execOp,ha.eval hx]; rfl
theorem run_fieldAt {i ft off:Nat} (hu:HD P t i ft off) {s by':Nat} (hs:HS P ft s by') (h0:s ≠ 0) (a:Addr) (w:World) :
    (Instr.fieldAt t (.pointer (some a)) i).run P w = .ok (.pointer (some (a.add off))) w:=by
  obtain ⟨fs,f,h1,h2,rfl,rfl⟩:=hu.h
  simp [Instr.fieldAt,run_underlying h1,h2,Instr.sureAddr,fieldPlace,run_sizeOf' hs,h0]
theorem y_fa {i ft fo:Nat} [hu:HD P t i ft fo] {b off:Nat} {s by':Nat} [hs:HS P ft s by'] (hx:evO F x = some (.pointer (some ⟨b,off,none⟩)):=by rfl)
    (h0:s ≠ 0:=by decide):Y P n D W Bo ⟨d,.fieldAddr t x i,ty,ps,af,g⟩ F l (.pointer (some ⟨b,off + fo,none⟩)) :=
  .mk (by simp) fun a w ha hw=>by
    simp only [execOp,ha.eval hx,Sem.run_bind,run_fieldAt hu hs h0,addr_add]; rfl
theorem y_far {i ft fo:Nat} [hu:HD P t i ft fo] {k:Nat} {a:Option Addr} {s by':Nat} [hs:HS P ft s by'] (hx:evO F x = some (.pointer (some (ad a k))):=by rfl)
    (h0:s ≠ 0:=by decide):Y P n D W Bo ⟨d,.fieldAddr t x i,ty,ps,af,g⟩ F l (.pointer (some (ad a (k + fo)))) :=
  .mk (by simp) fun a w ha hw=>by
    simp only [execOp,ha.eval hx,Sem.run_bind,run_fieldAt hu hs h0,ad_add]; rfl
theorem run_indexAt_slice (hu:P.underlying t = some (.slice e)) {s by':Nat} (hs:HS P e s by') {a:Addr} {m c:Nat} {k:IntKind} {i:Int} (h0:0 ≤ i) (h1:i < m) (w:World) :
    (Instr.indexAt t (.slice (some a) m c) (.int k i)).run P w = .ok (.pointer (some (a.add (i.toNat * s)))) w:=by
  simp [Instr.indexAt,asIntOf,run_underlying hu,h0,h1,run_sizeOf' hs]
theorem run_indexAt_array {m:Nat} (hu:P.underlying t = some (.array m e)) {s by':Nat} (hs:HS P e s by') {a:Addr} {k:IntKind} {i:Int} (h0:0 ≤ i) (h1:i < m) (w:World) :
    (Instr.indexAt t (.pointer (some a)) (.int k i)).run P w = .ok (.pointer (some (a.add (i.toNat * s)))) w:=by
  simp [Instr.indexAt,asIntOf,run_underlying hu,h0,h1,run_sizeOf' hs,Instr.sureAddr]
theorem y_ixb [hu:HU P t (.slice e)] {s by':Nat} [hs:HS P e s by'] {b off m c:Nat} {k:IntKind} {i:Int} (hx:evO F x = some (.slice (some ⟨b,off,none⟩) m c):=by rfl) (hy:evO F y = some (.int k i):=by rfl)
    (h0:0 ≤ i:=by omega) (h1:i < m:=by omega):Y P n D W Bo ⟨d,.indexAddr t x y,ty,ps,af,g⟩ F l (.pointer (some ⟨b,off + i.toNat * s,none⟩)) :=
  .mk (by simp) fun a w ha hw=>by
    simp only [execOp,ha.eval hx,ha.eval hy,Sem.run_bind,run_indexAt_slice hu.h hs h0 h1,addr_add]; rfl
theorem y_ixa {m:Nat} [hu:HU P t (.array m e)] {s by':Nat} [hs:HS P e s by'] {b off:Nat} {k:IntKind} {i:Int} (hx:evO F x = some (.pointer (some ⟨b,off,none⟩)):=by rfl) (hy:evO F y = some (.int k i):=by rfl)
    (h0:0 ≤ i:=by omega) (h1:i < m:=by omega):Y P n D W Bo ⟨d,.indexAddr t x y,ty,ps,af,g⟩ F l (.pointer (some ⟨b,off + i.toNat * s,none⟩)) :=
  .mk (by simp) fun a w ha hw=>by
    simp only [execOp,ha.eval hx,ha.eval hy,Sem.run_bind,run_indexAt_array hu.h hs h0 h1,addr_add]; rfl
theorem y_ixs [hu:HU P t (.slice e)] {s by':Nat} [hs:HS P e s by'] {a:Option Addr} {xs:List Value} {m c:Nat} {k:IntKind} {i:Int}
    (hx:evO F x = some (.slice a m c):=by rfl) (hy:evO F y = some (.int k i):=by rfl) (hr:RdS W Bo l a xs:=by first | exact rdW0 (by assumption) | exact rdR (by repeat (first | exact .head _ | apply List.Mem.tail)) | assumption)
    (h0:0 ≤ i:=by omega) (h1:i < m:=by omega) (hl:m ≤ xs.length:=by first | omega | (simp; omega)) :
    Y P n D W Bo ⟨d,.indexAddr t x y,ty,ps,af,g⟩ F l (.pointer (some (ad a (i.toNat * s)))) :=
  .mk (by simp) fun ac w ha hw=>by
    obtain ⟨v,hv⟩:∃ v,xs[0]? = some v:=⟨xs[0]'(by omega),List.getElem?_eq_getElem (by omega)⟩
    have e1:=((hr w hw).cell hv).1
    have:(Instr.indexAt t (.slice a m c) (.int k i)).run P w = .ok (.pointer (some (ad a (i.toNat * s)))) w:=by
      rw [e1,run_indexAt_slice hu.h hs h0 h1,ad_add,← e1,Nat.zero_add]
    simp only [execOp,ha.eval hx,ha.eval hy,Sem.run_bind,this]; rfl
theorem y_ixs1 [hu:HU P t (.slice e)] {by':Nat} [hs:HS P e 1 by'] {a:Option Addr} {xs:List Value} {m c:Nat} {k:IntKind} {i:Int}
    (hx:evO F x = some (.slice a m c):=by rfl) (hy:evO F y = some (.int k i):=by rfl) (hr:RdS W Bo l a xs:=by first | exact rdW0 (by assumption) | exact rdR (by repeat (first | exact .head _ | apply List.Mem.tail)) | assumption)
    (h0:0 ≤ i:=by omega) (h1:i < m:=by omega) (hl:m ≤ xs.length:=by first | omega | (simp only [bs_length,is_length,ws_length]; omega)) :
    Y P n D W Bo ⟨d,.indexAddr t x y,ty,ps,af,g⟩ F l (.pointer (some (ad a i.toNat))):=by
  have:=y_ixs (t:=t) (e:=e) (P:=P) (n:=n) (D:=D) (d:=d) (ty:=ty) (ps:=ps) (af:=af) (g:=g) hx hy hr h0 h1 hl
  rwa [Nat.mul_one] at this
theorem y_ixb1 [hu:HU P t (.slice e)] {by':Nat} [hs:HS P e 1 by'] {b off m c:Nat} {k:IntKind} {i:Int} (hx:evO F x = some (.slice (some ⟨b,off,none⟩) m c):=by rfl) (hy:evO F y = some (.int k i):=by rfl)
    (h0:0 ≤ i:=by omega) (h1:i < m:=by omega):Y P n D W Bo ⟨d,.indexAddr t x y,ty,ps,af,g⟩ F l (.pointer (some ⟨b,off + i.toNat,none⟩)):=by
  have:=y_ixb (t:=t) (e:=e) (P:=P) (n:=n) (D:=D) (d:=d) (ty:=ty) (ps:=ps) (af:=af) (g:=g) (W:=W) (Bo:=Bo) (l:=l) hx hy h0 h1
  rwa [Nat.mul_one] at this
theorem y_ixa1 {m:Nat} [hu:HU P t (.array m e)] {by':Nat} [hs:HS P e 1 by'] {b off:Nat} {k:IntKind} {i:Int} (hx:evO F x = some (.pointer (some ⟨b,off,none⟩)):=by rfl) (hy:evO F y = some (.int k i):=by rfl)
    (h0:0 ≤ i:=by omega) (h1:i < m:=by omega):Y P n D W Bo ⟨d,.indexAddr t x y,ty,ps,af,g⟩ F l (.pointer (some ⟨b,off + i.toNat,none⟩)):=by
  have:=y_ixa (t:=t) (e:=e) (P:=P) (n:=n) (D:=D) (d:=d) (ty:=ty) (ps:=ps) (af:=af) (g:=g) (W:=W) (Bo:=Bo) (l:=l) hx hy h0 h1
  rwa [Nat.mul_one] at this
def sa (a:Option Addr) (i c s:Nat):Option Addr:=if c = i then a else a.map (·.add (i * s))
theorem RdS.sa {a:Option Addr} {xs:List Value} (h:RdS W Bo l a xs) {i c s:Nat} (hl:xs.length ≤ c * s):RdS W Bo l (Eng.sa a i c s) (xs.drop (i * s)):=by
  unfold Eng.sa
  split
  · rename_i e
    subst e
    rw [List.drop_eq_nil_of_le hl]
    exact fun w _=>.inl rfl
  · exact h.drop _
theorem sa_lt {b off i c s:Nat} (h:i < c):sa (some ⟨b,off,none⟩) i c s = some ⟨b,off + i * s,none⟩:=by
  unfold sa; rw [if_neg (by omega)]; simp [addr_add]
theorem sa_zero {a:Option Addr} {c s:Nat}:sa a 0 c s = a:=by
  unfold sa; split
  · rfl
  · cases a <;> simp [Addr.add]
theorem y_sll [hu:HU P t (.slice e)] {s by':Nat} [hs:HS P e s by'] {a:Option Addr} {m c:Nat} {k:IntKind} {i:Int} (hx:evO F x = some (.slice a m c):=by rfl) (hy:evO F y = some (.int k i):=by rfl)
    (h0:0 ≤ i:=by omega) (h1:i ≤ m:=by omega):Y P n D W Bo ⟨d,.slice t x (some y) none none,ty,ps,af,g⟩ F l (.slice (sa a i.toNat c s) (m - i.toNat) (c - i.toNat)) :=
  .mk (by simp) fun ac w ha hw=>by
    have e1:(Instr.sliceBound (.int k i) m .sliceB).run P w = .ok i.toNat w:=run_sliceBound w k i m _ h0 h1
    simp only [execOp,ha.eval hx,Option.map,ha.eval hy,Sem.run_bind,Instr.sliceAt,Instr.slice,run_underlying hu.h,Result.andThen_ok,Instr.sliceBounds,Sem.run_pure,run_sizeOf' hs]
    rw [show (if (none:Option Value).isSome = true then BoundsCode.slice3C else BoundsCode.sliceB) = .sliceB from rfl,e1]
    rfl
theorem y_slh [hu:HU P t (.slice e)] {s by':Nat} [hs:HS P e s by'] {a:Option Addr} {m c:Nat} {k:IntKind} {j:Int} (hx:evO F x = some (.slice a m c):=by rfl) (hy:evO F y = some (.int k j):=by rfl)
    (h0:0 ≤ j:=by omega) (h1:j ≤ c:=by omega):Y P n D W Bo ⟨d,.slice t x none (some y) none,ty,ps,af,g⟩ F l (.slice a j.toNat c) :=
  .mk (by simp) fun ac w ha hw=>by
    have e1:(Instr.sliceBound (.int k j) c .sliceAcap).run P w = .ok j.toNat w:=run_sliceBound w k j c _ h0 h1
    have e2:=sa_zero (a:=a) (c:=c) (s:=s)
    unfold sa at e2
    simp only [execOp,ha.eval hx,Option.map,ha.eval hy,Sem.run_bind,Instr.sliceAt,Instr.slice,run_underlying hu.h,Result.andThen_ok,Instr.sliceBounds,Sem.run_pure,e1,run_sizeOf' hs,if_true]
    simp only [Option.map] at e2
    rw [e2]
    rfl
theorem y_sla {m:Nat} [hu:HU P t (.array m e)] {s by':Nat} [hs:HS P e s by'] {b off:Nat} (hx:evO F x = some (.pointer (some ⟨b,off,none⟩)):=by rfl) :
    Y P n D W Bo ⟨d,.slice t x none none none,ty,ps,af,g⟩ F l (.slice (some ⟨b,off,none⟩) m m) :=
  .mk (by simp) fun ac w ha hw=>by
    simp only [execOp,ha.eval hx,Option.map,Sem.run_bind,Instr.sliceAt,run_underlying hu.h,Result.andThen_ok,Instr.sliceBounds,Sem.run_pure,run_sizeOf' hs,Instr.sureAddr]
    simp [addr_add]
theorem y_slalh {m:Nat} [hu:HU P t (.array m e)] {s by':Nat} [hs:HS P e s by'] {b off:Nat} {k k':IntKind} {i j:Int} (hx:evO F x = some (.pointer (some ⟨b,off,none⟩)):=by rfl) (hy:evO F y = some (.int k i):=by rfl) (hz:evO F z = some (.int k' j):=by rfl)
    (h0:0 ≤ i:=by omega) (h1:i ≤ j:=by omega) (h2:j ≤ m:=by omega) (h3:i < m:=by omega):Y P n D W Bo ⟨d,.slice t x (some y) (some z) none,ty,ps,af,g⟩ F l (.slice (some ⟨b,off + i.toNat * s,none⟩) (j.toNat - i.toNat) (m - i.toNat)) :=
  .mk (by simp) fun ac w ha hw=>by
    have e1:(Instr.sliceBound (.int k' j) m .sliceAlen).run P w = .ok j.toNat w:=run_sliceBound w k' j m _ (by omega) h2
    have e2:(Instr.sliceBound (.int k i) j.toNat .sliceB).run P w = .ok i.toNat w:=run_sliceBound w k i j.toNat _ h0 (by omega)
    have e3:¬ (m = i.toNat):=by omega
    simp only [execOp,ha.eval hx,Option.map,ha.eval hy,ha.eval hz,Sem.run_bind,Instr.sliceAt,run_underlying hu.h,Result.andThen_ok,Instr.sliceBounds,Sem.run_pure,run_sizeOf' hs,Instr.sureAddr]
    simp only [Bool.false_eq_true,if_false,e1,Result.andThen_ok,Option.isSome,e2,e3,addr_add]
theorem y_slal {m:Nat} [hu:HU P t (.array m e)] {s by':Nat} [hs:HS P e s by'] {b off:Nat} {k:IntKind} {i:Int} (hx:evO F x = some (.pointer (some ⟨b,off,none⟩)):=by rfl) (hy:evO F y = some (.int k i):=by rfl)
    (h0:0 ≤ i:=by omega) (h3:i < m:=by omega):Y P n D W Bo ⟨d,.slice t x (some y) none none,ty,ps,af,g⟩ F l (.slice (some ⟨b,off + i.toNat * s,none⟩) (m - i.toNat) (m - i.toNat)) :=
  .mk (by simp) fun ac w ha hw=>by
    have e2:(Instr.sliceBound (.int k i) m .sliceB).run P w = .ok i.toNat w:=run_sliceBound w k i m _ h0 (by omega)
    have e3:¬ (m = i.toNat):=by omega
    simp only [execOp,ha.eval hx,Option.map,ha.eval hy,Sem.run_bind,Instr.sliceAt,run_underlying hu.h,Result.andThen_ok,Instr.sliceBounds,Sem.run_pure,run_sizeOf' hs,Instr.sureAddr]
    simp only [Bool.false_eq_true,if_false,Result.andThen_ok,Option.isSome,e2,e3,addr_add]
theorem y_slah {m:Nat} [hu:HU P t (.array m e)] {s by':Nat} [hs:HS P e s by'] {b off:Nat} {k:IntKind} {j:Int} (hx:evO F x = some (.pointer (some ⟨b,off,none⟩)):=by rfl) (hy:evO F y = some (.int k j):=by rfl)
    (h0:0 ≤ j:=by omega) (h3:j ≤ m:=by omega):Y P n D W Bo ⟨d,.slice t x none (some y) none,ty,ps,af,g⟩ F l (.slice (some ⟨b,off,none⟩) j.toNat m) :=
  .mk (by simp) fun ac w ha hw=>by
    have e2:(Instr.sliceBound (.int k j) m .sliceAlen).run P w = .ok j.toNat w:=run_sliceBound w k j m _ h0 h3
    simp only [execOp,ha.eval hx,Option.map,ha.eval hy,Sem.run_bind,Instr.sliceAt,run_underlying hu.h,Result.andThen_ok,Instr.sliceBounds,Sem.run_pure,run_sizeOf' hs,Instr.sureAddr]
    simp [e2,addr_add]
theorem y_b {b:Builtin} {as9:Array Operand} {ts:Array TypeId} {vs:List Value} (hargs:evL F as9.toList = some vs)
    (h:∀ w,St W Bo w l → ∀ cs,(builtin b ts ty cs vs.toArray).run P w = .ok (.value v) w):Y P n D W Bo ⟨d,.call ⟨.builtin b,as9,ts⟩,ty,ps,af,g⟩ F l v :=
  .mk (by simp) fun a w ha hw=>by
    simp only [execOp,resolve,evs ha hargs,Sem.run_bind,Sem.run_pure,Result.andThen_ok,invoke,h w hw]
theorem y_len [hu:HU P t (.slice e)] {a:Option Addr} {m c:Nat} (hx:evO F x = some (.slice a m c):=by rfl):Y P n D W Bo ⟨d,.call ⟨.builtin .len,#[x],#[t]⟩,ty,ps,af,g⟩ F l (I m) :=
  y_b (vs:=[.slice a m c]) (by simp [evL,hx]) fun w _ cs=>by simp [builtin,Builtin.len_,run_underlying hu.h,goInt]
theorem y_cap [hu:HU P t (.slice e)] {a:Option Addr} {m c:Nat} (hx:evO F x = some (.slice a m c):=by rfl):Y P n D W Bo ⟨d,.call ⟨.builtin .cap,#[x],#[t]⟩,ty,ps,af,g⟩ F l (I c) :=
  y_b (vs:=[.slice a m c]) (by simp [evL,hx]) fun w _ cs=>by simp [builtin,Builtin.cap_,run_underlying hu.h,goInt]
theorem y_lens [hu:HU P t .string] {s:ByteArray} (hx:evO F x = some (.string s):=by rfl):Y P n D W Bo ⟨d,.call ⟨.builtin .len,#[x],#[t]⟩,ty,ps,af,g⟩ F l (I s.size) :=
  y_b (vs:=[.string s]) (by simp [evL,hx]) fun w _ cs=>by simp [builtin,Builtin.len_,run_underlying hu.h,goInt]
theorem s_new {o:Oper} {σ:Type} (val:σ → Value) (lx:σ → SH) (φ:σ → Prop)
    (hop:∀ c,o.op ≠ .defer c)
    (hr:∀ a w,Fr n F D a → St W Bo w l → ∃ x w',φ x ∧ (execOp a.eval o).run P w = .ok (.value (val x)) w' ∧ St W Bo w' (lx x))
    (hd:o.dst = some dd:=by rfl) (hn:Nat.blt dd n = true:=by rfl) (hg:Wn ops F o.guard)
    (h:∀ x,φ x → LP r P n D W Bo ops Q rest ((dd,val x) :: F) (lx x)):LP r P n D W Bo ops Q (o :: rest) F l:=by
  intro a w ha hw
  obtain ⟨x,w',hx,hrun,hw'⟩:=hr a w ha hw
  refine wpListIn_of (hg.wanted rfl ha) ?_
  refine ⟨fun f _=>trivial,?_⟩
  rw [semAt_eq _ hop,hrun]
  simp only [Oper.uponIn,hd]
  exact h x hx _ _ (ha.put dd _ hn) hw'
theorem s_unit {o:Oper} (hop:∀ c,o.op ≠ .defer c)
    (hr:∀ a w,Fr n F D a → St W Bo w l → ∃ w',(execOp a.eval o).run P w = .ok .skip w' ∧ St W Bo w' l')
    (hd:o.dst = none:=by rfl) (hg:Wn ops F o.guard)
    (h:LP r P n D W Bo ops Q rest F l'):LP r P n D W Bo ops Q (o :: rest) F l:=by
  intro a w ha hw
  obtain ⟨w',hrun,hw'⟩:=hr a w ha hw
  refine wpListIn_of (hg.wanted rfl ha) ?_
  refine ⟨fun f _=>trivial,?_⟩
  rw [semAt_eq _ hop,hrun]
  simp only [Oper.uponIn,hd]
  exact h _ _ (ha.put_none _) hw'
theorem s_alloc {z:Value} [hz:HZ P e z]
    (h:∀ b,LP r P n D W Bo ops Q rest ((dd,.pointer (some ⟨b,0,none⟩)) :: F) (.blk b (.cells z.cells e) :: l)) (hn:Nat.blt dd n = true:=by rfl) (hg:Wn ops F g:=by first | exact .none | exact .some rfl rfl):LP r P n D W Bo ops Q (⟨some dd,.alloc e,ty,ps,af,g⟩ :: rest) F l :=
  s_new (fun b:Nat=>.pointer (some ⟨b,0,none⟩)) (fun b=>.blk b (.cells z.cells e) :: l) (fun _=>True) (by simp)
    (fun a w _ hw=>⟨w.heap.size,w.alloc (.cells z.cells e),trivial,by
      simp only [execOp,Instr.alloc,Sem.run_bind,hz.h,Result.andThen_ok,newVar,newRow,run_newObj,Sem.run_pure,World.alloc_eq],hw.alloc _⟩)
    (hn:=hn) (hg:=hg) (h:=fun b _=>h b)
theorem s_box (hx:evO F x = some v)
    (h:∀ b,LP r P n D W Bo ops Q rest ((dd,.pointer (some ⟨b,0,none⟩)) :: F) (.blk b (.cells v.cells e) :: l)) (hn:Nat.blt dd n = true:=by rfl) (hg:Wn ops F g:=by first | exact .none | exact .some rfl rfl):LP r P n D W Bo ops Q (⟨some dd,.box e x,ty,ps,af,g⟩ :: rest) F l :=
  s_new (fun b:Nat=>.pointer (some ⟨b,0,none⟩)) (fun b=>.blk b (.cells v.cells e) :: l) (fun _=>True) (by simp)
    (fun a w ha hw=>⟨w.heap.size,w.alloc (.cells v.cells e),trivial,by
      simp only [execOp,ha.eval hx,Instr.box,Sem.run_bind,Result.andThen_ok,newVar,newRow,run_newObj,Sem.run_pure,World.alloc_eq],hw.alloc _⟩)
    (hn:=hn) (hg:=hg) (h:=fun b _=>h b)
theorem setRow_other (w:World) (g:Nat) (cs:Array Value) (k:Nat) (h:k ≠ g):(w.setRow g cs).heap[k]? = w.heap[k]?:=by
  simp only [World.setRow,Array.getElem?_modify]
  rw [if_neg (fun e=>h e.symm)]
theorem St.setRow {w:World} (hw:St W Bo w l) {b:Nat} {cs cs':Array Value} {t:TypeId} (hr:Rep (.blk b (.cells cs t (0,0))) (.blk b (.cells cs' t (0,0))) l l'):St W Bo (w.setRow b cs') l' :=
  hw.change hr rfl rfl rfl (by simp) (fun k _ hk=>setRow_other w b cs' k (fun e=>hk (by rw [e]; rfl)))
    (setRow_heap w b cs cs' t (0,0) (hw.own _ hr.mem).1) (fun k hk=>.inl hk)
theorem s_st {s by':Nat} [hs:HS P t s by'] {b off:Nat} {cs:Array Value} {et:TypeId} (h:LP r P n D W Bo ops Q rest F l')
    (hx:evO F x = some (.pointer (some ⟨b,off,none⟩)):=by rfl) (hv:evO F y = some v:=by rfl)
    (hr:Rep (.blk b (.cells cs et (0,0))) (.blk b (.cells (cs.setIfInBounds off v) et (0,0))) l l':=by repeat (first | exact .head _ | apply Rep.tail)) (hl:off < cs.size:=by first | decide | (simp; omega)) (h1:v.oneCell' = true:=by rfl) (hs1:s = 1:=by rfl) (hg:Wn ops F g:=by first | exact .none | exact .some rfl rfl):LP r P n D W Bo ops Q (⟨none,.store t x y,ty,ps,af,g⟩ :: rest) F l:=by
  refine s_unit (by simp) (fun a w ha hw=>⟨w.setRow b (cs.setIfInBounds off v),?_,hw.setRow hr⟩) (hg:=hg) (h:=h)
  have hg:=(hw.own _ hr.mem).1
  have hc:v.cells = #[v]:=by cases v <;> first | rfl | simp [Value.oneCell'] at h1
  have h2:=run_storeCells_at P b off et [v] 0 cs w hg (by simp; omega) (by simpa using h1)
  have e1:(cs.toList.take (off + 0) ++ [v] ++ cs.toList.drop (off + 0 + [v].length)).toArray = cs.setIfInBounds off v:=by
    apply Array.ext'
    simp [List.set_eq_take_append_cons_drop,hl]
  rw [e1] at h2
  simp only [execOp,ha.eval hx,ha.eval hv,Instr.storeAt,Instr.sureAddr,storeVar,Sem.run_bind,Sem.run_pure,Result.andThen_ok,run_sizeOf' hs,hc]
  rw [if_neg (by simp [hs1])]
  rw [h2]
  rfl
theorem s_sta {s by':Nat} [hs:HS P t s by'] {b:Nat} {cs vs:Array Value} {et:TypeId} (h:LP r P n D W Bo ops Q rest F l')
    (hx:evO F x = some (.pointer (some ⟨b,0,none⟩)):=by rfl) (hv:evO F y = some (.agg vs):=by rfl)
    (hr:Rep (.blk b (.cells cs et (0,0))) (.blk b (.cells vs et (0,0))) l l':=by repeat (first | exact .head _ | apply Rep.tail)) (hl:vs.size = cs.size:=by first | rfl | (simp; done)) (h1:∀ u ∈ vs.toList,u.oneCell' = true:=by first | decide | simp) (hs1:vs.size = s:=by first | rfl | (simp; done)) (hg:Wn ops F g:=by first | exact .none | exact .some rfl rfl):LP r P n D W Bo ops Q (⟨none,.store t x y,ty,ps,af,g⟩ :: rest) F l:=by
  refine s_unit (by simp) (fun a w ha hw=>⟨w.setRow b vs,?_,hw.setRow hr⟩) (hg:=hg) (h:=h)
  have hg:=(hw.own _ hr.mem).1
  have h2:=run_storeCells_at P b 0 et vs.toList 0 cs w hg (by simp; omega) h1
  have e1:(cs.toList.take (0 + 0) ++ vs.toList ++ cs.toList.drop (0 + 0 + vs.toList.length)).toArray = vs:=by
    apply Array.ext'
    simp; omega
  rw [e1] at h2
  simp only [execOp,ha.eval hx,ha.eval hv,Instr.storeAt,Instr.sureAddr,storeVar,Sem.run_bind,Sem.run_pure,Result.andThen_ok,run_sizeOf' hs,Value.cells]
  rw [if_neg (by simp [hs1])]
  rw [h2]
  rfl
end
end Eng
namespace Eng
open Go Go.RowKit
def Src (P:Program) (w:World) (s:Nat) (x:Value) (m:Nat) (ys:List Value):Prop :=
  (Builtin.lenOf x).run P w = .ok m w ∧ (Builtin.firstCells s m x).run P w = .ok ys.toArray w ∧ ys.length = m * s
theorem Src.slice {P:Program} {w:World} {s:Nat} {a:Option Addr} {m c:Nat} {ys:List Value} (h:Rd w a ys) (hl:ys.length = m * s):Src P w s (.slice a m c) m ys:=by
  refine ⟨rfl,?_,hl⟩
  cases ha:a with
  | none =>
    rcases h with rfl | ⟨b,off,cs,t,fz,e,_⟩
    · simp [Builtin.firstCells]
    · rw [ha] at e; cases e
  | some ad' =>
    simp only [Builtin.firstCells]
    rw [← hl]
    refine run_loadCells' (fun j v hv=>?_)
    have h1:=h.cell hv
    rw [ha] at h1
    have e:=Option.some.inj h1.1
    rw [e,ad_add,Nat.zero_add]
    exact h1.2
theorem Src.string {P:Program} {w:World} {b:ByteArray}:Src P w 1 (.string b) b.size (b.data.toList.map B):=by
  refine ⟨rfl,?_,by simp⟩
  simp only [Builtin.firstCells,Sem.run_pure]
  congr 1
  apply Array.ext'
  simp only [Array.toList_map,ByteArray.data_extract,Array.toList_extract,List.extract_eq_take_drop]
  rw [List.drop_zero,List.take_of_length_le (by simp)]
theorem run_app {P:Program} {t u ty e:TypeId} {ud:TypeDesc} {s by':Nat} {z:Value} {w:World} (ht:P.underlying t = some (.slice e)) (hu:P.underlying u = some ud) (hud:(∃ e',ud = .slice e') ∨ ud = .string)
    (hs:HS P e s by') (hz:HZ P e z) (hzs:z.cells.size = s) {a:Option Addr} {n c m:Nat} {xs ys:List Value} {x:Value}
    (hrow:(Res.row a c e s n xs).holds w) (hx:Src P w s x m ys) (hxd:Src P w.drew s x m ys) (h1:∀ v ∈ ys,v.oneCell' = true) (hfit:n + m ≤ maxLen) (hby:(n + m) * by' ≤ 140737488355328) :
    ∃ a' c' w',(Builtin.append_ #[t,u] ty #[.slice a n c,x]).run P w = .ok (.slice a' (n + m) c') w' ∧ (Res.row a' c' e s (n + m) (xs ++ ys)).holds w' ∧
      w'.os = w.os ∧ w'.tape = w.tape ∧ w'.output = w.output ∧ w.heap.size ≤ w'.heap.size ∧
      (∀ k,k < w.heap.size → (Res.row a c e s n xs).key ≠ some k → w'.heap[k]? = w.heap[k]?) ∧
      (∀ k,(Res.row a' c' e s (n + m) (xs ++ ys)).key = some k → (Res.row a c e s n xs).key = some k ∨ w.heap.size ≤ k) ∧ (a' = none → a = none ∧ m = 0):=by
  obtain ⟨i,hi,hsz,hbz⟩:=hs.h
  obtain ⟨hxl,hnc,hown⟩:=hrow
  have hsrcl:=hx.2.2
  by_cases hroom:n + m ≤ c
  · rcases hown with ⟨rfl,rfl⟩ | ⟨g,cur,rfl,hg,hcm,hcs,htake⟩
    · have hn:n = 0:=by omega
      have hm:m = 0:=by omega
      subst hn; subst hm
      refine ⟨none,0,w,?_,⟨by simp [hxl,hsrcl],by simp,.inl ⟨rfl,rfl⟩⟩,rfl,rfl,rfl,Nat.le_refl _,fun _ _ _=>rfl,fun k hk=>.inl hk,fun _=>⟨rfl,rfl⟩⟩
      rcases hud with ⟨e',rfl⟩ | rfl <;> simp [Builtin.append_,run_underlying ht,run_underlying hu,Go.sizeOf,typeInfo,hi,hx.1,hsz,hx.2.1]
    · have hfits:n * s + ys.length ≤ cur.size:=by rw [hsrcl,hcs,← Nat.add_mul]; exact Nat.mul_le_mul_right _ hroom
      have hst:=run_storeCells_at P g (n * s) e ys 0 cur w hg (by simpa using hfits) h1
      simp only [Nat.add_zero] at hst
      have hxl':xs.length = n * s:=hxl
      refine ⟨some ⟨g,0,none⟩,c,w.setRow g (cur.toList.take (n * s) ++ ys ++ cur.toList.drop (n * s + ys.length)).toArray,?_,⟨by simp [hxl,hsrcl,Nat.add_mul],by omega,.inr ⟨g,_,rfl,setRow_heap w g cur _ e (0,0) hg,hcm,?_,?_⟩⟩,rfl,rfl,rfl,by simp,?_,fun k hk=>.inl hk,fun h=>by cases h⟩
      · rcases hud with ⟨e',rfl⟩ | rfl <;> simp [Builtin.append_,run_underlying ht,run_underlying hu,Go.sizeOf,typeInfo,hi,hx.1,hsz,hx.2.1,hroom,addr_add,hst]
      · simp only [List.size_toArray,List.length_append,List.length_take,List.length_drop,Array.length_toList]
        rw [Nat.min_eq_left (by omega)]; omega
      · rw [htake,List.toList_toArray,List.take_append_of_le_length (by simp [hxl,hsrcl,Nat.add_mul]),List.take_of_length_le (by simp [hxl,hsrcl,Nat.add_mul])]
      · intro k _ hk
        exact setRow_other w g _ k (fun e'=>hk (by rw [e']; rfl))
  · have h63':¬ (9223372036854775807 < ((n:Int) + (m:Int))):=by simp only [maxLen] at hfit; omega
    have hns:Builtin.nextslicecap (n + m) c * i.bytes ≤ 281474976710656:=growslice_fits (by omega) (by rw [hbz]; exact hby)
    have h48':¬ (281474976710656 < Builtin.nextslicecap (n + m) c * i.bytes):=by omega
    have hold:(Builtin.firstCells s n (.slice a n c)).run P w.drew = .ok xs.toArray w.drew:=by
      have hrd:Rd w.drew a xs:=by
        refine Rd.congr (w:=w) (Res.rd (c:=c) (e:=e) (s:=s) (n:=n) ⟨hxl,hnc,hown⟩) (fun b _=>rfl)
      exact (Src.slice hrd hxl).2.1
    have hge:=grownCap_ge w (n + m) c e
    have hcm:grownCap w (n + m) c e ≤ maxLen:=grownCap_le_maxLen w (n + m) c e hfit
    refine ⟨some ⟨w.heap.size,0,none⟩,grownCap w (n + m) c e,w.drew.alloc (.cells (xs.toArray ++ ys.toArray ++ Builtin.zeroCells z.cells (grownCap w (n + m) c e - (n + m))) e),?_,⟨by simp [hxl,hsrcl,Nat.add_mul],hge,.inr ⟨w.heap.size,_,rfl,heap_alloc_new w.drew _,hcm,?_,?_⟩⟩,rfl,rfl,rfl,by simp,fun k hk _=>Below.heap_alloc w.drew _ k hk,fun k hk=>by simp [Res.key] at hk; omega,fun h=>by cases h⟩
    · have hzz:=hz.h w.drew
      have hni:¬ (n + m ≤ c):=hroom
      rcases hud with ⟨e',rfl⟩ | rfl <;> simp [Builtin.append_,run_underlying ht,run_underlying hu,Go.sizeOf,typeInfo,hi,hx.1,hsz,hni,h63',h48',Question.forced,hold,hxd.2.1,hzz,newRow,grownCap] <;> (congr 2; apply Array.ext'; simp)
    · simp only [Array.size_append,List.size_toArray,size_zeroCells,hzs,hxl,hsrcl,← Nat.add_mul]
      congr 1; omega
    · simp only [Array.toList_append]
      rw [List.take_append_of_le_length (by simp [hxl,hsrcl,Nat.add_mul]),List.take_of_length_le (by simp [hxl,hsrcl,Nat.add_mul])]
end Eng
namespace Eng
open Go Go.RowKit
class HF (P:Program) (k:FuncId):Prop where
  h : ∃ fn c, P.funcs[k]? = some fn ∧ fn.body = some c ∧ (fn.name == "runtime.NumGoroutine") = false
def evP (F:List (Nat × Value)):List (Nat × Operand) → Option (List (Nat × Value))
  | []=>some []
  | (i,x) :: xs=>match evO F x,evP F xs with
    | some v,some vs=>some ((i,v) :: vs)
    | _,_=>none
theorem evP_eval {F:List (Nat × Value)} {n:Nat} {D:List Deferred} {a:Act} (ha:Fr n F D a):∀ {xs:List (Nat × Operand)} {vs:List (Nat × Value)},evP F xs = some vs → xs.map (fun (i,x)=>(i,a.eval x)) = vs
  | [],vs,h=>by simp [evP] at h; subst h; rfl
  | (i, x) :: xs, vs, h => by
    unfold evP at h
    cases h1:evO F x with
    | none=>simp [h1] at h
    | some v =>
      cases h2:evP F xs with
      | none=>simp [h1,h2] at h
      | some us =>
        simp [h1,h2] at h; subst h
        simp only [List.map_cons,ha.eval h1,evP_eval ha h2]
section
variable {r:Option Nat} {P:Program} {n:Nat} {D:List Deferred} {W:World} {Bo:List Nat} {F:List (Nat × Value)} {l l':SH}
  {d:Option Tmp} {dd:Nat} {ty:TypeId} {ps:String} {af:Array Edge} {g:Option (Nat × Bool)} {x y z:Operand} {v u:Value} {ta tb t e:TypeId}
  {Q:Exit → Act → World → Prop} {ops:Array Oper} {rest:List Oper} {td:TypeDesc} {c:Code}
theorem St.nilRow {w:World} (hw:St W Bo w l) (e:TypeId) (s:Nat):St W Bo w (.row none 0 e s 0 [] :: l) :=
  hw.add (Below.refl _ _) ⟨by simp,by simp,.inl ⟨rfl,rfl⟩⟩ (fun k hk=>by simp [Res.key] at hk)
theorem s_nilrow (e:TypeId) (s:Nat) (h:LP r P n D W Bo ops Q rest F (.row none 0 e s 0 [] :: l)):LP r P n D W Bo ops Q rest F l:=fun a w ha hw=>h a w ha (hw.nilRow e s)
theorem c_nilrow (e:TypeId) (s:Nat) (h:CP r P n D W Bo c Q F (.row none 0 e s 0 [] :: l)):CP r P n D W Bo c Q F l:=fun a w ha hw=>h a w ha (hw.nilRow e s)
theorem St.toRow {w:World} (hw:St W Bo w l) {b:Nat} {cs:Array Value} {e:TypeId} {s m:Nat} (hs:cs.size = m * s) (hm:m ≤ maxLen) (hr:Rep (.blk b (.cells cs e (0,0))) (.row (some ⟨b,0,none⟩) m e s m cs.toList) l l'):St W Bo w l' :=
  hw.change hr rfl rfl rfl (Nat.le_refl _) (fun _ _ _=>rfl)
    ⟨by simpa using hs,Nat.le_refl _,.inr ⟨b,cs,rfl,(hw.own _ hr.mem).1,hm,hs,by rw [← hs]; exact List.take_of_length_le (by simp)⟩⟩ (fun k hk=>.inl hk)
theorem s_app [ht:HU P ta (.slice e)] [hu:HU P tb td] {s by':Nat} [hs:HS P e s by'] {zz:Value} [hz:HZ P e zz] {a:Option Addr} {k cc m:Nat} {xs ys:List Value} {sv:Value}
    {l'':Option Addr → Nat → SH} (hsrc:∀ w,St W Bo w l → Src P w s sv m ys)
    (h:∀ a' c',(a' = none → a = none ∧ m = 0) → LP r P n D W Bo ops Q rest ((dd,.slice a' (k + m) c') :: F) (l'' a' c'))
    (hx:evO F x = some (.slice a k cc):=by rfl) (hy:evO F y = some sv:=by rfl)
    (hm:Res.row a cc e s k xs ∈ l:=by repeat (first | exact .head _ | apply List.Mem.tail)) (hrep:∀ a' c',Rep (.row a cc e s k xs) (.row a' c' e s (k + m) (xs ++ ys)) l (l'' a' c'):=by intro _ _; repeat (first | exact .head _ | apply Rep.tail))
    (h1:∀ v ∈ ys,v.oneCell' = true:=by first | decide | (simp [bs,is]; done)) (hfit:k + m ≤ maxLen:=by (unfold maxLen; omega)) (hby:(k + m) * by' ≤ 140737488355328:=by omega)
    (hud:(∃ e',td = .slice e') ∨ td = .string:=by first | exact .inl ⟨_,rfl⟩ | exact .inr rfl) (hzs:zz.cells.size = s:=by rfl) (hn:Nat.blt dd n = true:=by rfl) (hg:Wn ops F g:=by first | exact .none | exact .some rfl rfl) :
    LP r P n D W Bo ops Q (⟨some dd,.call ⟨.builtin .append,#[x,y],#[ta,tb]⟩,ty,ps,af,g⟩ :: rest) F l:=by
  refine s_new (σ:=Option Addr × Nat) (fun p=>.slice p.1 (k + m) p.2) (fun p=>l'' p.1 p.2) (fun p=>p.1 = none → a = none ∧ m = 0) (by simp) ?_ (hn:=hn) (hg:=hg) (h:=fun p hp=>h p.1 p.2 hp)
  intro ac w ha hw
  obtain ⟨a',c',w',hrun,hrow,h2,h3,h4,h5,h6,h7,h8⟩:=run_app (ty:=ty) ht.h hu.h hud hs hz hzs (hw.own _ hm).1 (hsrc w hw) (hsrc w.drew hw.drew) h1 hfit hby
  refine ⟨(a',c'),w',h8,?_,hw.change (hrep a' c') h2 h3 h4 h5 h6 hrow h7⟩
  have e1:#[x,y].map ac.eval = #[.slice a k cc,sv]:=by simp [ha.eval hx,ha.eval hy]
  simp only [execOp,resolve,e1,Sem.run_bind,Sem.run_pure,Result.andThen_ok,invoke,builtin,hrun]
theorem s_bsl [ht:HU P t (.slice e)] {s by':Nat} [hs:HS P e s by'] {zz:Value} [hz:HZ P e zz] {m:Nat} {parts:Array (Nat × Operand)} {vs:List (Nat × Value)} {cs:Array Value}
    (h:∀ b,LP r P n D W Bo ops Q rest ((dd,.slice (some ⟨b,0,none⟩) m m) :: F) (.blk b (.cells cs e) :: l))
    (hp:evP F parts.toList = some vs:=by rfl)
    (hf:Instr.fill (fun i=>some (i * s,s)) ((Array.range (m * s)).map (zz.cells[· % zz.cells.size]!)) vs = some cs:=by rfl)
    (hm:0 < m * s:=by decide) (hm2:m * s ≤ 16777216:=by decide) (hn:Nat.blt dd n = true:=by rfl) (hg:Wn ops F g:=by first | exact .none | exact .some rfl rfl) :
    LP r P n D W Bo ops Q (⟨some dd,.buildSlice t m parts,ty,ps,af,g⟩ :: rest) F l :=
  s_new (fun b:Nat=>.slice (some ⟨b,0,none⟩) m m) (fun b=>.blk b (.cells cs e) :: l) (fun _=>True) (by simp)
    (fun a w ha hw=>⟨w.heap.size,w.alloc (.cells cs e),trivial,by
      have e1:(parts.map fun (i,x)=>(i,a.eval x)).toList = vs:=by
        rw [Array.toList_map]
        exact evP_eval ha hp
      have e2:¬ (m * s > 2 ^ 24):=by omega
      have e3:¬ (m * s = 0):=by omega
      simp only [execOp,Instr.buildSlice,Sem.run_bind,run_underlying ht.h,Result.andThen_ok,run_sizeOf' hs,e2,if_false,e3,hz.h,Sem.run_pure,e1,hf,newRow,run_newObj,World.alloc_eq],hw.alloc _⟩)
    (hn:=hn) (hg:=hg) (h:=fun b _=>h b)
theorem s_mks [ht:HU P t (.slice e)] {s by':Nat} [hs:HS P e s by'] {zz:Value} [hz:HZ P e zz] {kl kc:IntKind} {i j:Int}
    (h:∀ b,LP r P n D W Bo ops Q rest ((dd,.slice (some ⟨b,0,none⟩) i.toNat j.toNat) :: F) (.blk b (.cells (madeCells zz.cells (j.toNat * s)) e) :: l))
    (hx:evO F x = some (.int kl i):=by rfl) (hy:evO F y = some (.int kc j):=by rfl)
    (h0:0 ≤ i:=by omega) (h1:i ≤ j:=by omega) (h2:(by':Int) * j ≤ 281474976710656:=by omega) (h3:j ≤ 9223372036854775807:=by omega) (hn:Nat.blt dd n = true:=by rfl) (hg:Wn ops F g:=by first | exact .none | exact .some rfl rfl) :
    LP r P n D W Bo ops Q (⟨some dd,.makeSlice t x y,ty,ps,af,g⟩ :: rest) F l :=
  s_new (fun b:Nat=>.slice (some ⟨b,0,none⟩) i.toNat j.toNat) (fun b=>.blk b (.cells (madeCells zz.cells (j.toNat * s)) e) :: l) (fun _=>True) (by simp)
    (fun a w ha hw=>⟨w.heap.size,w.alloc (.cells (madeCells zz.cells (j.toNat * s)) e),trivial,by
      obtain ⟨inf,hi,hsz,hbz⟩:=hs.h
      have hzz:inf.zero = some zz:=by
        have:=hz.h w
        simp only [zeroValue,typeInfo,Sem.run_bind,run_program,Result.andThen_ok,hi,Sem.run_pure] at this
        cases hq:inf.zero with
        | none=>rw [hq] at this; simp at this
        | some q=>rw [hq] at this; simp at this; rw [this]
      have:=run_make (P:=P) w t e inf zz ht.h hi hzz kl kc i j h0 h1 (by rw [hbz]; exact h2) h3
      rw [hsz] at this
      simp only [execOp,ha.eval hx,ha.eval hy,Sem.run_bind,this,Result.andThen_ok,Sem.run_pure],hw.alloc _⟩)
    (hn:=hn) (hg:=hg) (h:=fun b _=>h b)
theorem s_cpy [ht:HU P ta (.slice e)] {s by':Nat} [hs:HS P e s by'] {b off m c:Nat} {cs:Array Value} {et:TypeId} {sv:Value} {q:Nat} {ys:List Value}
    (hx:evO F x = some (.slice (some ⟨b,off,none⟩) m c)) (hy:evO F y = some sv) (hq:∀ w,St W Bo w l → (Builtin.lenOf sv).run P w = .ok q w)
    (hsrc:∀ w,St W Bo w l → (Builtin.firstCells s (Nat.min q m) sv).run P w = .ok ys.toArray w)
    (hrep:Rep (.blk b (.cells cs et (0,0))) (.blk b (.cells (cs.toList.take off ++ ys ++ cs.toList.drop (off + ys.length)).toArray et (0,0))) l l')
    (h1:∀ v ∈ ys,v.oneCell' = true) (hfit:off + ys.length ≤ cs.size)
    (h:LP r P n D W Bo ops Q rest ((dd,I (Nat.min q m:Nat)) :: F) l') (hn:Nat.blt dd n = true:=by rfl) (hg:Wn ops F g:=by first | exact .none | exact .some rfl rfl) :
    LP r P n D W Bo ops Q (⟨some dd,.call ⟨.builtin .copy,#[x,y],#[ta,tb]⟩,ty,ps,af,g⟩ :: rest) F l :=
  s_new (fun _:Unit=>I (Nat.min q m:Nat)) (fun _=>l') (fun _=>True) (by simp)
    (fun a w ha hw=>⟨(),w.setRow b (cs.toList.take off ++ ys ++ cs.toList.drop (off + ys.length)).toArray,trivial,by
      have e1:#[x,y].map a.eval = #[.slice (some ⟨b,off,none⟩) m c,sv]:=by simp [ha.eval hx,ha.eval hy]
      have hst:=run_storeCells_at P b off et ys 0 cs w (hw.own _ hrep.mem).1 (by simpa using hfit) h1
      simp only [Nat.add_zero] at hst
      have hrun:(Builtin.copy_ #[ta,tb] ty #[.slice (some ⟨b,off,none⟩) m c,sv]).run P w = .ok (I (Nat.min q m:Nat)) (w.setRow b (cs.toList.take off ++ ys ++ cs.toList.drop (off + ys.length)).toArray):=by
        simp [Builtin.copy_,run_underlying ht.h,run_sizeOf' hs,hq w hw,hsrc w hw,hst,goInt]
      simp only [execOp,resolve,e1,Sem.run_bind,Sem.run_pure,Result.andThen_ok,invoke,builtin,hrun],hw.setRow hrep⟩)
    (hn:=hn) (hg:=hg) (h:=fun _ _=>h)
theorem run_call {k:FuncId} [hf:HF P k] {fo:Operand} {fs cs vs:List Value} {as9:Array Operand} {ts:Array TypeId} (hfo:evO F fo = some (.func (.func k) fs.toArray cs.toArray)) (hargs:evL F as9.toList = some vs)
    {a:Act} {w:World} (ha:Fr n F D a):(execOp a.eval ⟨d,.call ⟨.value fo,as9,ts⟩,ty,ps,af,g⟩).run P w = .ok (.enter k (fs ++ vs ++ cs).toArray) w:=by
  obtain ⟨fn,c,h1,h2,h3⟩:=hf.h
  have e:(callFunc k (fs ++ vs ++ cs).toArray).run P w = .ok (.enter k (fs ++ vs ++ cs).toArray) w:=by
    have h4 : fn.name ≠ "runtime.NumGoroutine" := by simpa using h3
    simp [callFunc,h1,h4,h2]
  simp only [execOp,resolve,ha.eval hfo,evs ha hargs,Deferred.ofValue,Sem.run_bind,Sem.run_pure,Result.andThen_ok,invoke]
  simpa using e
def Gives (P:Program) (k:FuncId) (args:List Value) (w:World) (bo:List Nat) {σ:Type} (val:σ → Value) (lx:σ → SH) (φ:σ → Prop):Prop :=
  Calls P k args.toArray w fun e w'=>∃ x,φ x ∧ e = .returned (val x) ∧ St w bo w' (lx x)
def Pure (P:Program) (k:FuncId) (args:List Value) (w:World) (v:Value):Prop :=
  Calls P k args.toArray w fun e w'=>e = .returned v ∧ St w [] w' []
theorem callsFw {k:FuncId} {args:Array Value} {w:World} {R:Ending → World → Prop} (h:Calls P k args w R):CallsIn (Fw r) 0 P k args w R:=by
  have h1:CallsIn Fence.wide 0 P k args w R:=callsIn_wide.2 h
  cases r with
  | none=>exact h1
  | some l=>exact CallsIn.inRound l h1
theorem s_calls {k:FuncId} [hf:HF P k] {fo:Operand} {fs cs vs:List Value} {as9:Array Operand} {ts:Array TypeId} {σ:Type} (val:σ → Value) (lx:σ → SH) (φ:σ → Prop)
    (hfo:evO F fo = some (.func (.func k) fs.toArray cs.toArray)) (hargs:evL F as9.toList = some vs)
    (hc:∀ w,St W Bo w l → Calls P k (fs ++ vs ++ cs).toArray w fun e w'=>∃ x,φ x ∧ e = .returned (val x) ∧ St W Bo w' (lx x))
    (h:∀ x,φ x → LP r P n D W Bo ops Q rest ((dd,val x) :: F) (lx x)) (hn:Nat.blt dd n = true:=by rfl) (hg:Wn ops F g:=by first | exact .none | exact .some rfl rfl) :
    LP r P n D W Bo ops Q (⟨some dd,.call ⟨.value fo,as9,ts⟩,ty,ps,af,g⟩ :: rest) F l:=by
  intro a w ha hw
  refine wpListIn_of (hg.wanted rfl ha) ?_
  refine ⟨fun f _=>trivial,?_⟩
  rw [semAt_eq _ (by simp),run_call hfo hargs ha]
  refine ⟨by simp [Fw,Fence.wide],callsFw ((hc w hw).mono ?_)⟩
  rintro e w' ⟨x,hx,rfl,hw'⟩
  exact h x hx _ _ (ha.put dd _ hn) hw'
theorem s_pure {k:FuncId} [hf:HF P k] {fo:Operand} {fs cs vs args:List Value} {as9:Array Operand} {ts:Array TypeId}
    (hc:∀ w,St W Bo w l → Pure P k args w v)
    (h:LP r P n D W Bo ops Q rest ((dd,v) :: F) l)
    (hfo:evO F fo = some (.func (.func k) fs.toArray cs.toArray):=by rfl) (hargs:evL F as9.toList = some vs:=by rfl) (hap:args = fs ++ vs ++ cs:=by rfl) (hn:Nat.blt dd n = true:=by rfl) (hg:Wn ops F g:=by first | exact .none | exact .some rfl rfl) :
    LP r P n D W Bo ops Q (⟨some dd,.call ⟨.value fo,as9,ts⟩,ty,ps,af,g⟩ :: rest) F l :=
  s_calls (σ:=Unit) (fun _=>v) (fun _=>l) (fun _=>True) hfo hargs
    (fun w hw=>(hap ▸ hc w hw:Pure P k (fs ++ vs ++ cs) w v).mono fun _ _ ⟨he,hw'⟩=>⟨(),trivial,he,(hw.trans hw').sub (by simp)⟩) (fun _ _=>h) hn hg
theorem s_gives {k:FuncId} [hf:HF P k] {fo:Operand} {fs cs vs args:List Value} {as9:Array Operand} {ts:Array TypeId} {σ:Type} {val:σ → Value} {lx:σ → SH} {φ:σ → Prop}
    (hc:∀ w,St W Bo w l → Gives P k args w [] val lx φ)
    (h:∀ x,φ x → LP r P n D W Bo ops Q rest ((dd,val x) :: F) (lx x ++ l))
    (hfo:evO F fo = some (.func (.func k) fs.toArray cs.toArray):=by rfl) (hargs:evL F as9.toList = some vs:=by rfl) (hap:args = fs ++ vs ++ cs:=by rfl) (hn:Nat.blt dd n = true:=by rfl) (hg:Wn ops F g:=by first | exact .none | exact .some rfl rfl) :
    LP r P n D W Bo ops Q (⟨some dd,.call ⟨.value fo,as9,ts⟩,ty,ps,af,g⟩ :: rest) F l :=
  s_calls val (fun x=>lx x ++ l) φ hfo hargs
    (fun w hw=>(hap ▸ hc w hw:Gives P k (fs ++ vs ++ cs) w [] val lx φ).mono fun _ _ ⟨x,hx,he,hw'⟩=>⟨x,hx,he,hw.trans hw'⟩) h hn hg
theorem s_chg {k:FuncId} [hf:HF P k] {fo:Operand} {fs cs vs args:List Value} {as9:Array Operand} {ts:Array TypeId} {σ:Type} {val:σ → Value} {b:Nat} {o:Obj} {o':σ → Obj} {lx:σ → SH} {φ:σ → Prop} {l1:σ → SH}
    (hc:∀ w,St W Bo w l → Gives P k args w [b] val (fun x=>.blk b (o' x) :: lx x) φ)
    (hrep:∀ x,Rep (.blk b o) (.blk b (o' x)) l (l1 x))
    (h:∀ x,φ x → LP r P n D W Bo ops Q rest ((dd,val x) :: F) (lx x ++ l1 x))
    (hfo:evO F fo = some (.func (.func k) fs.toArray cs.toArray):=by rfl) (hargs:evL F as9.toList = some vs:=by rfl) (hap:args = fs ++ vs ++ cs:=by rfl) (hn:Nat.blt dd n = true:=by rfl) (hg:Wn ops F g:=by first | exact .none | exact .some rfl rfl) :
    LP r P n D W Bo ops Q (⟨some dd,.call ⟨.value fo,as9,ts⟩,ty,ps,af,g⟩ :: rest) F l :=
  s_calls val (fun x=>lx x ++ l1 x) φ hfo hargs
    (fun w hw=>(hap ▸ hc w hw:Gives P k (fs ++ vs ++ cs) w [b] val (fun x=>.blk b (o' x) :: lx x) φ).mono fun _ _ ⟨x,hx,he,hw'⟩=>⟨x,hx,he,hw.trans1 (hrep x) hw'⟩) h hn hg
class HM (P:Program):Prop where
  h:P.follows .mixedOrders = true
def DP (P:Program) (n:Nat) (D:List Deferred) (W:World) (Bo:List Nat) (ops:Array Oper) (Q:Exit → Act → World → Prop) (rest:List Oper) (F:List (Nat × Value)) (l:SH):Prop :=
  ∀ a,Fr n F D a → wpQuiet P ops (fun w=>St W Bo w l) (fun a'=>∀ w',St W Bo w' l → Q .normal a' w') rest a
theorem c_regd [hm:HM P] {id:Nat} {os:List Oper} (h:DP P n D W Bo os.toArray Q os F l) (hB:Region.lexB .any os.toArray = true:=by kernel_rfl):CP none P n D W Bo (.region id os.toArray true) Q F l:=by
  intro a w ha hw
  rw [Fw_none,wpIn_wide]
  exact wp_region_quiet (C:=fun w=>St W Bo w l) hm.h hB hw.drew (by simpa using h a ha)
theorem d_nil (h:QP n D W Bo Q .normal F l):DP P n D W Bo ops Q [] F l:=fun a ha w hw=>h a w ha hw
theorem d_y {op:Op} {v:Value} (hy:Y P n D W Bo ⟨some dd,op,ty,ps,af,g⟩ F l v) (h:DP P n D W Bo ops Q rest ((dd,v) :: F) l) (hn:Nat.blt dd n = true:=by rfl) (hg:Wn ops F g:=by first | exact .none | exact .some rfl rfl) :
    DP P n D W Bo ops Q (⟨some dd,op,ty,ps,af,g⟩ :: rest) F l:=by
  intro a ha
  simp only [wpQuiet]
  rw [if_pos (hg.wanted rfl ha)]
  refine ⟨v,fun w hw=>?_,h _ (ha.put dd v hn)⟩
  unfold Oper.quietAt
  rw [hy.2 a w ha hw]
  exact ⟨rfl,rfl⟩
theorem d_no {op:Op} {j ee:Nat} {b b':Bool} (h:DP P n D W Bo ops Q rest ((dd,undef) :: F) l) (hn:Nat.blt dd n = true:=by rfl)
    (hj:(ops[j]?).bind (·.dst) = some ee:=by rfl) (hv:lkO F ee = some (.bool b'):=by rfl) (hb:(b' == b) = false:=by rfl):DP P n D W Bo ops Q (⟨some dd,op,ty,ps,af,some (j,b)⟩ :: rest) F l:=by
  intro a ha
  simp only [wpQuiet]
  rw [unwanted_of (o:=⟨some dd,op,ty,ps,af,some (j,b)⟩) rfl hj hv hb ha]
  exact h _ (ha.put dd _ hn)
theorem d_pure {k:FuncId} [hf:HF P k] {fo:Operand} {fs cs vs args:List Value} {as9:Array Operand} {ts:Array TypeId}
    (hc:∀ w,St W Bo w l → Pure P k args w v)
    (h:DP P n D W Bo ops Q rest ((dd,v) :: F) l)
    (hfo:evO F fo = some (.func (.func k) fs.toArray cs.toArray):=by rfl) (hargs:evL F as9.toList = some vs:=by rfl) (hap:args = fs ++ vs ++ cs:=by rfl) (hn:Nat.blt dd n = true:=by rfl) (hg:Wn ops F g:=by first | exact .none | exact .some rfl rfl) :
    DP P n D W Bo ops Q (⟨some dd,.call ⟨.value fo,as9,ts⟩,ty,ps,af,g⟩ :: rest) F l:=by
  intro a ha
  simp only [wpQuiet]
  rw [if_pos (hg.wanted rfl ha)]
  refine ⟨v,fun w hw=>?_,h _ (ha.put dd v hn)⟩
  unfold Oper.quietAt
  rw [run_call hfo hargs ha]
  exact ⟨rfl,(hap ▸ hc w hw:Pure P k (fs ++ vs ++ cs) w v).mono fun _ _ ⟨he,hw'⟩=>⟨he,(hw.trans hw').sub (by simp)⟩⟩
def argsF:Nat → List Value → List (Nat × Value)
  | _,[]=>[]
  | i,v :: vs=>(i,v) :: argsF (i + 1) vs
theorem argsF_look:∀ (vs:List Value) (i t:Nat) (v:Value),lkO (argsF i vs) t = some v → i ≤ t ∧ vs[t - i]? = some v
  | [],_,_,_,h=>by simp [argsF,lkO] at h
  | u :: vs,i,t,v,h=>by
    unfold argsF lkO at h
    cases hb:Nat.beq i t with
    | true =>
      have e:=Nat.eq_of_beq_eq_true hb
      subst e
      rw [hb] at h
      simp only [cond_true] at h
      exact ⟨Nat.le_refl _,by simpa using h⟩
    | false =>
      have e:=Nat.ne_of_beq_eq_false hb
      rw [hb] at h
      simp only [cond_false] at h
      have ih:=argsF_look vs (i + 1) t v h
      refine ⟨by omega,?_⟩
      rw [show t - i = (t - (i + 1)) + 1 by omega]
      simpa using ih.2
theorem enter0 {k:FuncId} {fn:Func} {args:List Value} {R:Ending → World → Prop} (hf:P.funcs[k]? = some fn) (hb:fn.body = some c) (hn:fn.ntmps = n) (hle:args.length ≤ n)
    (hw:St W Bo W l) (h:CP none P n [] W Bo c (bodyPost P fn R) (argsF 0 args) l):Calls P k args.toArray W R:=by
  refine calls_of_wp hf hb ?_
  rw [← wpIn_wide (n:=0),← Fw_none]
  refine h _ W ⟨by simp; omega,rfl,?_⟩ hw
  intro t v ht
  have:=(argsF_look args 0 t v ht).2
  simp only [Nat.sub_zero] at this
  have hlt:t < args.length:=by
    rcases Nat.lt_or_ge t args.length with h1 | h1
    · exact h1
    · rw [List.getElem?_eq_none h1] at this; cases this
  rw [Array.getElem?_append_left (by simpa using hlt)]
  simpa using this
theorem enter {k:FuncId} {fn:Func} {args:List Value} {R:Ending → World → Prop} (hf:P.funcs[k]? = some fn) (hn:fn.ntmps = n) (h:CP none P n [] W [] c (bodyPost P fn R) (argsF 0 args) [])
    (hb:fn.body = some c:=by rfl) (hle:Nat.ble args.length n = true:=by rfl):Calls P k args.toArray W R :=
  enter0 hf hb hn (Nat.le_of_ble_eq_true hle) (St.refl W) h
theorem St.borrow {b:Nat} {o:Obj} (h:W.heap[b]? = some o):St W [b] W [.blk b o] :=
  ⟨rfl,rfl,rfl,Nat.le_refl _,fun _ _ _=>rfl,fun p hp=>by rw [List.mem_singleton] at hp; subst hp; exact ⟨h,fun k hk=>by cases hk; exact .inr (by simp)⟩,by simp [keys,Res.key]⟩
theorem enterB {k:FuncId} {fn:Func} {args:List Value} {R:Ending → World → Prop} {b:Nat} {o:Obj} (hf:P.funcs[k]? = some fn) (hn:fn.ntmps = n) (hbo:W.heap[b]? = some o)
    (h:CP none P n [] W [b] c (bodyPost P fn R) (argsF 0 args) [.blk b o]) (hb:fn.body = some c:=by rfl) (hle:Nat.ble args.length n = true:=by rfl):Calls P k args.toArray W R :=
  enter0 hf hb hn (Nat.le_of_ble_eq_true hle) (St.borrow hbo) h
def rvSem (tmps:Array Value):ResultVar → Sem Value
  | .tmp t=>pure (tmps.getD t undef)
  | .cell p t=>do loadVar t (← asAddr (tmps.getD p undef))
def outV:List Value → Value
  | [v]=>v
  | vs=>.tuple vs.toArray
def RV (P:Program) (n:Nat) (W:World) (Bo:List Nat) (F:List (Nat × Value)) (l:SH) (rv:ResultVar) (v:Value):Prop :=
  ∀ a D w,Fr n F D a → St W Bo w l → (rvSem a.tmps rv).run P w = .ok v w
inductive RVs (P:Program) (n:Nat) (W:World) (Bo:List Nat) (F:List (Nat × Value)) (l:SH):List ResultVar → List Value → Prop
  | nil:RVs P n W Bo F l [] []
  | cons {rv:ResultVar} {v:Value} {rvs:List ResultVar} {vs:List Value} (h:RV P n W Bo F l rv v) (h2:RVs P n W Bo F l rvs vs):RVs P n W Bo F l (rv :: rvs) (v :: vs)
theorem rv_t {t:Nat} (h:lkO F t = some v:=by rfl):RV P n W Bo F l (.tmp t) v:=fun a D w ha _=>by
  simp only [rvSem,Sem.run_pure,Array.getD_eq_getD_getElem?,ha.slot t v h,Option.getD_some]
theorem rv_c0 {p:Nat} {a:Addr} (h:lkO F p = some (.pointer (some a))) (hl:∀ w,St W Bo w l → (Instr.loadAt t (.pointer (some a))).run P w = .ok v w):RV P n W Bo F l (.cell p t) v:=fun ac D w ha hw=>by
  have h2:=hl w hw
  simp only [Instr.loadAt,Instr.sureAddr,Sem.run_bind,Sem.run_pure,Result.andThen_ok] at h2
  simp only [rvSem,Array.getD_eq_getD_getElem?,ha.slot p _ h,Option.getD_some,asAddr,Sem.run_bind,Sem.run_pure,Result.andThen_ok,h2]
theorem rv_ca [hu:HT P t false] {p b:Nat} {cs:Array Value} {et:TypeId} {fz:Nat × Nat} {s by':Nat} [hs:HS P t s by'] (h:lkO F p = some (.pointer (some ⟨b,0,none⟩)):=by rfl)
    (hm:Res.blk b (.cells cs et fz) ∈ l:=by repeat (first | exact .head _ | apply List.Mem.tail)) (hl:cs.size = s:=by rfl):RV P n W Bo F l (.cell p t) (.agg cs) :=
  rv_c0 h fun w hw=>by
    have:=ld_agg (w:=w) (a:=⟨b,0,none⟩) (cs:=cs.toList) hu hs (by simpa using hl) (fun j v hv=>by
      rw [addr_add,cell_of_row w b _ cs et fz (hw.own _ hm).1]; simpa using hv)
    simpa using this
theorem rv_cf [hu:HT P t true] {p b:Nat} {cs:Array Value} {et:TypeId} {fz:Nat × Nat} (h:lkO F p = some (.pointer (some ⟨b,0,none⟩)):=by rfl)
    (hm:Res.blk b (.cells cs et fz) ∈ l:=by repeat (first | exact .head _ | apply List.Mem.tail)) (hv:cs[0]? = some v:=by rfl):RV P n W Bo F l (.cell p t) v :=
  rv_c0 h fun w hw=>ld_flat hu (by rw [cell_of_row w b 0 cs et fz (hw.own _ hm).1]; exact hv)
theorem results_eq (fn:Func) (tmps:Array Value):results fn tmps = (do let vs ← fn.results.mapM (rvSem tmps); pure (if h:vs.size = 1 then vs[0] else .tuple vs)):=by
  unfold results
  have:(fun rv:ResultVar=>match rv with
    | .tmp t=>(pure (tmps.getD t undef):Sem Value)
    | .cell a t=>do loadVar t (← asAddr (tmps.getD a undef))) = rvSem tmps:=by funext rv; cases rv <;> rfl
  rw [← this]
  rfl
theorem ret_n {fn:Func} {R:Ending → World → Prop} {rvs:List ResultVar} {vs:List Value} (hf:fn.results = rvs.toArray) (h:RVs P n W Bo F l rvs vs) (e:Exit) (he:e = .ret ∨ e = .normal)
    (hR:∀ w,St W Bo w l → R (.returned (outV vs)) w):QP n [] W Bo (bodyPost P fn R) e F l:=by
  intro a w ha hw
  have hm:(rvs.mapM (rvSem a.tmps)).run P w = .ok vs w:=by
    clear hf hR
    induction h with
    | nil=>rfl
    | cons h1 _ ih =>
      rw [List.mapM_cons]
      have h2:=h1 a _ w ha hw
      rw [Sem.run_bind,h2]
      simp only [Sem.run_bind,Sem.run_pure,ih,Result.andThen_ok]
  have hres:(results fn a.tmps).run P w = .ok (outV vs) w:=by
    rw [results_eq,hf,List.mapM_toArray]
    simp only [Sem.run_bind,Sem.run_map,hm,Result.andThen_ok,Sem.run_pure]
    match vs with
    | []=>rfl
    | [v]=>rfl
    | v :: u :: vs=>rfl
  rcases he with rfl | rfl <;> exact ⟨ha.defers,_,hres,hR w hw⟩
theorem ret1 {fn:Func} {R:Ending → World → Prop} {a:ResultVar} (hf:fn.results = #[a]) (h:RV P n W Bo F l a v) (hR:∀ w,St W Bo w l → R (.returned v) w):QP n [] W Bo (bodyPost P fn R) .ret F l :=
  ret_n (rvs:=[a]) (vs:=[v]) hf (.cons h .nil) _ (.inl rfl) hR
theorem ret2 {fn:Func} {R:Ending → World → Prop} {a b:ResultVar} (hf:fn.results = #[a,b]) (h:RV P n W Bo F l a v) (h2:RV P n W Bo F l b u) (hR:∀ w,St W Bo w l → R (.returned (.tuple #[v,u])) w):QP n [] W Bo (bodyPost P fn R) .ret F l :=
  ret_n (rvs:=[a,b]) (vs:=[v,u]) hf (.cons h (.cons h2 .nil)) _ (.inl rfl) hR
theorem ret3 {fn:Func} {R:Ending → World → Prop} {a b c:ResultVar} {v3:Value} (hf:fn.results = #[a,b,c]) (h:RV P n W Bo F l a v) (h2:RV P n W Bo F l b u) (h3:RV P n W Bo F l c v3) (hR:∀ w,St W Bo w l → R (.returned (.tuple #[v,u,v3])) w):QP n [] W Bo (bodyPost P fn R) .ret F l :=
  ret_n (rvs:=[a,b,c]) (vs:=[v,u,v3]) hf (.cons h (.cons h2 (.cons h3 .nil))) _ (.inl rfl) hR
theorem ret0 {fn:Func} {R:Ending → World → Prop} (hf:fn.results = #[]) (hR:∀ w,St W Bo w l → R (.returned (.tuple #[])) w) (e:Exit) (he:e = .ret ∨ e = .normal):QP n [] W Bo (bodyPost P fn R) e F l :=
  ret_n (rvs:=[]) (vs:=[]) hf .nil _ he hR
end
end Eng
end
section
namespace Eng
open Go Go.RowKit
theorem bs_set (q:List UInt8) (i:Nat) (x:UInt8):(bs q).toArray.setIfInBounds i (B x) = (bs (q.set i x)).toArray:=by
  apply Array.ext'; simp [bs,List.map_set]
theorem ws_set (q:List UInt32) (i:Nat) (x:UInt32):(ws q).toArray.setIfInBounds i (W32 x) = (ws (q.set i x)).toArray:=by
  apply Array.ext'; simp [ws,List.map_set]
theorem bs_append (a b:List UInt8):bs (a ++ b) = bs a ++ bs b:=by simp [bs]
theorem bs_take (a:List UInt8) (k:Nat):bs (a.take k) = (bs a).take k:=by simp [bs]
theorem bs_drop (a:List UInt8) (k:Nat):bs (a.drop k) = (bs a).drop k:=by simp [bs]
theorem is_append (a b:List Int):is (a ++ b) = is a ++ is b:=by simp [is]
theorem bs_one {v:Value} {q:List UInt8} (h:v ∈ bs q):v.oneCell' = true:=by
  simp [bs] at h; obtain ⟨x,_,rfl⟩:=h; rfl
theorem is_one {v:Value} {q:List Int} (h:v ∈ is q):v.oneCell' = true:=by
  simp [is] at h; obtain ⟨x,_,rfl⟩:=h; rfl
theorem ws_one {v:Value} {q:List UInt32} (h:v ∈ ws q):v.oneCell' = true:=by
  simp [ws] at h; obtain ⟨x,_,rfl⟩:=h; rfl
theorem madeB (n:Nat):madeCells (Value.cells (.int .u8 0)) n = (bs (List.replicate n 0)).toArray:=by
  apply Array.ext'
  simp only [madeCells,Value.cells,bs,Array.toList_map,Array.toList_range,List.map_replicate]
  apply List.ext_getElem
  · simp
  · intro i h1 h2; simp [Nat.mod_one]
section
variable {r:Option Nat} {P:Program} {n:Nat} {D:List Deferred} {W:World} {Bo:List Nat} {F:List (Nat × Value)} {l l':SH}
  {d:Option Tmp} {dd:Nat} {ty:TypeId} {ps:String} {af:Array Edge} {g:Option (Nat × Bool)} {x y z:Operand} {v u:Value} {ta tb t e:TypeId}
  {Q:Exit → Act → World → Prop} {ops:Array Oper} {rest:List Oper} {td:TypeDesc} {c:Code}
theorem y_ldbw [hu:HT P t true] {b off:Nat} {q:List UInt32} {et:TypeId} {fz:Nat × Nat} (hx:evO F x = some (.pointer (some ⟨b,off,none⟩)):=by rfl)
    (hm:Res.blk b (.cells (ws q).toArray et fz) ∈ l:=by repeat (first | exact .head _ | apply List.Mem.tail)) (hi:off < q.length:=by first | omega | (simp; omega)) :
    Y P n D W Bo ⟨d,.load t x,ty,ps,af,g⟩ F l (W32 (q.getD off 0)):=y_ld hx hm (by rw [List.getElem?_toArray]; exact ws_get hi)
theorem s_stb {by':Nat} [hs:HS P t 1 by'] {b off:Nat} {q:List UInt8} {et:TypeId} {p:UInt8} (h:LP r P n D W Bo ops Q rest F l')
    (hx:evO F x = some (.pointer (some ⟨b,off,none⟩)):=by rfl) (hv:evO F y = some (B p):=by rfl)
    (hr:Rep (.blk b (.cells (bs q).toArray et (0,0))) (.blk b (.cells (bs (q.set off p)).toArray et (0,0))) l l':=by repeat (first | exact .head _ | apply Rep.tail)) (hl:off < q.length:=by first | omega | (simp; omega)) (hg:Wn ops F g:=by first | exact .none | exact .some rfl rfl) :
    LP r P n D W Bo ops Q (⟨none,.store t x y,ty,ps,af,g⟩ :: rest) F l :=
  s_st h hx hv (by rw [bs_set]; exact hr) (by simpa [bs_length] using hl) rfl rfl hg
theorem s_stw {by':Nat} [hs:HS P t 1 by'] {b off:Nat} {q:List UInt32} {et:TypeId} {p:UInt32} (h:LP r P n D W Bo ops Q rest F l')
    (hx:evO F x = some (.pointer (some ⟨b,off,none⟩)):=by rfl) (hv:evO F y = some (W32 p):=by rfl)
    (hr:Rep (.blk b (.cells (ws q).toArray et (0,0))) (.blk b (.cells (ws (q.set off p)).toArray et (0,0))) l l':=by repeat (first | exact .head _ | apply Rep.tail)) (hl:off < q.length:=by first | omega | (simp; omega)) (hg:Wn ops F g:=by first | exact .none | exact .some rfl rfl) :
    LP r P n D W Bo ops Q (⟨none,.store t x y,ty,ps,af,g⟩ :: rest) F l :=
  s_st h hx hv (by rw [ws_set]; exact hr) (by simpa [ws_length] using hl) rfl rfl hg
theorem first_bytes {w:World} {a:Option Addr} {m c k:Nat} {q:List UInt8} (h:Rd w a (bs q)) (hk:k ≤ q.length):(Builtin.firstCells 1 k (.slice a m c)).run P w = .ok (bs (q.take k)).toArray w:=by
  have:=(Src.slice (P:=P) (s:=1) (m:=k) (c:=c) (h.take k) (by simp [bs_length]; omega)).2.1
  rw [bs_take]
  cases a <;> exact this
theorem s_cpb [ht:HU P ta (.slice e)] {by':Nat} [hs:HS P e 1 by'] {b off m c:Nat} {q:List UInt8} {et:TypeId} {a:Option Addr} {k kc:Nat} {ys:List UInt8}
    (h:LP r P n D W Bo ops Q rest ((dd,I (Nat.min k m:Nat)) :: F) l')
    (hx:evO F x = some (.slice (some ⟨b,off,none⟩) m c):=by rfl) (hy:evO F y = some (.slice a k kc):=by rfl)
    (hr:RdS W Bo l a (bs ys):=by first | exact rdW0 (by assumption) | exact rdR (by repeat (first | exact .head _ | apply List.Mem.tail)) | assumption) (hk:k = ys.length:=by first | rfl | omega)
    (hrep:Rep (.blk b (.cells (bs q).toArray et (0,0))) (.blk b (.cells (bs (q.take off ++ ys.take (Nat.min k m) ++ q.drop (off + Nat.min k m))).toArray et (0,0))) l l':=by repeat (first | exact .head _ | apply Rep.tail))
    (hfit:off + Nat.min k m ≤ q.length:=by omega) (hn:Nat.blt dd n = true:=by rfl) (hg:Wn ops F g:=by first | exact .none | exact .some rfl rfl) :
    LP r P n D W Bo ops Q (⟨some dd,.call ⟨.builtin .copy,#[x,y],#[ta,tb]⟩,ty,ps,af,g⟩ :: rest) F l:=by
  have hle:Nat.min k m ≤ ys.length:=by rw [hk]; exact Nat.min_le_left _ _
  have hlen:(bs (ys.take (Nat.min k m))).length = Nat.min k m:=by rw [bs_length,List.length_take]; omega
  refine s_cpy (s:=1) (et:=et) (q:=k) (ys:=bs (ys.take (Nat.min k m))) (cs:=(bs q).toArray) hx hy (fun w _=>rfl) (fun w hw=>first_bytes (hr w hw) hle) ?_ (fun v hv=>bs_one hv) ?_ h hn hg
  · rw [hlen]
    simp only [bs_append,bs_take,bs_drop] at hrep ⊢
    exact hrep
  · rw [hlen]; simpa [bs_length] using hfit
theorem s_mkb [ht:HU P t (.slice e)] {by':Nat} [hs:HS P e 1 by'] [hz:HZ P e (.int .u8 0)] {kl kc:IntKind} {i j:Int}
    (h:∀ b,LP r P n D W Bo ops Q rest ((dd,.slice (some ⟨b,0,none⟩) i.toNat j.toNat) :: F) (.blk b (.cells (bs (List.replicate j.toNat 0)).toArray e) :: l))
    (hx:evO F x = some (.int kl i):=by rfl) (hy:evO F y = some (.int kc j):=by rfl)
    (h0:0 ≤ i:=by omega) (h1:i ≤ j:=by omega) (h2:(by':Int) * j ≤ 281474976710656:=by omega) (h3:j ≤ 9223372036854775807:=by omega) (hn:Nat.blt dd n = true:=by rfl) (hg:Wn ops F g:=by first | exact .none | exact .some rfl rfl) :
    LP r P n D W Bo ops Q (⟨some dd,.makeSlice t x y,ty,ps,af,g⟩ :: rest) F l :=
  s_mks (e:=e) (s:=1) (fun b=>by rw [Nat.mul_one,madeB]; exact h b) hx hy h0 h1 h2 h3 hn hg
theorem srcB {s:Nat} {a:Option Addr} {m c:Nat} {q:List UInt8} (h:RdS W Bo l a (bs q)) (hl:q.length = m:=by first | rfl | omega) (hs:s = 1:=by rfl):∀ w,St W Bo w l → Src P w s (.slice a m c) m (bs q) :=
  fun w hw=>Src.slice (h w hw) (by rw [bs_length,hs,Nat.mul_one]; exact hl)
theorem srcS {s:Nat} {b:ByteArray} (hs:s = 1:=by rfl):∀ w,St W Bo w l → Src P w s (.string b) b.size (bs b.data.toList):=fun w _=>by subst hs; exact Src.string
theorem rd_blkB {b:Nat} {q:List UInt8} {e:TypeId} {fz:Nat × Nat} (hm:Res.blk b (.cells (bs q).toArray e fz) ∈ l:=by repeat (first | exact .head _ | apply List.Mem.tail)):RdS W Bo l (some ⟨b,0,none⟩) (bs q) :=
  rdB hm (fun i v h=>by simpa using h)
theorem rd_blkW {b:Nat} {q:List UInt32} {e:TypeId} {fz:Nat × Nat} (hm:Res.blk b (.cells (ws q).toArray e fz) ∈ l:=by repeat (first | exact .head _ | apply List.Mem.tail)):RdS W Bo l (some ⟨b,0,none⟩) (ws q) :=
  rdB hm (fun i v h=>by simpa using h)
end
end Eng
namespace Eng
def fidx {α:Type} (p:α → Bool) (l:List α):Int:=match l.findIdx? p with | some i=>(i:Int) | none=>-1
theorem fidx_hit {α:Type} {p:α → Bool} {l:List α} {d:α} {k:Nat} (hk:k < l.length) (h:∀ i,i < k → p (l.getD i d) = false) (hp:p (l.getD k d) = true):fidx p l = (k:Int):=by
  have e:l.findIdx? p = some k:=by
    rw [List.findIdx?_eq_some_iff_getElem]
    refine ⟨hk,?_,?_⟩
    · rw [List.getD_eq_getElem?_getD,List.getElem?_eq_getElem hk] at hp; exact hp
    · intro j hj
      have:=h j hj
      rw [List.getD_eq_getElem?_getD,List.getElem?_eq_getElem (by omega)] at this
      simpa using this
  rw [fidx,e]
theorem fidx_none {α:Type} {p:α → Bool} {l:List α} {d:α} (h:∀ i,i < l.length → p (l.getD i d) = false):fidx p l = -1:=by
  have e:l.findIdx? p = none:=by
    rw [List.findIdx?_eq_none_iff]
    intro x hx
    obtain ⟨i,hi,rfl⟩:=List.getElem_of_mem hx
    have:=h i hi
    rw [List.getD_eq_getElem?_getD,List.getElem?_eq_getElem hi] at this
    exact this
  rw [fidx,e]
theorem fidx_any {α:Type} (p:α → Bool) (l:List α):decide (0 ≤ fidx p l) = l.any p:=by
  unfold fidx
  cases e:l.findIdx? p with
  | none =>
    rw [List.findIdx?_eq_none_iff] at e
    have:l.any p = false:=by rw [List.any_eq_false]; intro x hx; rw [e x hx]; simp
    rw [this]; rfl
  | some i =>
    rw [List.findIdx?_eq_some_iff_getElem] at e
    obtain ⟨h1,h2,_⟩:=e
    have:l.any p = true:=by rw [List.any_eq_true]; exact ⟨l[i],List.getElem_mem h1,h2⟩
    rw [this]; simp
theorem fidx_lt {α:Type} {p:α → Bool} {l:List α}:fidx p l < (l.length:Int):=by
  unfold fidx
  cases e:l.findIdx? p with
  | none=>simp; omega
  | some i =>
    rw [List.findIdx?_eq_some_iff_getElem] at e
    obtain ⟨h1,_⟩:=e
    simpa using h1
theorem fidx_ge {α:Type} {p:α → Bool} {l:List α}:-1 ≤ fidx p l:=by
  unfold fidx
  cases e:l.findIdx? p with
  | none=>simp
  | some i=>simp
theorem take_snoc {α:Type} (l:List α) (k:Nat) (d:α) (h:k < l.length):l.take (k + 1) = l.take k ++ [l.getD k d]:=by
  rw [List.take_succ_eq_append_getElem h,List.getD_eq_getElem?_getD,List.getElem?_eq_getElem h]; rfl
theorem set_fill {α:Type} (q:List α) (k L:Nat) (z x d:α) (hk:k < q.length) (hL:k < L) (hx:q.getD k d = x):(q.take k ++ List.replicate (L - k) z).set k x = q.take (k + 1) ++ List.replicate (L - (k + 1)) z:=by
  have e:(q.take k).length = k:=by simp; omega
  rw [List.set_append_right _ _ (by omega),e,Nat.sub_self,show L - k = (L - (k + 1)) + 1 by omega,List.replicate_succ,List.set_cons_zero,take_snoc q k d hk,hx]
  simp
end Eng
namespace Eng
open Go Go.RowKit
def sb (q:List UInt8):ByteArray:=⟨q.toArray⟩
theorem sb_inj {p q:List UInt8}:sb p = sb q ↔ p = q:=by
  constructor
  · intro h
    have:=congrArg (fun b:ByteArray=>b.data.toList) h
    simpa [sb] using this
  · rintro rfl; rfl
theorem sb_size (q:List UInt8):(sb q).size = q.length:=rfl
def fillL (place:Nat → Option (Nat × Nat)) (cells:List Value):List (Nat × Value) → Option (List Value)
  | []=>some cells
  | (i,v) :: rest =>
    match place i with
    | none=>none
    | some (off,size) =>
      bif Nat.beq v.cells.toList.length size && Nat.ble (off + size) cells.length then fillL place (cells.take off ++ v.cells.toList ++ cells.drop (off + size)) rest else none
theorem setFold (off:Nat):∀ (vs:List Value) (k:Nat) (cs:Array Value),off + k + vs.length ≤ cs.size →
    ((vs.zipIdx k).foldl (fun cs (x:Value × Nat)=>cs.setIfInBounds (off + x.2) x.1) cs).toList = cs.toList.take (off + k) ++ vs ++ cs.toList.drop (off + k + vs.length)
  | [],k,cs,_=>by simp
  | v :: vs,k,cs,h=>by
    simp only [List.zipIdx_cons,List.foldl_cons]
    rw [setFold off vs (k + 1) _ (by simp; simp at h; omega)]
    simp only [List.length_cons] at h
    simp only [Array.toList_setIfInBounds]
    rw [← Nat.add_assoc,List.drop_set_of_lt (by omega),List.length_cons]
    have e:(cs.toList.set (off + k) v).take (off + k + 1) = cs.toList.take (off + k) ++ [v]:=by
      have hl:(cs.toList.take (off + k)).length = off + k:=by simp; omega
      rw [List.take_set,List.take_add_one,List.getElem?_eq_getElem (by simp; omega),Option.toList_some,List.set_append_right _ _ (by omega),hl,Nat.sub_self]
      rfl
    rw [e]
    simp
    congr 1
    omega
theorem fill_of {place:Nat → Option (Nat × Nat)}:∀ {parts:List (Nat × Value)} {cells r:List Value},fillL place cells parts = some r → Instr.fill place cells.toArray parts = some r.toArray
  | [],cells,r,h=>by simp [fillL] at h; subst h; rfl
  | (i, v) :: rest, cells, r, h => by
    unfold fillL at h
    unfold Instr.fill
    cases hp:place i with
    | none=>simp [hp] at h
    | some q =>
      obtain ⟨off,size⟩:=q
      simp only [hp] at h ⊢
      cases hb:(Nat.beq v.cells.toList.length size && Nat.ble (off + size) cells.length) with
      | false=>rw [hb] at h; cases h
      | true =>
        rw [hb] at h
        simp only [cond_true] at h
        simp only [Bool.and_eq_true] at hb
        have e1:v.cells.size = size:=by simpa using Nat.eq_of_beq_eq_true hb.1
        have e2:off + size ≤ cells.length:=Nat.le_of_ble_eq_true hb.2
        have e3:¬ (decide (v.cells.size ≠ size) || decide (off + v.cells.size > cells.toArray.size)) = true:=by simp [e1]; omega
        rw [if_neg (by simpa using e3)]
        have:=fill_of h
        rw [← this]
        congr 1
        apply Array.ext'
        have hs:=setFold off v.cells.toList 0 cells.toArray (by simp [e1]; omega)
        simp only [Nat.add_zero,Array.length_toList,e1] at hs
        rw [← hs,← Array.foldl_toList]
        congr 1
        simp
def repL:Nat → List Value → List Value
  | 0,_=>[]
  | m + 1,l=>l ++ repL m l
theorem repL_eq (z:Array Value) (s:Nat) (hs:z.size = s):∀ m,((Array.range (m * s)).map (z[· % z.size]!)).toList = repL m z.toList
  | 0=>by simp [repL]
  | m + 1=>by
    have ih:=repL_eq z s hs m
    simp only [Array.toList_map,Array.toList_range] at ih ⊢
    rw [Nat.add_mul,Nat.one_mul,Nat.add_comm,List.range_add,List.map_append,List.map_map,repL,← ih]
    congr 1
    · apply List.ext_getElem
      · simp [hs]
      · intro i h1 h2
        simp only [List.length_map,List.length_range] at h1
        simp only [List.getElem_map,List.getElem_range,hs,Nat.mod_eq_of_lt h1]
        rw [getElem!_pos z i (by omega)]
        simp
    · apply List.map_congr_left
      intro i _
      simp [hs]
theorem push_fold:∀ (q:List UInt8) (s:ByteArray),(q.map fun x=>(x.toNat:Int)).foldl (fun r n=>r.push (UInt8.ofNat n.toNat)) s = ⟨(s.data.toList ++ q).toArray⟩
  | [],s=>by simp
  | x :: q,s=>by
    simp only [List.map_cons,List.foldl_cons]
    rw [push_fold q]
    have e:UInt8.ofNat ((x.toNat:Int)).toNat = x:=by
      rw [Int.toNat_natCast]; exact UInt8.ofNat_toNat
    rw [e]
    congr 1
    apply Array.ext'
    simp [ByteArray.push]
theorem run_b2s {P:Program} {w:World} {a:Option Addr} {q:List UInt8} {c:Nat} (h:Rd w a (bs q)):(Conv.bytesToString (.slice a q.length c)).run P w = .ok (.string (sb q)) w:=by
  cases ha:a with
  | none =>
    have:bs q = []:=by
      rcases h with h | ⟨b,off,cs,t,fz,e,_⟩
      · exact h
      · rw [ha] at e; cases e
    have hq:q = []:=by simpa [bs] using this
    subst hq
    rfl
  | some ad' =>
    have hl:=(Src.slice (P:=P) (s:=1) (m:=q.length) (c:=c) h (by simp [bs_length])).2.1
    rw [ha] at hl
    simp only [Builtin.firstCells,Nat.mul_one] at hl
    have e:bs q = (q.map fun x=>(x.toNat:Int)).map (Value.int .u8):=by simp [bs]
    rw [e] at hl
    rw [run_bytesToString w ad' q.length c _ hl,push_fold]
    rfl
theorem bitsn {k:IntKind} {p:Nat} (hp:p < 2 ^ k.bits):(BitVec.ofInt k.bits (p:Int)).toNat = p:=by
  rw [BitVec.ofInt_natCast]; simp [Nat.mod_eq_of_lt hp]
theorem zeros_eq (z:Array Value) (s m:Nat) (hs:z.size = s):(if m * s = 0 then #[] else Builtin.zeroCells z m) = (repL m z.toList).toArray:=by
  have h:=repL_eq z s hs m
  have e:Builtin.zeroCells z m = (repL m z.toList).toArray:=by
    apply Array.ext'
    rw [← h]
    simp [Builtin.zeroCells,hs]
  split
  · rename_i h0
    rw [← e]
    unfold Builtin.zeroCells
    rw [hs,h0]
    apply Array.ext'
    simp
  · exact e
theorem repL_length (l:List Value):∀ m,(repL m l).length = m * l.length
  | 0=>by simp [repL]
  | m + 1=>by simp [repL,repL_length l m,Nat.add_mul,Nat.add_comm]
theorem repL_mem {l:List Value} {v:Value}:∀ {m},v ∈ repL m l → v ∈ l
  | 0,h=>by simp [repL] at h
  | m + 1,h=>by
    rcases List.mem_append.1 h with h | h
    · exact h
    · exact repL_mem h
theorem run_appz {P:Program} {t u ty e:TypeId} {kd ku:IntKind} {s by':Nat} {z:Value} {w:World} (ht:P.underlying t = some (.slice e)) (hu:P.underlying u = some (.int kd))
    (hs:HS P e s by') (hz:HZ P e z) (hzs:z.cells.size = s) {a:Option Addr} {n c m:Nat} {xs:List Value}
    (hrow:(Res.row a c e s n xs).holds w) (h1:∀ v ∈ z.cells.toList,v.oneCell' = true) (hfit:n + m ≤ maxLen) (hby:(n + m) * by' ≤ 140737488355328) :
    ∃ a' c' w',(Builtin.append_ #[t,u] ty #[.slice a n c,.int ku (m:Int)]).run P w = .ok (.slice a' (n + m) c') w' ∧ (Res.row a' c' e s (n + m) (xs ++ repL m z.cells.toList)).holds w' ∧
      w'.os = w.os ∧ w'.tape = w.tape ∧ w'.output = w.output ∧ w.heap.size ≤ w'.heap.size ∧
      (∀ k,k < w.heap.size → (Res.row a c e s n xs).key ≠ some k → w'.heap[k]? = w.heap[k]?) ∧
      (∀ k,(Res.row a' c' e s (n + m) (xs ++ repL m z.cells.toList)).key = some k → (Res.row a c e s n xs).key = some k ∨ w.heap.size ≤ k) ∧ (a' = none → a = none ∧ m = 0):=by
  obtain ⟨i,hi,hsz,hbz⟩:=hs.h
  obtain ⟨hxl,hnc,hown⟩:=hrow
  have hyl:(repL m z.cells.toList).length = m * s:=by rw [repL_length,Array.length_toList,hzs]
  have hw:IntKind.i64.wrap (m:Int) = m:=wrap_i64 (by simp only [maxLen] at hfit; unfold R64; omega)
  have hm0:¬ ((m:Int) < 0):=by omega
  have hmb:¬ (281474976710656 < (m:Int) * (i.bytes:Int)):=by
    have h3:m * by' ≤ (n + m) * by':=Nat.mul_le_mul_right _ (by omega)
    have h4:((m * by':Nat):Int) ≤ 140737488355328:=by omega
    rw [hbz]
    rw [Int.natCast_mul] at h4
    omega
  have hzz:=fun w=>hz.h w
  have has:∀ w,(asInt (.int ku (m:Int))).run P w = .ok (m:Int) w:=fun _=>rfl
  have hz1:m * s = 0 → repL m z.cells.toList = []:=fun h0=>List.eq_nil_of_length_eq_zero (by rw [hyl,h0])
  have hz2:¬ (m * s = 0) → Builtin.zeroCells z.cells m = (repL m z.cells.toList).toArray:=fun h0=>by
    have:=zeros_eq z.cells s m hzs
    rwa [if_neg h0] at this
  generalize hys:repL m z.cells.toList = ys at *
  have h1':∀ v ∈ ys,v.oneCell' = true:=fun v hv=>h1 v (repL_mem (by rw [hys]; exact hv))
  by_cases hroom:n + m ≤ c
  · rcases hown with ⟨rfl,rfl⟩ | ⟨g,cur,rfl,hg,hcm,hcs,htake⟩
    · have hn:n = 0:=by omega
      have hm:m = 0:=by omega
      subst hn; subst hm
      refine ⟨none,0,w,?_,⟨by simp [hxl,hyl],by simp,.inl ⟨rfl,rfl⟩⟩,rfl,rfl,rfl,Nat.le_refl _,fun _ _ _=>rfl,fun k hk=>.inl hk,fun _=>⟨rfl,rfl⟩⟩
      simp only [Int.cast_ofNat_Int] at has hw
      have hw':IntKind.i64.wrap 0 = 0:=rfl
      have has':∀ w,(asInt (.int ku 0)).run P w = .ok 0 w:=fun _=>rfl
      simp [Builtin.append_,run_underlying ht,run_underlying hu,Go.sizeOf,typeInfo,hi,hw',has']
    · have hfits:n * s + ys.length ≤ cur.size:=by rw [hyl,hcs,← Nat.add_mul]; exact Nat.mul_le_mul_right _ hroom
      have hst:=run_storeCells_at P g (n * s) e ys 0 cur w hg (by simpa using hfits) h1'
      simp only [Nat.add_zero] at hst
      refine ⟨some ⟨g,0,none⟩,c,w.setRow g (cur.toList.take (n * s) ++ ys ++ cur.toList.drop (n * s + ys.length)).toArray,?_,⟨by simp [hxl,hyl,Nat.add_mul],by omega,.inr ⟨g,_,rfl,setRow_heap w g cur _ e (0,0) hg,hcm,?_,?_⟩⟩,rfl,rfl,rfl,by simp,?_,fun k hk=>.inl hk,fun h=>by cases h⟩
      · by_cases h0:m * s = 0
        · have e0:=hz1 h0
          subst e0
          simp only [List.append_nil,List.length_nil,Nat.add_zero] at hst
          simp [Builtin.append_,run_underlying ht,run_underlying hu,Go.sizeOf,typeInfo,hi,hsz,hw,hm0,hmb,hroom,addr_add,hst,has,h0]
        · have e0:=hz2 h0
          simp only [List.append_assoc] at hst
          simp [Builtin.append_,run_underlying ht,run_underlying hu,Go.sizeOf,typeInfo,hi,hsz,hw,hm0,hmb,hroom,addr_add,hst,has,h0,hzz,e0]
      · simp only [List.size_toArray,List.length_append,List.length_take,List.length_drop,Array.length_toList]
        rw [Nat.min_eq_left (by omega)]; omega
      · rw [htake,List.toList_toArray,List.take_append_of_le_length (by simp [hxl,hyl,Nat.add_mul]),List.take_of_length_le (by simp [hxl,hyl,Nat.add_mul])]
      · intro k _ hk
        exact setRow_other w g _ k (fun e'=>hk (by rw [e']; rfl))
  · have h63':¬ (9223372036854775807 < ((n:Int) + (m:Int))):=by simp only [maxLen] at hfit; omega
    have hns:Builtin.nextslicecap (n + m) c * i.bytes ≤ 281474976710656:=growslice_fits (by omega) (by rw [hbz]; exact hby)
    have h48':¬ (281474976710656 < Builtin.nextslicecap (n + m) c * i.bytes):=by omega
    have hold:(Builtin.firstCells s n (.slice a n c)).run P w.drew = .ok xs.toArray w.drew:=by
      have hrd:Rd w.drew a xs:=by
        refine Rd.congr (w:=w) (Res.rd (c:=c) (e:=e) (s:=s) (n:=n) ⟨hxl,hnc,hown⟩) (fun b _=>rfl)
      exact (Src.slice hrd hxl).2.1
    have hge:=grownCap_ge w (n + m) c e
    have hcm:grownCap w (n + m) c e ≤ maxLen:=grownCap_le_maxLen w (n + m) c e hfit
    refine ⟨some ⟨w.heap.size,0,none⟩,grownCap w (n + m) c e,w.drew.alloc (.cells (xs.toArray ++ ys.toArray ++ Builtin.zeroCells z.cells (grownCap w (n + m) c e - (n + m))) e),?_,⟨by simp [hxl,hyl,Nat.add_mul],hge,.inr ⟨w.heap.size,_,rfl,heap_alloc_new w.drew _,hcm,?_,?_⟩⟩,rfl,rfl,rfl,by simp,fun k hk _=>Below.heap_alloc w.drew _ k hk,fun k hk=>by simp [Res.key] at hk; omega,fun h=>by cases h⟩
    · have hni:¬ (n + m ≤ c):=hroom
      by_cases h0:m * s = 0
      · have e0:=hz1 h0
        subst e0
        simp [Builtin.append_,run_underlying ht,run_underlying hu,Go.sizeOf,typeInfo,hi,hsz,hni,h63',h48',Question.forced,hold,hzz,newRow,grownCap,hw,hm0,hmb,has,h0] <;> (congr 2; apply Array.ext'; simp)
      · have e0:=hz2 h0
        simp [Builtin.append_,run_underlying ht,run_underlying hu,Go.sizeOf,typeInfo,hi,hsz,hni,h63',h48',Question.forced,hold,hzz,newRow,grownCap,hw,hm0,hmb,has,h0,e0] <;> (congr 2; apply Array.ext'; simp)
    · simp only [Array.size_append,List.size_toArray,size_zeroCells,hzs,hxl,hyl,← Nat.add_mul]
      congr 1; omega
    · simp only [Array.toList_append]
      rw [List.take_append_of_le_length (by simp [hxl,hyl,Nat.add_mul]),List.take_of_length_le (by simp [hxl,hyl,Nat.add_mul])]
section
variable {r:Option Nat} {P:Program} {n:Nat} {D:List Deferred} {W:World} {Bo:List Nat} {F:List (Nat × Value)} {l l':SH}
  {d:Option Tmp} {dd:Nat} {ty:TypeId} {ps:String} {af:Array Edge} {g:Option (Nat × Bool)} {x y z:Operand} {v u:Value} {ta tb t e:TypeId}
  {Q:Exit → Act → World → Prop} {ops:Array Oper} {rest:List Oper} {td:TypeDesc} {c:Code}
theorem y_orn {k:IntKind} {p q:Nat} (hx:evO F x = some (.int k (p:Int)):=by rfl) (hy:evO F y = some (.int k (q:Int)):=by rfl)
    (hp:p < 2 ^ k.bits:=by (simp only [IntKind.bits]; omega)) (hq:q < 2 ^ k.bits:=by (simp only [IntKind.bits]; omega)) (hw:k.wrap ((p ||| q:Nat):Int) = ((p ||| q:Nat):Int)) :
    Y P n D W Bo ⟨d,.binOp .or ta x y tb,ty,ps,af,g⟩ F l (.int k ((p ||| q:Nat):Int)) :=
  .mk (by simp) fun a w ha _=>by
    refine exec_bin P w w _ _ _ _ _ _ _ _ _ _ _ _ ⟨by simp,by simp⟩ ?_
    rw [ha.eval hx,ha.eval hy]
    simp only [binOp,ne_eq,not_true_eq_false,if_false,Op.intBits,Sem.run_pure]
    rw [BitVec.toNat_or,bitsn hp,bitsn hq,hw]
theorem y_andn {k:IntKind} {p q:Nat} (hx:evO F x = some (.int k (p:Int)):=by rfl) (hy:evO F y = some (.int k (q:Int)):=by rfl)
    (hp:p < 2 ^ k.bits:=by (simp only [IntKind.bits]; omega)) (hq:q < 2 ^ k.bits:=by (simp only [IntKind.bits]; omega)) (hw:k.wrap ((p &&& q:Nat):Int) = ((p &&& q:Nat):Int)) :
    Y P n D W Bo ⟨d,.binOp .and ta x y tb,ty,ps,af,g⟩ F l (.int k ((p &&& q:Nat):Int)) :=
  .mk (by simp) fun a w ha _=>by
    refine exec_bin P w w _ _ _ _ _ _ _ _ _ _ _ _ ⟨by simp,by simp⟩ ?_
    rw [ha.eval hx,ha.eval hy]
    simp only [binOp,ne_eq,not_true_eq_false,if_false,Op.intBits,Sem.run_pure]
    rw [BitVec.toNat_and,bitsn hp,bitsn hq,hw]
theorem or_byte (p:Nat) (x:UInt8):p * 2 ^ 8 ||| x.toNat = p * 256 + x.toNat:=by
  have:=Nat.shiftLeft_add_eq_or_of_lt (show x.toNat < 2 ^ 8 from x.toNat_lt) p
  rw [Nat.shiftLeft_eq] at this
  omega
theorem y_cvb [hu:HU P tb (.int .i64)] {tb':Bool} [ha':HT P ta tb'] {p:UInt8} (hx:evO F x = some (B p):=by rfl):Y P n D W Bo ⟨d,.convert ta tb x,ty,ps,af,g⟩ F l (I (p.toNat:Int)) :=
  y_cvn (k:=.i64) (p:=(p.toNat:Int)) hx (wrap_i64 (by have:=p.toNat_lt; unfold R64; omega))
theorem y_b2s [hu:HU P tb .string] [ha':HU P ta (.slice e)] [he:HU P e (.int .u8)] {a:Option Addr} {q:List UInt8} {m c:Nat} (hx:evO F x = some (.slice a m c):=by rfl)
    (hr:RdS W Bo l a (bs q):=by first | exact rdW0 (by assumption) | exact rdR (by repeat (first | exact .head _ | apply List.Mem.tail)) | assumption) (hm:q.length = m:=by rfl):Y P n D W Bo ⟨d,.convert ta tb x,ty,ps,af,g⟩ F l (.string (sb q)) :=
  .mk (by simp) fun ac w ha hw=>by
    subst hm
    simp only [execOp,ha.eval hx,Sem.run_bind,run_convert_bytes_string w ta tb e a _ c ha'.h he.h hu.h,run_b2s (hr w hw),Result.andThen_ok,Sem.run_pure]
theorem string_eq (a b:ByteArray):(a.toList == b.toList) = decide (a = b):=by
  by_cases hab:a = b
  · subst hab; simp
  · rw [← beq_toListBytes,decide_eq_false hab]
    cases h:(a == b) with
    | false=>rfl
    | true=>exact absurd ((MapKept.bytes_beq a b).1 h) hab
theorem y_eqls {a b:ByteArray} (hx:evO F x = some (.string a):=by rfl) (hy:evO F y = some (.string b):=by rfl):Y P n D W Bo ⟨d,.binOp .eql ta x y tb,ty,ps,af,g⟩ F l (.bool (decide (a = b))) :=
  .mk (by simp) fun ac w ha _=>by
    simp only [execOp,ha.eval hx,ha.eval hy,eqGuard,binOp,Op.stringOp,string_eq]
    rfl
theorem y_eqlb {a b:Bool} [hu:HU P ta .bool] (hx:evO F x = some (.bool a):=by rfl) (hy:evO F y = some (.bool b):=by rfl):Y P n D W Bo ⟨d,.binOp .eql ta x y tb,ty,ps,af,g⟩ F l (.bool (a == b)) :=
  .mk (by simp) fun ac w ha _=>by
    have:(Op.equal ta (.bool a) (.bool b)).run P w = .ok (a == b) w:=by
      unfold Op.equal Op.equalIn
      simp [Op.maxDepth,run_underlying hu.h]
    simp [execOp,ha.eval hx,ha.eval hy,eqGuard,binOp,this]
theorem y_sllhm [hu:HU P t (.slice e)] {s by':Nat} [hs:HS P e s by'] {a:Option Addr} {m c:Nat} {o:Operand} {k k' k2:IntKind} {i j h:Int} (hx:evO F x = some (.slice a m c):=by rfl) (hy:evO F y = some (.int k i):=by rfl) (hz:evO F z = some (.int k' j):=by rfl) (ho:evO F o = some (.int k2 h):=by rfl)
    (h0:0 ≤ i:=by omega) (h1:i ≤ j:=by omega) (h2:j ≤ h:=by omega) (h3:h ≤ c:=by omega):Y P n D W Bo ⟨d,.slice t x (some y) (some z) (some o),ty,ps,af,g⟩ F l (.slice (sa a i.toNat h.toNat s) (j.toNat - i.toNat) (h.toNat - i.toNat)) :=
  .mk (by simp) fun ac w ha hw=>by
    have e0:(Instr.sliceBound (.int k2 h) c .slice3Acap).run P w = .ok h.toNat w:=run_sliceBound w k2 h c _ (by omega) h3
    have e1:(Instr.sliceBound (.int k' j) h.toNat .slice3B).run P w = .ok j.toNat w:=run_sliceBound w k' j h.toNat _ (by omega) (by omega)
    have e2:(Instr.sliceBound (.int k i) j.toNat .slice3C).run P w = .ok i.toNat w:=run_sliceBound w k i j.toNat _ h0 (by omega)
    simp only [execOp,ha.eval hx,Option.map,ha.eval hy,ha.eval hz,ha.eval ho,Sem.run_bind,Instr.sliceAt,Instr.slice,run_underlying hu.h,Result.andThen_ok,Instr.sliceBounds,Sem.run_pure,if_true,e0,e1,run_sizeOf' hs]
    simp only [Option.isSome]
    rw [show (if True then BoundsCode.slice3C else BoundsCode.sliceB) = .slice3C from if_pos trivial,e2]
    rfl
theorem s_bsl0 [ht:HU P t (.slice e)] {s by':Nat} [hs:HS P e s by'] {parts:Array (Nat × Operand)}
    (h:∀ b,LP r P n D W Bo ops Q rest ((dd,.slice (some ⟨b,0,none⟩) 0 0) :: F) (.row (some ⟨b,0,none⟩) 0 e s 0 [] :: l))
    (hp:parts.toList = []:=by rfl) (hn:Nat.blt dd n = true:=by rfl) (hg:Wn ops F g:=by first | exact .none | exact .some rfl rfl) :
    LP r P n D W Bo ops Q (⟨some dd,.buildSlice t 0 parts,ty,ps,af,g⟩ :: rest) F l :=
  s_new (fun b:Nat=>.slice (some ⟨b,0,none⟩) 0 0) (fun b=>.row (some ⟨b,0,none⟩) 0 e s 0 [] :: l) (fun _=>True) (by simp)
    (fun a w ha hw=>⟨w.heap.size,w.alloc (.cells #[] e),trivial,by
      have hp':parts = #[]:=by cases parts; simp_all
      subst hp'
      have e0:∀ f:Nat → Value,(Array.range 0).map f = #[]:=fun f=>by apply Array.ext' ; simp
      simp only [execOp,Instr.buildSlice,Sem.run_bind,run_underlying ht.h,run_sizeOf' hs,Result.andThen_ok,Nat.zero_mul,if_true,Sem.run_pure,e0]
      simp [Instr.fill,newRow],
      (hw.alloc (.cells #[] e)).toRow (s:=s) (m:=0) (by simp) (by simp) (Rep.head _)⟩)
    (hn:=hn) (hg:=hg) (h:=fun b _=>h b)
theorem s_bslr [ht:HU P t (.slice e)] {s by':Nat} [hs:HS P e s by'] {zz:Value} [hz:HZ P e zz] {m:Nat} {parts:Array (Nat × Operand)} {vs:List (Nat × Value)} {cs:List Value}
    (h:∀ b,LP r P n D W Bo ops Q rest ((dd,.slice (some ⟨b,0,none⟩) m m) :: F) (.row (some ⟨b,0,none⟩) m e s m cs :: l))
    (hp:evP F parts.toList = some vs:=by rfl)
    (hf:fillL (fun i=>some (i * s,s)) (repL m zz.cells.toList) vs = some cs:=by rfl)
    (hsz:cs.length = m * s:=by rfl) (hzs:zz.cells.size = s:=by rfl)
    (hm:0 < m * s:=by decide) (hm2:m * s ≤ 16777216:=by decide) (hm3:m ≤ maxLen:=by decide) (hn:Nat.blt dd n = true:=by rfl) (hg:Wn ops F g:=by first | exact .none | exact .some rfl rfl) :
    LP r P n D W Bo ops Q (⟨some dd,.buildSlice t m parts,ty,ps,af,g⟩ :: rest) F l :=
  s_bsl (cs:=cs.toArray) (fun b=>fun a w ha hw=>h b a w ha (hw.toRow (by simpa using hsz) hm3 (Rep.head _))) hp (by
    have h1:=fill_of hf
    rw [← repL_eq zz.cells s hzs m] at h1
    exact h1) hm hm2 hn hg
theorem s_apz [ht:HU P ta (.slice e)] {kd:IntKind} [hu:HU P tb (.int kd)] {s by':Nat} [hs:HS P e s by'] {zz:Value} [hz:HZ P e zz] {a:Option Addr} {k cc m:Nat} {xs:List Value} {ku:IntKind}
    {l'':Option Addr → Nat → SH}
    (h:∀ a' c',(a' = none → a = none ∧ m = 0) → LP r P n D W Bo ops Q rest ((dd,.slice a' (k + m) c') :: F) (l'' a' c'))
    (hx:evO F x = some (.slice a k cc):=by rfl) (hy:evO F y = some (.int ku (m:Int)):=by rfl)
    (hm:Res.row a cc e s k xs ∈ l:=by repeat (first | exact .head _ | apply List.Mem.tail)) (hrep:∀ a' c',Rep (.row a cc e s k xs) (.row a' c' e s (k + m) (xs ++ repL m zz.cells.toList)) l (l'' a' c'):=by intro _ _; repeat (first | exact .head _ | apply Rep.tail))
    (h1:∀ v ∈ zz.cells.toList,v.oneCell' = true:=by decide) (hfit:k + m ≤ maxLen:=by (unfold maxLen; omega)) (hby:(k + m) * by' ≤ 140737488355328:=by omega)
    (hzs:zz.cells.size = s:=by rfl) (hn:Nat.blt dd n = true:=by rfl) (hg:Wn ops F g:=by first | exact .none | exact .some rfl rfl) :
    LP r P n D W Bo ops Q (⟨some dd,.call ⟨.builtin .append,#[x,y],#[ta,tb]⟩,ty,ps,af,g⟩ :: rest) F l:=by
  refine s_new (σ:=Option Addr × Nat) (fun p=>.slice p.1 (k + m) p.2) (fun p=>l'' p.1 p.2) (fun p=>p.1 = none → a = none ∧ m = 0) (by simp) ?_ (hn:=hn) (hg:=hg) (h:=fun p hp=>h p.1 p.2 hp)
  intro ac w ha hw
  obtain ⟨a',c',w',hrun,hrow,h2,h3,h4,h5,h6,h7,h8⟩:=run_appz (ty:=ty) (ku:=ku) (m:=m) ht.h hu.h hs hz hzs (hw.own _ hm).1 h1 hfit hby
  refine ⟨(a',c'),w',h8,?_,hw.change (hrep a' c') h2 h3 h4 h5 h6 hrow h7⟩
  have e1:#[x,y].map ac.eval = #[.slice a k cc,.int ku (m:Int)]:=by simp [ha.eval hx,ha.eval hy]
  simp only [execOp,resolve,e1,Sem.run_bind,Sem.run_pure,Result.andThen_ok,invoke,builtin,hrun]
theorem s_nf {op:Op} {p:Prop} [dp:Decidable p] (hy:Y P n D W Bo ⟨some dd,op,ty,ps,af,g⟩ F l (.bool (!decide p)))
    (hp:p) (h1:LP r P n D W Bo ops Q rest ((dd,.bool false) :: F) l) (hn:Nat.blt dd n = true:=by rfl) (hg:Wn ops F g:=by first | exact .none | exact .some rfl rfl):LP r P n D W Bo ops Q (⟨some dd,op,ty,ps,af,g⟩ :: rest) F l :=
  s_y hy (by rw [decide_eq_true hp]; exact h1) hn hg
theorem s_nt {op:Op} {p:Prop} [dp:Decidable p] (hy:Y P n D W Bo ⟨some dd,op,ty,ps,af,g⟩ F l (.bool (!decide p)))
    (hp:¬ p) (h1:LP r P n D W Bo ops Q rest ((dd,.bool true) :: F) l) (hn:Nat.blt dd n = true:=by rfl) (hg:Wn ops F g:=by first | exact .none | exact .some rfl rfl):LP r P n D W Bo ops Q (⟨some dd,op,ty,ps,af,g⟩ :: rest) F l :=
  s_y hy (by rw [decide_eq_false hp]; exact h1) hn hg
theorem s_kt {op:Op} {p:Prop} [dp:Decidable p] (hy:Y P n D W Bo ⟨some dd,op,ty,ps,af,g⟩ F l (.bool (decide p)))
    (hp:p) (h1:LP r P n D W Bo ops Q rest ((dd,.bool true) :: F) l) (hn:Nat.blt dd n = true:=by rfl) (hg:Wn ops F g:=by first | exact .none | exact .some rfl rfl):LP r P n D W Bo ops Q (⟨some dd,op,ty,ps,af,g⟩ :: rest) F l :=
  s_y hy (by rw [decide_eq_true hp]; exact h1) hn hg
theorem s_kf {op:Op} {p:Prop} [dp:Decidable p] (hy:Y P n D W Bo ⟨some dd,op,ty,ps,af,g⟩ F l (.bool (decide p)))
    (hp:¬ p) (h1:LP r P n D W Bo ops Q rest ((dd,.bool false) :: F) l) (hn:Nat.blt dd n = true:=by rfl) (hg:Wn ops F g:=by first | exact .none | exact .some rfl rfl):LP r P n D W Bo ops Q (⟨some dd,op,ty,ps,af,g⟩ :: rest) F l :=
  s_y hy (by rw [decide_eq_false hp]; exact h1) hn hg
theorem s_str {by':Nat} [hs:HS P t 1 by'] {a:Option Addr} {i cc k:Nat} {et:TypeId} {xs:List Value} (h:LP r P n D W Bo ops Q rest F l')
    (hx:evO F x = some (.pointer (some (ad a i))):=by rfl) (hv:evO F y = some v:=by rfl)
    (hr:Rep (.row a cc et 1 k xs) (.row a cc et 1 k (xs.set i v)) l l':=by repeat (first | exact .head _ | apply Rep.tail)) (hi:i < xs.length) (h1:v.oneCell' = true:=by rfl) (hg:Wn ops F g:=by first | exact .none | exact .some rfl rfl) :
    LP r P n D W Bo ops Q (⟨none,.store t x y,ty,ps,af,g⟩ :: rest) F l:=by
  refine s_unit (by simp) (fun ac w ha hw=>?_) (hg:=hg) (h:=h)
  obtain ⟨hl,hkc,hown⟩:=(hw.own _ hr.mem).1
  rcases hown with ⟨rfl,rfl⟩ | ⟨b,cur,rfl,hb,hcm,hcs,htake⟩
  · omega
  · have hc:v.cells = #[v]:=by cases v <;> first | rfl | simp [Value.oneCell'] at h1
    have hlt:i < cur.size:=by rw [hcs]; omega
    have h2:=run_storeCells_at P b i et [v] 0 cur w hb (by simp; omega) (by simpa using h1)
    have e1:(cur.toList.take (i + 0) ++ [v] ++ cur.toList.drop (i + 0 + [v].length)).toArray = cur.setIfInBounds i v:=by
      apply Array.ext'
      simp [List.set_eq_take_append_cons_drop,hlt]
    rw [e1] at h2
    refine ⟨w.setRow b (cur.setIfInBounds i v),?_,hw.change hr rfl rfl rfl (by simp) (fun k _ hk=>setRow_other w b _ k (fun e=>hk (by rw [e]; rfl))) ⟨by simpa using hl,hkc,.inr ⟨b,_,rfl,setRow_heap w b cur _ et (0,0) hb,hcm,by simpa using hcs,?_⟩⟩ (fun k hk=>.inl hk)⟩
    · simp only [execOp,ha.eval hx,ha.eval hv,Instr.storeAt,Instr.sureAddr,storeVar,Sem.run_bind,Sem.run_pure,Result.andThen_ok,run_sizeOf' hs,hc,ad,Option.getD_some,Nat.zero_add]
      rw [if_neg (by simp)]
      rw [h2]
      rfl
    · rw [Array.toList_setIfInBounds,← htake,List.take_set]
theorem y_blda {m:Nat} [hu:HU P t (.array m e)] {s by':Nat} [hs:HS P e s by'] {zz:Value} [hz:HZ P t zz] {parts:Array (Nat × Operand)} {vs:List (Nat × Value)} {cs:List Value}
    (hp:evP F parts.toList = some vs:=by rfl) (hf:fillL (fun i=>some (i * s,s)) zz.cells.toList vs = some cs:=by rfl):Y P n D W Bo ⟨d,.build t parts,ty,ps,af,g⟩ F l (.agg cs.toArray) :=
  .mk (by simp) fun a w ha hw=>by
    have e1:(parts.map fun (i,x)=>(i,a.eval x)).toList = vs:=by
      rw [Array.toList_map]
      exact evP_eval ha hp
    have e2:=fill_of hf
    simp only [execOp,Instr.build,Sem.run_bind,hz.h,run_underlying hu.h,run_sizeOf' hs,Result.andThen_ok,e1]
    rw [show zz.cells = zz.cells.toList.toArray by simp,e2]
    rfl
end
end Eng
namespace Eng
open Go Go.RowKit
section
variable {P:Program} {ops:Array Oper} {Q:Exit → Act → World → Prop}
def AnyC (P:Program) (ops:Array Oper) (Q:Exit → Act → World → Prop) (C:World → Prop):Nat → Array Bool → Act → World → Prop
  | 0,listed,a,w=>C w ∧ Region.ready .any ops listed = [] ∧ Q .normal a w
  | fuel + 1,listed,a,w=>C w ∧ (Region.ready .any ops listed = [] → Q .normal a w) ∧
    ∀ i ∈ Region.ready .any ops listed,wpOpIn (Fw none) 0 P ops Q i (AnyC P ops Q C fuel (listed.setIfInBounds i true)) a w
theorem AnyC.any {C:World → Prop}:∀ {fuel:Nat} {listed:Array Bool} {a:Act} {w:World},AnyC P ops Q C fuel listed a w → wpAnyIn (Fw none) 0 P .any ops Q fuel listed a w
  | 0,_,_,_,h=>h.2
  | _ + 1,_,_,_,h=>⟨h.2.1,fun i hi=>wpOpIn_mono (fun _ _ h'=>AnyC.any h') (h.2.2 i hi)⟩
theorem AnyC.at {C:World → Prop} {fuel:Nat} {listed:Array Bool} {a:Act} {w:World} (h:AnyC P ops Q C fuel listed a w):C w:=by
  cases fuel <;> exact h.1
theorem AnyC.mono {C C':World → Prop} (hC:∀ w,C' w → C w):∀ {fuel:Nat} {listed:Array Bool} {a:Act} {w:World},AnyC P ops Q C' fuel listed a w → AnyC P ops Q C fuel listed a w
  | 0,_,_,_,h=>⟨hC _ h.1,h.2⟩
  | _ + 1,_,_,_,h=>⟨hC _ h.1,h.2.1,fun i hi=>wpOpIn_mono (fun _ _ h'=>AnyC.mono hC h') (h.2.2 i hi)⟩
def YC (P:Program) (ops:Array Oper) (C:World → Prop) (o:Oper) (v:Value) (a:Act):Prop :=
  (Region.wanted o (yielded ops a.tmps) = true ∧ ∀ w,C w → (execOp a.eval o).run P w = .ok (.value v) w) ∨ (Region.wanted o (yielded ops a.tmps) = false ∧ v = undef)
theorem YC.op {C:World → Prop} {i:Nat} {o:Oper} {v:Value} {a:Act} (hi:ops[i]? = some o) (hy:YC P ops C o v a) {K:Act → World → Prop} {w:World} (hw:C w) (h:K (a.put o.dst v) w) :
    wpOpIn (Fw none) 0 P ops Q i K a w:=by
  unfold wpOpIn
  simp only [hi]
  rcases hy with ⟨h1,hv⟩ | ⟨h1,rfl⟩
  · simp only [h1,if_true,Oper.wpIn,show (Fw none).round = none from rfl,Oper.semAt_none,hv w hw,Oper.uponIn]; exact ⟨fun _ _=>trivial,h⟩
  · simp only [h1,Bool.false_eq_true,if_false]; exact ⟨fun _ _=>trivial,h⟩
theorem YC.of_same {C:World → Prop} {o:Oper} {v:Value} {a a':Act} (hy:YC P ops C o v a) (he:execOp a'.eval o = execOp a.eval o)
    (hw:Region.wanted o (yielded ops a'.tmps) = Region.wanted o (yielded ops a.tmps)):YC P ops C o v a':=by
  unfold YC at *
  rw [he,hw]
  exact hy
theorem opIn_put {C:World → Prop} {j:Nat} {oi oj:Oper} {v:Value} (hj:ops[j]? = some oj) (hap:oi.apart ops oj = true)
    (hsi:∀ cs b,oi.op ≠ .select cs b) (hsj:∀ cs b,oj.op ≠ .select cs b)
    (hQ:∀ c a w,Q (.panic c) (a.put oi.dst v) w → Q (.panic c) a w) {K:Act → World → Prop} {a:Act} {w:World}
    (hy:YC P ops C oi v a) (h:wpOpIn (Fw none) 0 P ops Q j K (a.put oi.dst v) w) :
    wpOpIn (Fw none) 0 P ops Q j (fun a' w'=>YC P ops C oi v a' ∧ K (a'.put oi.dst v) w') a w:=by
  obtain ⟨h1,h2,h3⟩:=Oper.apart_spec hap
  have hro:(Fw none).round = none:=rfl
  have keep:∀ (a:Act),YC P ops C oi v a → ∀ u,YC P ops C oi v (a.put oj.dst u):=fun a hy u =>
    hy.of_same (execOp_put oi hsi a oj.dst u h3) (wanted_put oi a oj.dst u h3)
  have keepD:∀ d,YC P ops C oi v { a with defers:=d :: a.defers }:=fun d=>hy.of_same rfl rfl
  unfold wpOpIn at *
  simp only [hj] at *
  rw [wanted_put oj a oi.dst v h1,about_put oj w a oi.dst v h1] at h
  split
  · rename_i hw
    simp only [hw,if_true] at h
    unfold Oper.wpIn at *
    rw [about_put oj w a oi.dst v h1] at h
    refine ⟨h.1,?_⟩
    have h:=h.2
    rw [hro,Oper.semAt_none,execOp_put oj hsj a oi.dst v h1] at h
    rw [hro,Oper.semAt_none]
    generalize (execOp a.eval oj).run P w = r at *
    cases r with
    | ok x w' =>
      cases x <;> simp only [Oper.uponIn] at h ⊢
      case value u=>exact ⟨keep a hy u,by rw [← Act.put_comm a v u h2]; exact h⟩
      case skip=>exact ⟨keep a hy _,by rw [← Act.put_comm a v undef h2]; exact h⟩
      case defer d =>
        refine ⟨keep _ (keepD d) _,?_⟩
        rw [← Act.put_comm _ v undef h2,← Act.put_defers]
        exact h
      case enter f args =>
        refine ⟨h.1,CallsIn.mono h.2 fun e w'' he=>?_⟩
        cases e with
        | returned u=>exact ⟨keep a hy u,by rw [← Act.put_comm a v u h2]; exact he⟩
        | panicked c=>exact hQ _ _ _ he
        | outgrown=>exact he
      case row row args=>exact ⟨h.1,RowsIn.mono h.2 fun u w'' he=>⟨keep a hy u,by rw [← Act.put_comm a v u h2]; exact he⟩⟩
      case round l f tmps assign body =>
        refine ⟨h.1,RoundIn.mono h.2 fun e w'' he=>?_⟩
        cases e with
        | returned u=>exact ⟨keep a hy u,by rw [← Act.put_comm a v u h2]; exact he⟩
        | panicked c=>exact hQ _ _ _ he
        | outgrown=>exact he
    | halt x w' =>
      cases x <;> simp only [Oper.uponIn] at h ⊢
      case panic u=>exact hQ _ _ _ h
  · rename_i hw
    simp only [hw] at h
    exact ⟨h.1,keep a hy _,by rw [← Act.put_comm a v undef h2]; exact h.2⟩
theorem AnyC.first {C:World → Prop} {i:Nat} {oi:Oper} {v:Value} (hi:ops[i]? = some oi) (hsel:∀ (j:Nat) (o:Oper) cs b,ops[j]? = some o → o.op ≠ .select cs b)
    (hQ:∀ c a w,Q (.panic c) (a.put oi.dst v) w → Q (.panic c) a w) :
    ∀ (fuel:Nat) (listed:Array Bool) (a:Act) (w:World),
      (∀ j oj,ops[j]? = some oj → j ≠ i → listed.getD j true = false → (∀ e ∈ oj.after,Region.binds .any e = true → e.on ≠ i) → oi.apart ops oj = true) →
      i ∈ Region.ready .any ops listed → YC P ops C oi v a →
      AnyC P ops Q C fuel (listed.setIfInBounds i true) (a.put oi.dst v) w → AnyC P ops Q C (fuel + 1) listed a w:=by
  intro fuel
  induction fuel with
  | zero =>
    intro listed a w _ hr hy H
    refine ⟨H.1,fun h=>(by rw [h] at hr; cases hr),fun j hj=>?_⟩
    by_cases hji:j = i
    · subst hji; exact hy.op hi H.1 H
    · have:=ready_mono hj hji
      rw [H.2.1] at this
      cases this
  | succ fuel ih =>
    intro listed a w hfree hr hy H
    refine ⟨H.1,fun h=>(by rw [h] at hr; cases hr),fun j hj=>?_⟩
    by_cases hji:j = i
    · subst hji; exact hy.op hi H.1 H
    · have h1:=H.2.2 j (ready_mono hj hji)
      obtain ⟨hjun,oj,hoj,hall⟩:=mem_ready.1 hj
      have hnot:∀ e ∈ oj.after,Region.binds .any e = true → e.on ≠ i:=fun e he hb heq=>by
        have h1:=hall e he hb
        have h0:=(mem_ready.1 hr).1
        rw [heq] at h1
        rcases Nat.lt_or_ge i listed.size with h' | h'
        · simp [h'] at h0 h1; rw [h0] at h1; cases h1
        · simp [Array.getElem?_eq_none h'] at h1
      have h2:=opIn_put hoj (hfree j oj hoj hji hjun hnot) (fun cs b=>hsel i oi cs b hi) (fun cs b=>hsel j oj cs b hoj) hQ hy h1
      have hfree':∀ k ok,ops[k]? = some ok → k ≠ i → (listed.setIfInBounds j true).getD k true = false →
          (∀ e ∈ ok.after,Region.binds .any e = true → e.on ≠ i) → oi.apart ops ok = true:=fun k ok hk hki hun hno=>by
        refine hfree k ok hk hki ?_ hno
        by_cases hjk:j = k
        · subst hjk; exact hjun
        · rw [getD_set_ne true hjk] at hun; exact hun
      refine wpOpIn_mono (fun a' w' h3=>ih (listed.setIfInBounds j true) a' w' hfree' (ready_mono hr (Ne.symm hji)) h3.1 ?_) h2
      rw [Array.setIfInBounds_comm _ _ hji]
      exact h3.2
theorem wpIn_monoQ {o:Oper} {a:Act} {w:World} {K:Act → World → Prop} {Q Q':Exit → Act → World → Prop} (hP:∀ c a w,Q (.panic c) a w → Q' (.panic c) a w) (hO:LetsOut Q → LetsOut Q')
    (hh:o.wpIn (Fw none) 0 P a w K Q):o.wpIn (Fw none) 0 P a w K Q':=by
  unfold Oper.wpIn at *
  refine ⟨hh.1,?_⟩
  have hh:=hh.2
  generalize (o.semAt (Fw none).round a.eval).run P w = r at *
  cases r with
  | ok x w' =>
    cases x <;> simp only [Oper.uponIn] at hh ⊢ <;>
      first
        | exact hh
        | exact ⟨hh.1,CallsIn.mono hh.2 (fun e w'' he=>by cases e <;> first | exact he | exact hP _ _ _ he | exact hO he)⟩
        | exact ⟨hh.1,RoundIn.mono hh.2 (fun e w'' he=>by cases e <;> first | exact he | exact hP _ _ _ he | exact hO he)⟩
  | halt x w'=>cases x <;> simp only [Oper.uponIn] at hh ⊢ <;> first | exact hP _ _ _ hh | exact hO hh | exact hh
def Q0 (Q:Exit → Act → World → Prop):Exit → Act → World → Prop:=fun e a w=>e = .normal ∧ Q .normal a w
def QK (P:Program) (W:World) (Bo:List Nat) (ops:Array Oper) (Q:Exit → Act → World → Prop) (lp:SH) (fuel:Nat) (listed:Array Bool):Exit → Act → World → Prop :=
  fun e a w=>e = .normal ∧ AnyC P ops (Q0 Q) (fun w=>St W Bo w lp) fuel listed a w
def DC (P:Program) (n:Nat) (D:List Deferred) (W:World) (Bo:List Nat) (ops:Array Oper) (Q:Exit → Act → World → Prop) (lp:SH) (fuel:Nat) (listed:Array Bool) (F:List (Nat × Value)) (l:SH):Prop :=
  Region.noSelect ops = true → ∀ a w,Fr n F D a → St W Bo w l → AnyC P ops (Q0 Q) (fun w=>St W Bo w lp) fuel listed a w
end
section
variable {P:Program} {n:Nat} {D:List Deferred} {W:World} {Bo:List Nat} {F F':List (Nat × Value)} {l l' lp lp':SH}
  {d:Option Tmp} {dd:Nat} {ty:TypeId} {ps:String} {af:Array Edge} {g:Option (Nat × Bool)} {x y z:Operand} {v u:Value} {ta tb t e:TypeId}
  {Q:Exit → Act → World → Prop} {ops:Array Oper} {rest:List Oper} {td:TypeDesc} {c:Code} {fuel:Nat} {listed:Array Bool}
theorem c_any [hm:HM P] (lp:SH) {id:Nat} {os:List Oper} (h:DC P n D W Bo os.toArray Q lp os.length (Array.replicate os.length false) F l) (hs:Region.noSelect os.toArray = true:=by kernel_rfl) :
    CP none P n D W Bo (.region id os.toArray true) Q F l:=by
  intro a w ha hw
  have h1:=(h hs a w.drew ha hw.drew).any
  have h2:(Code.region id os.toArray true).wpIn (Fw none) 0 P (Q0 Q) a w:=wpIn_region_any hm.h (by simpa using h1)
  exact wpIn_mono h2 fun e a w hq=>by obtain ⟨rfl,hq⟩:=hq; exact hq
theorem r_end (h:QP n D W Bo Q .normal F l) (hr:Region.ready .any ops listed = []:=by kernel_rfl) (hsub:lp.Sublist l:=by first | exact List.nil_sublist _ | exact List.Sublist.refl _ | exact .cons _ (.refl _) | exact .cons _ (.cons _ (.refl _)) | exact .cons _ (.cons _ (.cons _ (.refl _)))):DC P n D W Bo ops Q lp fuel listed F l:=by
  intro hs a w ha hw
  cases fuel with
  | zero=>exact ⟨hw.sub hsub,hr,rfl,h a w ha hw⟩
  | succ k=>exact ⟨hw.sub hsub,fun _=>⟨rfl,h a w ha hw⟩,by rw [hr]; simp⟩
theorem r_yc {o:Oper} (i:Nat) (hi:ops[i]? = some o) (hy:∀ a,Fr n F D a → YC P ops (fun w=>St W Bo w lp) o v a) (h:DC P n D W Bo ops Q lp fuel (listed.setIfInBounds i true) F' l)
    (hF:∀ a,Fr n F D a → Fr n F' D (a.put o.dst v)) (hr:(Region.ready .any ops listed).contains i = true) (hf:Region.free .any ops listed i = true):DC P n D W Bo ops Q lp (fuel + 1) listed F l:=by
  intro hs a w ha hw
  exact AnyC.first hi (Region.noSelect_spec hs) (fun c a w hq=>by cases hq.1) fuel listed a w (Region.free_spec hi hf) (by simpa using hr) (hy a ha) (h hs _ w (hF a ha) hw)
theorem r_y {op:Op} (i:Nat) (hi:ops[i]? = some ⟨some dd,op,ty,ps,af,g⟩) (hy:Y P n D W Bo ⟨some dd,op,ty,ps,af,g⟩ F lp v) (h:DC P n D W Bo ops Q lp fuel (listed.setIfInBounds i true) ((dd,v) :: F) l)
    (hn:Nat.blt dd n = true:=by rfl) (hg:Wn ops F g:=by first | exact .none | exact .some rfl rfl)
    (hr:(Region.ready .any ops listed).contains i = true:=by kernel_rfl) (hf:Region.free .any ops listed i = true:=by kernel_rfl):DC P n D W Bo ops Q lp (fuel + 1) listed F l :=
  r_yc i hi (fun a ha=>.inl ⟨hg.wanted rfl ha,fun w hw=>hy.2 a w ha hw⟩) h (fun _ ha=>ha.put dd v hn) hr hf
theorem r_no {op:Op} {j ee:Nat} {b b':Bool} (i:Nat) (hi:ops[i]? = some ⟨some dd,op,ty,ps,af,some (j,b)⟩) (h:DC P n D W Bo ops Q lp fuel (listed.setIfInBounds i true) ((dd,undef) :: F) l) (hn:Nat.blt dd n = true:=by rfl)
    (hj:(ops[j]?).bind (·.dst) = some ee:=by rfl) (hv:lkO F ee = some (.bool b'):=by rfl) (hb:(b' == b) = false:=by rfl)
    (hr:(Region.ready .any ops listed).contains i = true:=by kernel_rfl) (hf:Region.free .any ops listed i = true:=by kernel_rfl):DC P n D W Bo ops Q lp (fuel + 1) listed F l :=
  r_yc i hi (fun _ ha=>.inr ⟨unwanted_of (o:=⟨some dd,op,ty,ps,af,some (j,b)⟩) rfl hj hv hb ha,rfl⟩) h (fun _ ha=>ha.put dd _ hn) hr hf
theorem r_op {o:Oper} {i:Nat} (hi:ops[i]? = some o) {a:Act} {w:World} (h:wpListIn (Fw none) 0 P ops (QK P W Bo ops Q lp fuel (listed.setIfInBounds i true)) [o] a w) :
    wpOpIn (Fw none) 0 P ops (Q0 Q) i (AnyC P ops (Q0 Q) (fun w=>St W Bo w lp) fuel (listed.setIfInBounds i true)) a w:=by
  unfold wpOpIn
  simp only [hi]
  simp only [wpListIn] at h
  split
  · rename_i hw
    rw [if_pos hw] at h
    exact wpIn_monoQ (Q:=QK P W Bo ops Q lp fuel (listed.setIfInBounds i true)) (fun c a w hq=>by cases hq.1) (fun hq=>by obtain ⟨_,_,h9⟩:=hq; cases h9.1) (Oper.wpIn_mono (fun a w hk=>hk.2) h)
  · rename_i hw
    rw [if_neg hw] at h
    exact ⟨h.1,h.2.2⟩
theorem r_w {o:Oper} (i:Nat) (hi:ops[i]? = some o) (h:LP none P n D W Bo ops (QK P W Bo ops Q lp fuel (listed.setIfInBounds i true)) [o] F l)
    (hr:Region.ready .any ops listed = [i]:=by kernel_rfl) (hsub:lp.Sublist l:=by first | exact List.nil_sublist _ | exact List.Sublist.refl _ | exact .cons _ (.refl _) | exact .cons _ (.cons _ (.refl _)) | exact .cons _ (.cons _ (.cons _ (.refl _)))) :
    DC P n D W Bo ops Q lp (fuel + 1) listed F l:=by
  intro hs a w ha hw
  unfold AnyC
  refine ⟨hw.sub hsub,fun h0=>absurd (hr ▸ h0) (by simp),fun j hj=>?_⟩
  rw [hr,List.mem_singleton] at hj
  subst hj
  exact r_op hi (h a w ha hw)
theorem r_w2 {o o2:Oper} (i j:Nat) (hi:ops[i]? = some o) (hj:ops[j]? = some o2) (h:LP none P n D W Bo ops (QK P W Bo ops Q lp fuel (listed.setIfInBounds i true)) [o] F l)
    (h2:LP none P n D W Bo ops (QK P W Bo ops Q lp fuel (listed.setIfInBounds j true)) [o2] F l)
    (hr:Region.ready .any ops listed = [i,j]:=by kernel_rfl) (hsub:lp.Sublist l:=by first | exact List.nil_sublist _ | exact List.Sublist.refl _ | exact .cons _ (.refl _) | exact .cons _ (.cons _ (.refl _)) | exact .cons _ (.cons _ (.cons _ (.refl _)))) :
    DC P n D W Bo ops Q lp (fuel + 1) listed F l:=by
  intro hs a w ha hw
  unfold AnyC
  refine ⟨hw.sub hsub,fun h0=>absurd (hr ▸ h0) (by simp),fun k hk=>?_⟩
  rw [hr] at hk
  rcases List.mem_cons.1 hk with rfl | hk
  · exact r_op hi (h a w ha hw)
  · rw [List.mem_singleton] at hk
    subst hk
    exact r_op hj (h2 a w ha hw)
theorem r_k (hs:Region.noSelect ops = true) (lp':SH) (h:DC P n D W Bo ops Q lp' fuel listed F l) (hlp:lp.Sublist lp'):LP none P n D W Bo ops (QK P W Bo ops Q lp fuel listed) [] F l:=by
  refine s_nil ?_
  intro a w ha hw
  exact ⟨rfl,(h hs a w ha hw).mono fun w hw=>hw.sub hlp⟩
theorem r_kl (h:DC P n D W Bo ops Q l fuel listed F l) (hs:Region.noSelect ops = true:=by kernel_rfl) (hlp:lp.Sublist l:=by first | exact List.nil_sublist _ | exact List.Sublist.refl _ | exact .cons _ (.refl _) | exact .cons _ (.cons _ (.refl _)) | exact .cons _ (.cons _ (.cons _ (.refl _)))) :
    LP none P n D W Bo ops (QK P W Bo ops Q lp fuel listed) [] F l:=r_k hs l h hlp
end
end Eng
namespace Eng
open Go Go.RowKit
section
variable {r:Option Nat} {P:Program} {n:Nat} {D:List Deferred} {W:World} {Bo:List Nat} {F G:List (Nat × Value)} {l l2:SH} {c c1 c2 c3:Code} {Q Q':Exit → Act → World → Prop}
def Jn (n:Nat) (D:List Deferred) (W:World) (Bo:List Nat) (G:List (Nat × Value)) (l2:SH):Act → World → Prop:=fun a w=>Fr n G D a ∧ St W Bo w l2
theorem c_join (G:List (Nat × Value)) (l2:SH) (h1:CP r P n D W Bo c1 (Exit.then (Jn n D W Bo G l2) Q) F l) (h2:CP r P n D W Bo c2 Q G l2):CP r P n D W Bo (.seq c1 c2) Q F l :=
  c_seq fun a w ha hw=>wpIn_mono (h1 a w ha hw) fun e a' w' q=>by
    cases e with
    | normal=>exact h2 a' w' q.1 q.2
    | exit id=>exact q
    | goto l=>exact q
    | ret=>exact q
    | panic ch=>exact q
    | outgrown=>exact q
theorem q_join (hs:Sub F G) (hl:l2.Sublist l):QP n D W Bo (Exit.then (Jn n D W Bo G l2) Q) .normal F l:=fun _ _ ha hw=>⟨ha.weaken hs,hw.sub hl⟩
end
theorem bits8 (p q:UInt8) (f:BitVec 8 → BitVec 8 → BitVec 8) (r:UInt8) (h:f p.toBitVec q.toBitVec = r.toBitVec) :
    IntKind.u8.wrap ((f (BitVec.ofInt 8 (p.toNat:Int)) (BitVec.ofInt 8 (q.toNat:Int))).toNat:Int) = (r.toNat:Int):=by
  have e:∀ x:UInt8,BitVec.ofInt 8 (x.toNat:Int) = x.toBitVec:=by
    intro x; rw [BitVec.ofInt_natCast]; exact BitVec.eq_of_toNat_eq (by simp)
  rw [e,e,h,wrap_u8]
  have:=r.toBitVec.isLt
  show ((r.toNat:Int)) % 256 = _
  have h2:r.toNat < 256:=this
  omega
section
variable {r:Option Nat} {P:Program} {n:Nat} {D:List Deferred} {W:World} {Bo:List Nat} {F:List (Nat × Value)} {l l':SH}
  {d:Option Tmp} {dd:Nat} {ty:TypeId} {ps:String} {af:Array Edge} {g:Option (Nat × Bool)} {x y z:Operand} {v u:Value} {ta tb t e:TypeId}
  {Q:Exit → Act → World → Prop} {ops:Array Oper} {rest:List Oper} {td:TypeDesc} {c:Code}
theorem y_xor8 {p q:UInt8} (hx:evO F x = some (B p):=by rfl) (hy:evO F y = some (B q):=by rfl):Y P n D W Bo ⟨d,.binOp .xor ta x y tb,ty,ps,af,g⟩ F l (B (p ^^^ q)) :=
  .mk (by simp) fun a w ha _=>by
    have h:=bits8 p q (· ^^^ ·) (p ^^^ q) rfl
    simp only [execOp,ha.eval hx,ha.eval hy,eqGuard,binOp]
    show Result.ok (Next.value (.int .u8 (IntKind.u8.wrap _))) w = _
    exact congrArg (fun z=>Result.ok (Next.value (.int .u8 z)) w) h
theorem y_rem64 {p q:Nat} (hx:evO F x = some (U p):=by rfl) (hy:evO F y = some (U q):=by rfl) (h1:0 < q:=by omega) (hp:p < 18446744073709551616:=by omega):Y P n D W Bo ⟨d,.binOp .rem ta x y tb,ty,ps,af,g⟩ F l (U (p % q)) :=
  .mk (by simp) fun a w ha _=>by
    have h5:q ≠ 0:=by omega
    have h6:IntKind.u64.wrap ((p:Int) % (q:Int)) = ((p % q:Nat):Int):=by
      rw [← Int.natCast_emod]
      exact wrap_u64 (by omega) (by have:=Nat.mod_le p q; omega)
    simp [execOp,ha.eval hx,ha.eval hy,eqGuard,binOp,Op.intDiv,h5,Int.tmod_eq_emod_of_nonneg]
theorem row_fact {w:World} (hw:St W Bo w l) {a:Option Addr} {cc s k:Nat} {xs:List Value} (hm:Res.row a cc e s k xs ∈ l):k ≤ cc ∧ cc ≤ maxLen:=by
  obtain ⟨_,h2,h3⟩:=(hw.own _ hm).1
  refine ⟨h2,?_⟩
  rcases h3 with ⟨_,rfl⟩ | ⟨_,_,_,_,h4,_⟩
  · exact Nat.zero_le _
  · exact h4
theorem s_row {a:Option Addr} {cc s k:Nat} {xs:List Value} (h:k ≤ cc → cc ≤ maxLen → LP r P n D W Bo ops Q rest F l) (hm:Res.row a cc e s k xs ∈ l:=by repeat (first | exact .head _ | apply List.Mem.tail)):LP r P n D W Bo ops Q rest F l :=
  fun a w ha hw=>h (row_fact hw hm).1 (row_fact hw hm).2 a w ha hw
theorem d_nf {op:Op} {p:Prop} [dp:Decidable p] (hy:Y P n D W Bo ⟨some dd,op,ty,ps,af,g⟩ F l (.bool (!decide p)))
    (hp:p) (h1:DP P n D W Bo ops Q rest ((dd,.bool false) :: F) l) (hn:Nat.blt dd n = true:=by rfl) (hg:Wn ops F g:=by first | exact .none | exact .some rfl rfl):DP P n D W Bo ops Q (⟨some dd,op,ty,ps,af,g⟩ :: rest) F l :=
  d_y hy (by rw [decide_eq_true hp]; exact h1) hn hg
theorem d_kt {op:Op} {p:Prop} [dp:Decidable p] (hy:Y P n D W Bo ⟨some dd,op,ty,ps,af,g⟩ F l (.bool (decide p)))
    (hp:p) (h1:DP P n D W Bo ops Q rest ((dd,.bool true) :: F) l) (hn:Nat.blt dd n = true:=by rfl) (hg:Wn ops F g:=by first | exact .none | exact .some rfl rfl):DP P n D W Bo ops Q (⟨some dd,op,ty,ps,af,g⟩ :: rest) F l :=
  d_y hy (by rw [decide_eq_true hp]; exact h1) hn hg
theorem d_kf {op:Op} {p:Prop} [dp:Decidable p] (hy:Y P n D W Bo ⟨some dd,op,ty,ps,af,g⟩ F l (.bool (decide p)))
    (hp:¬ p) (h1:DP P n D W Bo ops Q rest ((dd,.bool false) :: F) l) (hn:Nat.blt dd n = true:=by rfl) (hg:Wn ops F g:=by first | exact .none | exact .some rfl rfl):DP P n D W Bo ops Q (⟨some dd,op,ty,ps,af,g⟩ :: rest) F l :=
  d_y hy (by rw [decide_eq_false hp]; exact h1) hn hg
end
end Eng
namespace Eng
open Go Go.RowKit
section
variable {P:Program} {ops:Array Oper} {Q:Exit → Act → World → Prop}
def AnyF (P:Program) (ops:Array Oper) (Q:Exit → Act → World → Prop) (C:World → Prop) (f:Nat):Nat → Array Bool → Act → World → Prop
  | 0,listed,a,w=>(listed.getD f false = true ∨ C w) ∧ Region.ready .any ops listed = [] ∧ Q .normal a w
  | fuel + 1,listed,a,w=>(listed.getD f false = true ∨ C w) ∧ (Region.ready .any ops listed = [] → Q .normal a w) ∧
    ∀ i ∈ Region.ready .any ops listed,wpOpIn (Fw none) 0 P ops Q i (AnyF P ops Q C f fuel (listed.setIfInBounds i true)) a w
theorem AnyF.any {C:World → Prop} {f:Nat}:∀ {fuel:Nat} {listed:Array Bool} {a:Act} {w:World},AnyF P ops Q C f fuel listed a w → wpAnyIn (Fw none) 0 P .any ops Q fuel listed a w
  | 0,_,_,_,h=>h.2
  | _ + 1,_,_,_,h=>⟨h.2.1,fun i hi=>wpOpIn_mono (fun _ _ h'=>AnyF.any h') (h.2.2 i hi)⟩
theorem AnyF.at {C:World → Prop} {f fuel:Nat} {listed:Array Bool} {a:Act} {w:World} (h:AnyF P ops Q C f fuel listed a w):listed.getD f false = true ∨ C w:=by
  cases fuel <;> exact h.1
theorem AnyF.mono {C C':World → Prop} {f:Nat} (hC:∀ w,C' w → C w):∀ {fuel:Nat} {listed:Array Bool} {a:Act} {w:World},AnyF P ops Q C' f fuel listed a w → AnyF P ops Q C f fuel listed a w
  | 0,_,_,_,h=>⟨h.1.imp id (hC _),h.2⟩
  | _ + 1,_,_,_,h=>⟨h.1.imp id (hC _),h.2.1,fun i hi=>wpOpIn_mono (fun _ _ h'=>AnyF.mono hC h') (h.2.2 i hi)⟩
theorem AnyF.first {C:World → Prop} {f i:Nat} {oi:Oper} {v:Value} (hi:ops[i]? = some oi) (hsel:∀ (j:Nat) (o:Oper) cs b,ops[j]? = some o → o.op ≠ .select cs b)
    (hQ:∀ c a w,Q (.panic c) (a.put oi.dst v) w → Q (.panic c) a w) (hif:i ≠ f) (hdep:∀ o,ops[f]? = some o → ∃ e ∈ o.after,Region.binds .any e = true ∧ e.on = i) :
    ∀ (fuel:Nat) (listed:Array Bool) (a:Act) (w:World),
      (∀ j oj,ops[j]? = some oj → j ≠ i → listed.getD j true = false → (∀ e ∈ oj.after,Region.binds .any e = true → e.on ≠ i) → oi.apart ops oj = true) →
      i ∈ Region.ready .any ops listed → listed.getD f false = false → YC P ops C oi v a →
      AnyF P ops Q C f fuel (listed.setIfInBounds i true) (a.put oi.dst v) w → AnyF P ops Q C f (fuel + 1) listed a w:=by
  have hat:∀ {fuel:Nat} {listed:Array Bool} {a:Act} {w:World},listed.getD f false = false → AnyF P ops Q C f fuel (listed.setIfInBounds i true) a w → C w:=by
    intro fuel listed a w hf H
    rcases H.at with h | h
    · rw [getD_set_ne false hif,hf] at h; cases h
    · exact h
  intro fuel
  induction fuel with
  | zero =>
    intro listed a w _ hr hf hy H
    refine ⟨.inr (hat hf H),fun h=>(by rw [h] at hr; cases hr),fun j hj=>?_⟩
    by_cases hji:j = i
    · subst hji; exact hy.op hi (hat hf H) H
    · have:=ready_mono hj hji
      rw [H.2.1] at this
      cases this
  | succ fuel ih =>
    intro listed a w hfree hr hf hy H
    refine ⟨.inr (hat hf H),fun h=>(by rw [h] at hr; cases hr),fun j hj=>?_⟩
    by_cases hji:j = i
    · subst hji; exact hy.op hi (hat hf H) H
    · have h1:=H.2.2 j (ready_mono hj hji)
      obtain ⟨hjun,oj,hoj,hall⟩:=mem_ready.1 hj
      have hnot:∀ e ∈ oj.after,Region.binds .any e = true → e.on ≠ i:=fun e he hb heq=>by
        have h1:=hall e he hb
        have h0:=(mem_ready.1 hr).1
        rw [heq] at h1
        rcases Nat.lt_or_ge i listed.size with h' | h'
        · simp [h'] at h0 h1; rw [h0] at h1; cases h1
        · simp [Array.getElem?_eq_none h'] at h1
      have hjf:j ≠ f:=fun e=>by
        subst e
        obtain ⟨e,he,hb,h9⟩:=hdep oj hoj
        exact hnot e he hb h9
      have h2:=opIn_put hoj (hfree j oj hoj hji hjun hnot) (fun cs b=>hsel i oi cs b hi) (fun cs b=>hsel j oj cs b hoj) hQ hy h1
      have hfree':∀ k ok,ops[k]? = some ok → k ≠ i → (listed.setIfInBounds j true).getD k true = false →
          (∀ e ∈ ok.after,Region.binds .any e = true → e.on ≠ i) → oi.apart ops ok = true:=fun k ok hk hki hun hno=>by
        refine hfree k ok hk hki ?_ hno
        by_cases hjk:j = k
        · subst hjk; exact hjun
        · rw [getD_set_ne true hjk] at hun; exact hun
      refine wpOpIn_mono (fun a' w' h3=>ih (listed.setIfInBounds j true) a' w' hfree' (ready_mono hr (Ne.symm hji)) (by rw [getD_set_ne false hjf]; exact hf) h3.1 ?_) h2
      rw [Array.setIfInBounds_comm _ _ hji]
      exact h3.2
def QF (P:Program) (W:World) (Bo:List Nat) (ops:Array Oper) (Q:Exit → Act → World → Prop) (lp:SH) (f fuel:Nat) (listed:Array Bool):Exit → Act → World → Prop :=
  fun e a w=>e = .normal ∧ AnyF P ops (Q0 Q) (fun w=>St W Bo w lp) f fuel listed a w
def DF (P:Program) (n:Nat) (D:List Deferred) (W:World) (Bo:List Nat) (ops:Array Oper) (Q:Exit → Act → World → Prop) (lp:SH) (f fuel:Nat) (listed:Array Bool) (F:List (Nat × Value)) (l:SH):Prop :=
  Region.noSelect ops = true → ∀ a w,Fr n F D a → St W Bo w l → AnyF P ops (Q0 Q) (fun w=>St W Bo w lp) f fuel listed a w
def okF (ops:Array Oper) (f:Nat) (listed:Array Bool) (i:Nat):Bool :=
  (Region.ready .any ops listed).contains i && (Region.free .any ops listed i && (!Nat.beq i f && (!listed.getD f false && ((ops[f]?).map fun o=>o.after.any fun e=>Region.binds .any e && Nat.beq e.on i).getD true)))
theorem okF_spec {f i:Nat} {listed:Array Bool} (h:okF ops f listed i = true):i ∈ Region.ready .any ops listed ∧ Region.free .any ops listed i = true ∧ i ≠ f ∧ listed.getD f false = false ∧ ∀ o,ops[f]? = some o → ∃ e ∈ o.after,Region.binds .any e = true ∧ e.on = i:=by
  simp only [okF,Bool.and_eq_true,Bool.not_eq_true',List.contains_iff_mem] at h
  refine ⟨h.1,h.2.1,Nat.ne_of_beq_eq_false h.2.2.1,h.2.2.2.1,fun o ho=>?_⟩
  have h2:=h.2.2.2.2
  rw [ho] at h2
  simp only [Option.map_some,Option.getD_some,Array.any_eq_true'] at h2
  obtain ⟨e,he,hb⟩:=h2
  rw [Bool.and_eq_true] at hb
  exact ⟨e,he,hb.1,Nat.eq_of_beq_eq_true hb.2⟩
end
section
variable {P:Program} {n:Nat} {D:List Deferred} {W:World} {Bo:List Nat} {F F':List (Nat × Value)} {l l' lp lp':SH}
  {d:Option Tmp} {dd:Nat} {ty:TypeId} {ps:String} {af:Array Edge} {g:Option (Nat × Bool)} {x y z:Operand} {v u:Value} {ta tb t e:TypeId}
  {Q:Exit → Act → World → Prop} {ops:Array Oper} {rest:List Oper} {td:TypeDesc} {c:Code} {f fuel:Nat} {listed:Array Bool}
theorem c_regF [hm:HM P] (f:Nat) {id:Nat} {os:List Oper} (h:DF P n D W Bo os.toArray Q l f os.length (Array.replicate os.length false) F l) (hs:Region.noSelect os.toArray = true:=by kernel_rfl) :
    CP none P n D W Bo (.region id os.toArray true) Q F l:=by
  intro a w ha hw
  have h1:=(h hs a w.drew ha hw.drew).any
  have h2:(Code.region id os.toArray true).wpIn (Fw none) 0 P (Q0 Q) a w:=wpIn_region_any hm.h (by simpa using h1)
  exact wpIn_mono h2 fun e a w hq=>by obtain ⟨rfl,hq⟩:=hq; exact hq
theorem f_yc {o:Oper} (i:Nat) (hi:ops[i]? = some o) (hy:∀ a,Fr n F D a → YC P ops (fun w=>St W Bo w lp) o v a) (h:DF P n D W Bo ops Q lp f fuel (listed.setIfInBounds i true) F' l)
    (hF:∀ a,Fr n F D a → Fr n F' D (a.put o.dst v)) (hok:okF ops f listed i = true):DF P n D W Bo ops Q lp f (fuel + 1) listed F l:=by
  intro hs a w ha hw
  obtain ⟨h1,h2,h3,h4,h5⟩:=okF_spec hok
  exact AnyF.first hi (Region.noSelect_spec hs) (fun c a w hq=>by cases hq.1) h3 h5 fuel listed a w (Region.free_spec hi h2) h1 h4 (hy a ha) (h hs _ w (hF a ha) hw)
theorem f_y {op:Op} (i:Nat) (hi:ops[i]? = some ⟨some dd,op,ty,ps,af,g⟩) (hy:Y P n D W Bo ⟨some dd,op,ty,ps,af,g⟩ F lp v) (h:DF P n D W Bo ops Q lp f fuel (listed.setIfInBounds i true) ((dd,v) :: F) l)
    (hn:Nat.blt dd n = true:=by rfl) (hg:Wn ops F g:=by first | exact .none | exact .some rfl rfl) (hok:okF ops f listed i = true:=by kernel_rfl):DF P n D W Bo ops Q lp f (fuel + 1) listed F l :=
  f_yc i hi (fun a ha=>.inl ⟨hg.wanted rfl ha,fun w hw=>hy.2 a w ha hw⟩) h (fun _ ha=>ha.put dd v hn) hok
theorem f_op {o:Oper} {i:Nat} (hi:ops[i]? = some o) {a:Act} {w:World} (h:wpListIn (Fw none) 0 P ops (QF P W Bo ops Q lp f fuel (listed.setIfInBounds i true)) [o] a w) :
    wpOpIn (Fw none) 0 P ops (Q0 Q) i (AnyF P ops (Q0 Q) (fun w=>St W Bo w lp) f fuel (listed.setIfInBounds i true)) a w:=by
  unfold wpOpIn
  simp only [hi]
  simp only [wpListIn] at h
  split
  · rename_i hw
    rw [if_pos hw] at h
    exact wpIn_monoQ (Q:=QF P W Bo ops Q lp f fuel (listed.setIfInBounds i true)) (fun c a w hq=>by cases hq.1) (fun hq=>by obtain ⟨_,_,h9⟩:=hq; cases h9.1) (Oper.wpIn_mono (fun a w hk=>hk.2) h)
  · rename_i hw
    rw [if_neg hw] at h
    exact ⟨h.1,h.2.2⟩
theorem f_w {o:Oper} (i:Nat) (hi:ops[i]? = some o) (h:LP none P n D W Bo ops (QF P W Bo ops Q lp f fuel (listed.setIfInBounds i true)) [o] F l)
    (hr:Region.ready .any ops listed = [i]:=by kernel_rfl) (hsub:lp.Sublist l:=by first | exact List.nil_sublist _ | exact List.Sublist.refl _ | exact .cons _ (.refl _) | exact .cons _ (.cons _ (.refl _)) | exact .cons _ (.cons _ (.cons _ (.refl _)))) :
    DF P n D W Bo ops Q lp f (fuel + 1) listed F l:=by
  intro hs a w ha hw
  unfold AnyF
  refine ⟨.inr (hw.sub hsub),fun h0=>absurd (hr ▸ h0) (by simp),fun j hj=>?_⟩
  rw [hr,List.mem_singleton] at hj
  subst hj
  exact f_op hi (h a w ha hw)
theorem f_w2 {o o2:Oper} (i j:Nat) (hi:ops[i]? = some o) (hj:ops[j]? = some o2) (h:LP none P n D W Bo ops (QF P W Bo ops Q lp f fuel (listed.setIfInBounds i true)) [o] F l)
    (h2:LP none P n D W Bo ops (QF P W Bo ops Q lp f fuel (listed.setIfInBounds j true)) [o2] F l)
    (hr:Region.ready .any ops listed = [i,j]:=by kernel_rfl) (hsub:lp.Sublist l:=by first | exact List.nil_sublist _ | exact List.Sublist.refl _ | exact .cons _ (.refl _) | exact .cons _ (.cons _ (.refl _)) | exact .cons _ (.cons _ (.cons _ (.refl _)))) :
    DF P n D W Bo ops Q lp f (fuel + 1) listed F l:=by
  intro hs a w ha hw
  unfold AnyF
  refine ⟨.inr (hw.sub hsub),fun h0=>absurd (hr ▸ h0) (by simp),fun k hk=>?_⟩
  rw [hr] at hk
  rcases List.mem_cons.1 hk with rfl | hk
  · exact f_op hi (h a w ha hw)
  · rw [List.mem_singleton] at hk
    subst hk
    exact f_op hj (h2 a w ha hw)
theorem f_k (h:DF P n D W Bo ops Q l f fuel listed F l) (hs:Region.noSelect ops = true:=by kernel_rfl) (hlp:lp.Sublist l:=by first | exact List.nil_sublist _ | exact List.Sublist.refl _ | exact .cons _ (.refl _) | exact .cons _ (.cons _ (.refl _)) | exact .cons _ (.cons _ (.cons _ (.refl _)))) :
    LP none P n D W Bo ops (QF P W Bo ops Q lp f fuel listed) [] F l :=
  s_nil fun a w ha hw=>⟨rfl,(h hs a w ha hw).mono fun _ hw=>hw.sub hlp⟩
theorem f_z (h:QP n D W Bo Q .normal F l) (hr:Region.ready .any ops listed = []:=by kernel_rfl) (hf:listed.getD f false = true:=by kernel_rfl):LP none P n D W Bo ops (QF P W Bo ops Q lp f fuel listed) [] F l :=
  s_nil fun a w ha hw=>by
    refine ⟨rfl,?_⟩
    cases fuel with
    | zero=>exact ⟨.inl hf,hr,rfl,h a w ha hw⟩
    | succ k=>exact ⟨.inl hf,fun _=>⟨rfl,h a w ha hw⟩,by rw [hr]; simp⟩
end
end Eng
namespace Eng
open Go Go.RowKit
section
variable {r:Option Nat} {P:Program} {n:Nat} {D:List Deferred} {W:World} {Bo:List Nat} {F:List (Nat × Value)} {l l' l1:SH}
  {d:Option Tmp} {dd:Nat} {ty:TypeId} {ps:String} {af:Array Edge} {g:Option (Nat × Bool)} {x y z:Operand} {v u:Value} {ta tb t e:TypeId}
  {Q:Exit → Act → World → Prop} {ops:Array Oper} {rest:List Oper} {td:TypeDesc} {c:Code}
theorem St.borrowR {W:World} {p:Res} (h:p.holds W):St W (keys [p]) W [p]:=by
  refine ⟨rfl,rfl,rfl,Nat.le_refl _,fun _ _ _=>rfl,?_,?_⟩
  · intro q hq
    rw [List.mem_singleton] at hq
    subst hq
    exact ⟨h,fun k hk=>.inr (mem_keys.2 ⟨q,by simp,hk⟩)⟩
  · unfold keys
    rw [List.filterMap_cons]
    cases p.key <;> simp
theorem enterR {k:FuncId} {fn:Func} {args:List Value} {R:Ending → World → Prop} {p:Res} (hf:P.funcs[k]? = some fn) (hn:fn.ntmps = n) (hp:p.holds W)
    (h:CP none P n [] W (keys [p]) c (bodyPost P fn R) (argsF 0 args) [p]) (hb:fn.body = some c:=by rfl) (hle:Nat.ble args.length n = true:=by rfl):Calls P k args.toArray W R :=
  enter0 hf hb hn (Nat.le_of_ble_eq_true hle) (St.borrowR hp) h
theorem St.transR {w w':World} {p p':Res} (h:St W Bo w l) (hr:Rep p p' l l1) (h':St w (keys [p]) w' (p' :: l')):St W Bo w' (l' ++ l1):=by
  have hkp:∀ k,k ∈ keys [p] ↔ p.key = some k:=fun k=>by rw [mem_keys]; simp
  have hkey:∀ q ∈ p' :: l',∀ k,q.key = some k → p.key = some k ∨ w.heap.size ≤ k:=fun q hq k hk=>by
    rcases (h'.own q hq).2 k hk with h1 | h1
    · exact .inr h1
    · exact .inl ((hkp k).1 h1)
  have h1:St W Bo w' l1:=by
    refine h.change hr h'.os h'.tape h'.output h'.size ?_ (h'.own _ (.head _)).1 (hkey _ (.head _))
    intro k hk hne
    exact h'.old k hk (fun e=>hne ((hkp k).1 e))
  have hnd:=h'.nd
  unfold keys at hnd
  rw [List.filterMap_cons] at hnd
  have hnd2:(List.filterMap Res.key l').Nodup:=by
    cases hk:p'.key with
    | none=>rw [hk] at hnd; exact hnd
    | some k=>rw [hk] at hnd; exact (List.nodup_cons.1 hnd).2
  obtain ⟨l3,l4,rfl,rfl⟩:=hr.split
  have hpm:p ∈ l3 ++ p :: l4:=by simp
  refine ⟨h1.os,h1.tape,h1.output,h1.size,h1.old,?_,?_⟩
  · intro q hq
    rcases List.mem_append.1 hq with hq | hq
    · refine ⟨(h'.own q (.tail _ hq)).1,fun k hk=>?_⟩
      rcases hkey q (.tail _ hq) k hk with h2 | h2
      · exact (h.own p hpm).2 k h2
      · exact .inl (Nat.le_trans h.size h2)
    · exact h1.own q hq
  · unfold keys
    rw [List.filterMap_append,List.nodup_append]
    refine ⟨hnd2,h1.nd,?_⟩
    intro x hx y hy e
    subst e
    obtain ⟨q,hq,hqk⟩:=List.mem_filterMap.1 hx
    obtain ⟨q2,hq2,hqk2⟩:=List.mem_filterMap.1 hy
    -- the block of a new part: that of p, or a new one
    have hold:∀ z ∈ l3 ++ l4,∀ k,z.key = some k → k < w.heap.size ∧ p.key ≠ some k:=fun z hz k hk=>by
      have hz':z ∈ l3 ++ p :: l4:=(List.mem_append.1 hz).elim (List.mem_append_left _) fun h9=>List.mem_append_right _ (.tail _ h9)
      refine ⟨h.lt hz' hk,fun hpk=>?_⟩
      have hnd':(keys (p :: (l3 ++ l4))).Nodup:=((List.perm_middle.filterMap Res.key).nodup_iff).1 h.nd
      unfold keys at hnd'
      rw [List.filterMap_cons,hpk,List.nodup_cons] at hnd'
      exact hnd'.1 (mem_keys.2 ⟨z,hz,hk⟩)
    rcases hkey q (.tail _ hq) x hqk with h2 | h2
    · -- in p's block: then not that of p',nor of an old part
      rcases List.mem_append.1 hq2 with h3 | h3
      · exact (hold q2 (List.mem_append_left _ h3) x hqk2).2 h2
      · rcases List.mem_cons.1 h3 with rfl | h3
        · rw [hqk2] at hnd
          exact (List.nodup_cons.1 hnd).1 (List.mem_filterMap.2 ⟨q,hq,hqk⟩)
        · exact (hold q2 (List.mem_append_right _ h3) x hqk2).2 h2
    · rcases List.mem_append.1 hq2 with h3 | h3
      · have:=(hold q2 (List.mem_append_left _ h3) x hqk2).1; omega
      · rcases List.mem_cons.1 h3 with rfl | h3
        · rw [hqk2] at hnd
          exact (List.nodup_cons.1 hnd).1 (List.mem_filterMap.2 ⟨q,hq,hqk⟩)
        · have:=(hold q2 (List.mem_append_right _ h3) x hqk2).1; omega
theorem s_upd {k:FuncId} [hf:HF P k] {fo:Operand} {fs cs vs args:List Value} {as9:Array Operand} {ts:Array TypeId} {σ:Type} {val:σ → Value} {p:Res} {p':σ → Res} {lx:σ → SH} {φ:σ → Prop} {l1:σ → SH}
    (hc:∀ w,St W Bo w l → Gives P k args w (keys [p]) val (fun x=>p' x :: lx x) φ)
    (hrep:∀ x,Rep p (p' x) l (l1 x))
    (h:∀ x,φ x → LP r P n D W Bo ops Q rest ((dd,val x) :: F) (lx x ++ l1 x))
    (hfo:evO F fo = some (.func (.func k) fs.toArray cs.toArray):=by rfl) (hargs:evL F as9.toList = some vs:=by rfl) (hap:args = fs ++ vs ++ cs:=by rfl) (hn:Nat.blt dd n = true:=by rfl) (hg:Wn ops F g:=by first | exact .none | exact .some rfl rfl) :
    LP r P n D W Bo ops Q (⟨some dd,.call ⟨.value fo,as9,ts⟩,ty,ps,af,g⟩ :: rest) F l :=
  s_calls val (fun x=>lx x ++ l1 x) φ hfo hargs
    (fun w hw=>(hap ▸ hc w hw:Gives P k (fs ++ vs ++ cs) w (keys [p]) val (fun x=>p' x :: lx x) φ).mono fun _ _ ⟨x,hx,he,hw'⟩=>⟨x,hx,he,hw.transR (hrep x) hw'⟩) h hn hg
theorem c_loop4 {σ τ υ ψ:Type} (Fx:σ → τ → υ → ψ → List (Nat × Value)) (lx:σ → τ → υ → ψ → SH) (I:σ → τ → υ → ψ → Prop) (m:σ → τ → υ → ψ → Nat) (x:σ) (y:τ) (z:υ) (u:ψ) (hx:I x y z u) (hF:Sub F (Fx x y z u)) (hl:(lx x y z u).Sublist l)
    (h:∀ x y z u,I x y z u → CP r P n D W Bo c (Exit.then (fun a w=>∃ x' y' z' u',I x' y' z' u' ∧ m x' y' z' u' < m x y z u ∧ Fr n (Fx x' y' z' u') D a ∧ St W Bo w (lx x' y' z' u')) Q) (Fx x y z u) (lx x y z u)) :
    CP r P n D W Bo (.loop c) Q F l :=
  c_loop (fun p:σ × τ × υ × ψ=>Fx p.1 p.2.1 p.2.2.1 p.2.2.2) (fun p=>lx p.1 p.2.1 p.2.2.1 p.2.2.2) (fun p=>I p.1 p.2.1 p.2.2.1 p.2.2.2) (fun p=>m p.1 p.2.1 p.2.2.1 p.2.2.2) (x,y,z,u) hx hF hl fun ⟨x,y,z,u⟩ hI a w ha hw =>
    wpIn_mono (h x y z u hI a w ha hw) fun e a' w' q=>by
      cases e with
      | normal=>obtain ⟨x',y',z',u',h1,h2,h3,h4⟩:=q; exact ⟨(x',y',z',u'),h1,h2,h3,h4⟩
      | exit id=>exact q
      | goto l=>exact q
      | ret=>exact q
      | panic ch=>exact q
      | outgrown=>exact q
theorem q_round4 {σ τ υ ψ:Type} {Fx:σ → τ → υ → ψ → List (Nat × Value)} {lx:σ → τ → υ → ψ → SH} {I:σ → τ → υ → ψ → Prop} {m:σ → τ → υ → ψ → Nat} {x:σ} {y:τ} {z:υ} {u:ψ} (x':σ) (y':τ) (z':υ) (u':ψ) (hy:I x' y' z' u') (hm:m x' y' z' u' < m x y z u) (hF:Sub F (Fx x' y' z' u')) (hl:(lx x' y' z' u').Sublist l) :
    QP n D W Bo (Exit.then (fun a w=>∃ x' y' z' u',I x' y' z' u' ∧ m x' y' z' u' < m x y z u ∧ Fr n (Fx x' y' z' u') D a ∧ St W Bo w (lx x' y' z' u')) Q) .normal F l :=
  fun _ _ ha hw=>⟨x',y',z',u',hy,hm,ha.weaken hF,hw.sub hl⟩
theorem c_regL [hm:HM P] (lp:SH) {id:Nat} {os:List Oper} (h:DC P n D W Bo os.toArray Q lp os.length (Array.replicate os.length false) F l) (hs:Region.noSelect os.toArray = true:=by kernel_rfl) :
    CP none P n D W Bo (.region id os.toArray true) Q F l:=c_any lp h hs
theorem r_W {lp:SH} {fuel:Nat} {listed:Array Bool} {o:Oper} (i:Nat) (hi:ops[i]? = some o) (h:LP none P n D W Bo ops (QK P W Bo ops Q lp fuel (listed.setIfInBounds i true)) [o] F l)
    (hr:Region.ready .any ops listed = [i]:=by kernel_rfl) (hsub:lp.Sublist l:=by repeat (first | exact List.nil_sublist _ | exact List.Sublist.refl _ | apply List.Sublist.cons_cons | apply List.Sublist.cons)):DC P n D W Bo ops Q lp (fuel + 1) listed F l:=r_w i hi h hr hsub
theorem r_K {lp:SH} {fuel:Nat} {listed:Array Bool} (h:DC P n D W Bo ops Q lp fuel listed F l) (hs:Region.noSelect ops = true:=by kernel_rfl):LP none P n D W Bo ops (QK P W Bo ops Q lp fuel listed) [] F l :=
  r_k hs lp h (List.Sublist.refl _)
theorem r_E {lp:SH} {fuel:Nat} {listed:Array Bool} (h:QP n D W Bo Q .normal F l) (hr:Region.ready .any ops listed = []:=by kernel_rfl) (hsub:lp.Sublist l:=by repeat (first | exact List.nil_sublist _ | exact List.Sublist.refl _ | apply List.Sublist.cons_cons | apply List.Sublist.cons)):DC P n D W Bo ops Q lp fuel listed F l:=r_end h hr hsub
theorem rdO {W0 w:World} {l:SH} {p:Res} (hs:St W0 [] w [p]) {a:Option Addr} {xs:List Value} (h:Rd W0 a xs):RdS w (keys [p]) l a xs:=fun w' hw=>by
  by_cases hne:xs = []
  · rw [hne]; exact Rd.nil _ _
  · refine Rd.congr h fun b hb=>?_
    have h1:b < W0.heap.size:=h.lt hne hb
    rw [hw.old b (Nat.lt_of_lt_of_le h1 hs.size) ?_,hs.old b h1 (by simp)]
    intro hm
    obtain ⟨q,hq,hk⟩:=mem_keys.1 hm
    rw [List.mem_singleton] at hq
    subst hq
    rcases (hs.own q (by simp)).2 b hk with h2 | h2
    · omega
    · simp at h2
theorem St.over {W0 w w':World} {p p':Res} {l:SH} (hs:St W0 [] w [p]) (hw:St w (keys [p]) w' l) (hm:p' ∈ l):St W0 [] w' [p']:=by
  have h1:St w (keys [p]) w' [p']:=by
    refine ⟨hw.os,hw.tape,hw.output,hw.size,hw.old,fun q hq=>by rw [List.mem_singleton] at hq; subst hq; exact hw.own q hm,?_⟩
    unfold keys
    rw [List.filterMap_cons]
    cases p'.key <;> simp
  have:=hs.transR (Rep.head []) h1
  simpa using this
end
end Eng
end
