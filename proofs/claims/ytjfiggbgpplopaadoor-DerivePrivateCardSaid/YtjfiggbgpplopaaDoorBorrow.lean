/- A call that takes over a part of memory that is known: it changes it, or puts another one in its place. -/
import Derived.Test.YtjfiggbgpplopaaDoorDrawF
namespace Eng
open Go Go.RowKit
section
variable {r : Option Nat} {P : Program} {n : Nat} {D : List Deferred} {W : World} {Bo : List Nat} {F : List (Nat × Value)} {l l' l1 : SH}
  {d : Option Tmp} {dd : Nat} {ty : TypeId} {ps : String} {af : Array Edge} {g : Option (Nat × Bool)} {x y z : Operand} {v u : Value} {ta tb t e : TypeId}
  {Q : Exit → Act → World → Prop} {ops : Array Oper} {rest : List Oper} {td : TypeDesc} {c : Code}

theorem St.borrowR {W : World} {p : Res} (h : p.holds W) : St W (keys [p]) W [p] := by
  refine ⟨rfl, rfl, rfl, Nat.le_refl _, fun _ _ _ => rfl, ?_, ?_⟩
  · intro q hq
    rw [List.mem_singleton] at hq
    subst hq
    exact ⟨h, fun k hk => .inr (mem_keys.2 ⟨q, by simp, hk⟩)⟩
  · unfold keys
    rw [List.filterMap_cons]
    cases p.key <;> simp

theorem enterR {k : FuncId} {fn : Func} {args : List Value} {R : Ending → World → Prop} {p : Res} (hf : P.funcs[k]? = some fn) (hn : fn.ntmps = n) (hp : p.holds W)
    (h : CP none P n [] W (keys [p]) c (bodyPost P fn R) (argsF 0 args) [p]) (hb : fn.body = some c := by rfl) (hle : Nat.ble args.length n = true := by rfl) : Calls P k args.toArray W R :=
  enter0 hf hb hn (Nat.le_of_ble_eq_true hle) (St.borrowR hp) h

theorem St.transR {w w' : World} {p p' : Res} (h : St W Bo w l) (hr : Rep p p' l l1) (h' : St w (keys [p]) w' (p' :: l')) : St W Bo w' (l' ++ l1) := by
  have hkp : ∀ k, k ∈ keys [p] ↔ p.key = some k := fun k => by rw [mem_keys]; simp
  have hkey : ∀ q ∈ p' :: l', ∀ k, q.key = some k → p.key = some k ∨ w.heap.size ≤ k := fun q hq k hk => by
    rcases (h'.own q hq).2 k hk with h1 | h1
    · exact .inr h1
    · exact .inl ((hkp k).1 h1)
  have h1 : St W Bo w' l1 := by
    refine h.change hr h'.os h'.tape h'.output h'.size ?_ (h'.own _ (.head _)).1 (hkey _ (.head _))
    intro k hk hne
    exact h'.old k hk (fun e => hne ((hkp k).1 e))
  have hnd := h'.nd
  unfold keys at hnd
  rw [List.filterMap_cons] at hnd
  have hnd2 : (List.filterMap Res.key l').Nodup := by
    cases hk : p'.key with
    | none => rw [hk] at hnd; exact hnd
    | some k => rw [hk] at hnd; exact (List.nodup_cons.1 hnd).2
  obtain ⟨l3, l4, rfl, rfl⟩ := hr.split
  have hpm : p ∈ l3 ++ p :: l4 := by simp
  refine ⟨h1.os, h1.tape, h1.output, h1.size, h1.old, ?_, ?_⟩
  · intro q hq
    rcases List.mem_append.1 hq with hq | hq
    · refine ⟨(h'.own q (.tail _ hq)).1, fun k hk => ?_⟩
      rcases hkey q (.tail _ hq) k hk with h2 | h2
      · exact (h.own p hpm).2 k h2
      · exact .inl (Nat.le_trans h.size h2)
    · exact h1.own q hq
  · unfold keys
    rw [List.filterMap_append, List.nodup_append]
    refine ⟨hnd2, h1.nd, ?_⟩
    intro x hx y hy e
    subst e
    obtain ⟨q, hq, hqk⟩ := List.mem_filterMap.1 hx
    obtain ⟨q2, hq2, hqk2⟩ := List.mem_filterMap.1 hy
    -- the block of a new part: that of p, or a new one
    have hold : ∀ z ∈ l3 ++ l4, ∀ k, z.key = some k → k < w.heap.size ∧ p.key ≠ some k := fun z hz k hk => by
      have hz' : z ∈ l3 ++ p :: l4 := (List.mem_append.1 hz).elim (List.mem_append_left _) fun h9 => List.mem_append_right _ (.tail _ h9)
      refine ⟨h.lt hz' hk, fun hpk => ?_⟩
      have hnd' : (keys (p :: (l3 ++ l4))).Nodup := ((List.perm_middle.filterMap Res.key).nodup_iff).1 h.nd
      unfold keys at hnd'
      rw [List.filterMap_cons, hpk, List.nodup_cons] at hnd'
      exact hnd'.1 (mem_keys.2 ⟨z, hz, hk⟩)
    rcases hkey q (.tail _ hq) x hqk with h2 | h2
    · -- in p's block: then not that of p', nor of an old part
      rcases List.mem_append.1 hq2 with h3 | h3
      · exact (hold q2 (List.mem_append_left _ h3) x hqk2).2 h2
      · rcases List.mem_cons.1 h3 with rfl | h3
        · rw [hqk2] at hnd
          exact (List.nodup_cons.1 hnd).1 (List.mem_filterMap.2 ⟨q, hq, hqk⟩)
        · exact (hold q2 (List.mem_append_right _ h3) x hqk2).2 h2
    · rcases List.mem_append.1 hq2 with h3 | h3
      · have := (hold q2 (List.mem_append_left _ h3) x hqk2).1; omega
      · rcases List.mem_cons.1 h3 with rfl | h3
        · rw [hqk2] at hnd
          exact (List.nodup_cons.1 hnd).1 (List.mem_filterMap.2 ⟨q, hq, hqk⟩)
        · have := (hold q2 (List.mem_append_right _ h3) x hqk2).1; omega

/-- a call that takes over a part -/
theorem s_upd {k : FuncId} [hf : HF P k] {fo : Operand} {fs cs vs args : List Value} {as : Array Operand} {ts : Array TypeId} {σ : Type} {val : σ → Value} {p : Res} {p' : σ → Res} {lx : σ → SH} {φ : σ → Prop} {l1 : σ → SH}
    (hc : ∀ w, St W Bo w l → Gives P k args w (keys [p]) val (fun x => p' x :: lx x) φ)
    (hrep : ∀ x, Rep p (p' x) l (l1 x))
    (h : ∀ x, φ x → LP r P n D W Bo ops Q rest ((dd, val x) :: F) (lx x ++ l1 x))
    (hfo : evO F fo = some (.func (.func k) fs.toArray cs.toArray) := by rfl) (hargs : evL F as.toList = some vs := by rfl) (hap : args = fs ++ vs ++ cs := by rfl) (hn : Nat.blt dd n = true := by rfl) (hg : Wn ops F g := by first | exact .none | exact .some rfl rfl) :
    LP r P n D W Bo ops Q (⟨some dd, .call ⟨.value fo, as, ts⟩, ty, ps, af, g⟩ :: rest) F l :=
  s_calls val (fun x => lx x ++ l1 x) φ hfo hargs
    (fun w hw => (hap ▸ hc w hw : Gives P k (fs ++ vs ++ cs) w (keys [p]) val (fun x => p' x :: lx x) φ).mono fun _ _ ⟨x, hx, he, hw'⟩ => ⟨x, hx, he, hw.transR (hrep x) hw'⟩) h hn hg

theorem c_loop4 {σ τ υ ψ : Type} (Fx : σ → τ → υ → ψ → List (Nat × Value)) (lx : σ → τ → υ → ψ → SH) (I : σ → τ → υ → ψ → Prop) (m : σ → τ → υ → ψ → Nat) (x : σ) (y : τ) (z : υ) (u : ψ) (hx : I x y z u) (hF : Sub F (Fx x y z u)) (hl : (lx x y z u).Sublist l)
    (h : ∀ x y z u, I x y z u → CP r P n D W Bo c (Exit.then (fun a w => ∃ x' y' z' u', I x' y' z' u' ∧ m x' y' z' u' < m x y z u ∧ Fr n (Fx x' y' z' u') D a ∧ St W Bo w (lx x' y' z' u')) Q) (Fx x y z u) (lx x y z u)) :
    CP r P n D W Bo (.loop c) Q F l :=
  c_loop (fun p : σ × τ × υ × ψ => Fx p.1 p.2.1 p.2.2.1 p.2.2.2) (fun p => lx p.1 p.2.1 p.2.2.1 p.2.2.2) (fun p => I p.1 p.2.1 p.2.2.1 p.2.2.2) (fun p => m p.1 p.2.1 p.2.2.1 p.2.2.2) (x, y, z, u) hx hF hl fun ⟨x, y, z, u⟩ hI a w ha hw =>
    wpIn_mono (h x y z u hI a w ha hw) fun e a' w' q => by
      cases e with
      | normal => obtain ⟨x', y', z', u', h1, h2, h3, h4⟩ := q; exact ⟨(x', y', z', u'), h1, h2, h3, h4⟩
      | exit id => exact q
      | goto l => exact q
      | ret => exact q
      | panic ch => exact q
      | outgrown => exact q
theorem q_round4 {σ τ υ ψ : Type} {Fx : σ → τ → υ → ψ → List (Nat × Value)} {lx : σ → τ → υ → ψ → SH} {I : σ → τ → υ → ψ → Prop} {m : σ → τ → υ → ψ → Nat} {x : σ} {y : τ} {z : υ} {u : ψ} (x' : σ) (y' : τ) (z' : υ) (u' : ψ) (hy : I x' y' z' u') (hm : m x' y' z' u' < m x y z u) (hF : Sub F (Fx x' y' z' u')) (hl : (lx x' y' z' u').Sublist l) :
    QP n D W Bo (Exit.then (fun a w => ∃ x' y' z' u', I x' y' z' u' ∧ m x' y' z' u' < m x y z u ∧ Fr n (Fx x' y' z' u') D a ∧ St W Bo w (lx x' y' z' u')) Q) .normal F l :=
  fun _ _ ha hw => ⟨x', y', z', u', hy, hm, ha.weaken hF, hw.sub hl⟩

/-- regions whose order is open, with what is known of memory throughout: lp, found wherever it lies -/
theorem c_regL [hm : HM P] (lp : SH) {id : Nat} {os : List Oper} (h : DC P n D W Bo os.toArray Q lp os.length (Array.replicate os.length false) F l) (hs : Region.noSelect os.toArray = true := by kernel_rfl) :
    CP none P n D W Bo (.region id os.toArray true) Q F l := c_any lp h hs
theorem r_W {lp : SH} {fuel : Nat} {listed : Array Bool} {o : Oper} (i : Nat) (hi : ops[i]? = some o) (h : LP none P n D W Bo ops (QK P W Bo ops Q lp fuel (listed.setIfInBounds i true)) [o] F l)
    (hr : Region.ready .any ops listed = [i] := by kernel_rfl) (hsub : lp.Sublist l := by repeat (first | exact List.nil_sublist _ | exact List.Sublist.refl _ | apply List.Sublist.cons_cons | apply List.Sublist.cons)) : DC P n D W Bo ops Q lp (fuel + 1) listed F l := r_w i hi h hr hsub
theorem r_K {lp : SH} {fuel : Nat} {listed : Array Bool} (h : DC P n D W Bo ops Q lp fuel listed F l) (hs : Region.noSelect ops = true := by kernel_rfl) : LP none P n D W Bo ops (QK P W Bo ops Q lp fuel listed) [] F l :=
  r_k hs lp h (List.Sublist.refl _)
theorem r_E {lp : SH} {fuel : Nat} {listed : Array Bool} (h : QP n D W Bo Q .normal F l) (hr : Region.ready .any ops listed = [] := by kernel_rfl) (hsub : lp.Sublist l := by repeat (first | exact List.nil_sublist _ | exact List.Sublist.refl _ | apply List.Sublist.cons_cons | apply List.Sublist.cons)) : DC P n D W Bo ops Q lp fuel listed F l := r_end h hr hsub
/-- what is known of memory in an older world, from which on all that has changed is new -/
theorem rdO {W0 w : World} {l : SH} {p : Res} (hs : St W0 [] w [p]) {a : Option Addr} {xs : List Value} (h : Rd W0 a xs) : RdS w (keys [p]) l a xs := fun w' hw => by
  by_cases hne : xs = []
  · rw [hne]; exact Rd.nil _ _
  · refine Rd.congr h fun b hb => ?_
    have h1 : b < W0.heap.size := h.lt hne hb
    rw [hw.old b (Nat.lt_of_lt_of_le h1 hs.size) ?_, hs.old b h1 (by simp)]
    intro hm
    obtain ⟨q, hq, hk⟩ := mem_keys.1 hm
    rw [List.mem_singleton] at hq
    subst hq
    rcases (hs.own q (by simp)).2 b hk with h2 | h2
    · omega
    · simp at h2
theorem St.over {W0 w w' : World} {p p' : Res} {l : SH} (hs : St W0 [] w [p]) (hw : St w (keys [p]) w' l) (hm : p' ∈ l) : St W0 [] w' [p'] := by
  have h1 : St w (keys [p]) w' [p'] := by
    refine ⟨hw.os, hw.tape, hw.output, hw.size, hw.old, fun q hq => by rw [List.mem_singleton] at hq; subst hq; exact hw.own q hm, ?_⟩
    unfold keys
    rw [List.filterMap_cons]
    cases p'.key <;> simp
  have := hs.transR (Rep.head []) h1
  simpa using this
end
end Eng
