/- Regions whose order is open and whose last operation, which waits for all others, changes memory: what is read is read before it. -/
import Derived.Test.YtjfiggbgpplopaaDoorRule
namespace Eng
open Go Go.RowKit

section
variable {P : Program} {ops : Array Oper} {Q : Exit → Act → World → Prop}

/-- whatever order is picked from here on; the world is of the class C till the operation f has been carried out -/
def AnyF (P : Program) (ops : Array Oper) (Q : Exit → Act → World → Prop) (C : World → Prop) (f : Nat) : Nat → Array Bool → Act → World → Prop
  | 0, listed, a, w => (listed.getD f false = true ∨ C w) ∧ Region.ready .any ops listed = [] ∧ Q .normal a w
  | fuel + 1, listed, a, w => (listed.getD f false = true ∨ C w) ∧ (Region.ready .any ops listed = [] → Q .normal a w) ∧
    ∀ i ∈ Region.ready .any ops listed, wpOpIn (Fw none) 0 P ops Q i (AnyF P ops Q C f fuel (listed.setIfInBounds i true)) a w

theorem AnyF.any {C : World → Prop} {f : Nat} : ∀ {fuel : Nat} {listed : Array Bool} {a : Act} {w : World}, AnyF P ops Q C f fuel listed a w → wpAnyIn (Fw none) 0 P .any ops Q fuel listed a w
  | 0, _, _, _, h => h.2
  | _ + 1, _, _, _, h => ⟨h.2.1, fun i hi => wpOpIn_mono (fun _ _ h' => AnyF.any h') (h.2.2 i hi)⟩

theorem AnyF.at {C : World → Prop} {f fuel : Nat} {listed : Array Bool} {a : Act} {w : World} (h : AnyF P ops Q C f fuel listed a w) : listed.getD f false = true ∨ C w := by
  cases fuel <;> exact h.1

theorem AnyF.mono {C C' : World → Prop} {f : Nat} (hC : ∀ w, C' w → C w) : ∀ {fuel : Nat} {listed : Array Bool} {a : Act} {w : World}, AnyF P ops Q C' f fuel listed a w → AnyF P ops Q C f fuel listed a w
  | 0, _, _, _, h => ⟨h.1.imp id (hC _), h.2⟩
  | _ + 1, _, _, _, h => ⟨h.1.imp id (hC _), h.2.1, fun i hi => wpOpIn_mono (fun _ _ h' => AnyF.mono hC h') (h.2.2 i hi)⟩

theorem AnyF.first {C : World → Prop} {f i : Nat} {oi : Oper} {v : Value} (hi : ops[i]? = some oi) (hsel : ∀ (j : Nat) (o : Oper) cs b, ops[j]? = some o → o.op ≠ .select cs b)
    (hQ : ∀ c a w, Q (.panic c) (a.put oi.dst v) w → Q (.panic c) a w) (hif : i ≠ f) (hdep : ∀ o, ops[f]? = some o → ∃ e ∈ o.after, Region.binds .any e = true ∧ e.on = i) :
    ∀ (fuel : Nat) (listed : Array Bool) (a : Act) (w : World),
      (∀ j oj, ops[j]? = some oj → j ≠ i → listed.getD j true = false → (∀ e ∈ oj.after, Region.binds .any e = true → e.on ≠ i) → oi.apart ops oj = true) →
      i ∈ Region.ready .any ops listed → listed.getD f false = false → YC P ops C oi v a →
      AnyF P ops Q C f fuel (listed.setIfInBounds i true) (a.put oi.dst v) w → AnyF P ops Q C f (fuel + 1) listed a w := by
  have hat : ∀ {fuel : Nat} {listed : Array Bool} {a : Act} {w : World}, listed.getD f false = false → AnyF P ops Q C f fuel (listed.setIfInBounds i true) a w → C w := by
    intro fuel listed a w hf H
    rcases H.at with h | h
    · rw [getD_set_ne false hif, hf] at h; cases h
    · exact h
  intro fuel
  induction fuel with
  | zero =>
    intro listed a w _ hr hf hy H
    refine ⟨.inr (hat hf H), fun h => (by rw [h] at hr; cases hr), fun j hj => ?_⟩
    by_cases hji : j = i
    · subst hji; exact hy.op hi (hat hf H) H
    · have := ready_mono hj hji
      rw [H.2.1] at this
      cases this
  | succ fuel ih =>
    intro listed a w hfree hr hf hy H
    refine ⟨.inr (hat hf H), fun h => (by rw [h] at hr; cases hr), fun j hj => ?_⟩
    by_cases hji : j = i
    · subst hji; exact hy.op hi (hat hf H) H
    · have h1 := H.2.2 j (ready_mono hj hji)
      obtain ⟨hjun, oj, hoj, hall⟩ := mem_ready.1 hj
      have hnot : ∀ e ∈ oj.after, Region.binds .any e = true → e.on ≠ i := fun e he hb heq => by
        have h1 := hall e he hb
        have h0 := (mem_ready.1 hr).1
        rw [heq] at h1
        rcases Nat.lt_or_ge i listed.size with h' | h'
        · simp [h'] at h0 h1; rw [h0] at h1; cases h1
        · simp [Array.getElem?_eq_none h'] at h1
      have hjf : j ≠ f := fun e => by
        subst e
        obtain ⟨e, he, hb, h9⟩ := hdep oj hoj
        exact hnot e he hb h9
      have h2 := opIn_put hoj (hfree j oj hoj hji hjun hnot) (fun cs b => hsel i oi cs b hi) (fun cs b => hsel j oj cs b hoj) hQ hy h1
      have hfree' : ∀ k ok, ops[k]? = some ok → k ≠ i → (listed.setIfInBounds j true).getD k true = false →
          (∀ e ∈ ok.after, Region.binds .any e = true → e.on ≠ i) → oi.apart ops ok = true := fun k ok hk hki hun hno => by
        refine hfree k ok hk hki ?_ hno
        by_cases hjk : j = k
        · subst hjk; exact hjun
        · rw [getD_set_ne true hjk] at hun; exact hun
      refine wpOpIn_mono (fun a' w' h3 => ih (listed.setIfInBounds j true) a' w' hfree' (ready_mono hr (Ne.symm hji)) (by rw [getD_set_ne false hjf]; exact hf) h3.1 ?_) h2
      rw [Array.setIfInBounds_comm _ _ hji]
      exact h3.2

/-- what follows -/
def QF (P : Program) (W : World) (Bo : List Nat) (ops : Array Oper) (Q : Exit → Act → World → Prop) (lp : SH) (f fuel : Nat) (listed : Array Bool) : Exit → Act → World → Prop :=
  fun e a w => e = .normal ∧ AnyF P ops (Q0 Q) (fun w => St W Bo w lp) f fuel listed a w

def DF (P : Program) (n : Nat) (D : List Deferred) (W : World) (Bo : List Nat) (ops : Array Oper) (Q : Exit → Act → World → Prop) (lp : SH) (f fuel : Nat) (listed : Array Bool) (F : List (Nat × Value)) (l : SH) : Prop :=
  Region.noSelect ops = true → ∀ a w, Fr n F D a → St W Bo w l → AnyF P ops (Q0 Q) (fun w => St W Bo w lp) f fuel listed a w

/-- operation i can be taken first, and f waits for it -/
def okF (ops : Array Oper) (f : Nat) (listed : Array Bool) (i : Nat) : Bool :=
  (Region.ready .any ops listed).contains i && (Region.free .any ops listed i && (!Nat.beq i f && (!listed.getD f false && ((ops[f]?).map fun o => o.after.any fun e => Region.binds .any e && Nat.beq e.on i).getD true)))
theorem okF_spec {f i : Nat} {listed : Array Bool} (h : okF ops f listed i = true) : i ∈ Region.ready .any ops listed ∧ Region.free .any ops listed i = true ∧ i ≠ f ∧ listed.getD f false = false ∧ ∀ o, ops[f]? = some o → ∃ e ∈ o.after, Region.binds .any e = true ∧ e.on = i := by
  simp only [okF, Bool.and_eq_true, Bool.not_eq_true', List.contains_iff_mem] at h
  refine ⟨h.1, h.2.1, Nat.ne_of_beq_eq_false h.2.2.1, h.2.2.2.1, fun o ho => ?_⟩
  have h2 := h.2.2.2.2
  rw [ho] at h2
  simp only [Option.map_some, Option.getD_some, Array.any_eq_true'] at h2
  obtain ⟨e, he, hb⟩ := h2
  rw [Bool.and_eq_true] at hb
  exact ⟨e, he, hb.1, Nat.eq_of_beq_eq_true hb.2⟩
end

section
variable {P : Program} {n : Nat} {D : List Deferred} {W : World} {Bo : List Nat} {F F' : List (Nat × Value)} {l l' lp lp' : SH}
  {d : Option Tmp} {dd : Nat} {ty : TypeId} {ps : String} {af : Array Edge} {g : Option (Nat × Bool)} {x y z : Operand} {v u : Value} {ta tb t e : TypeId}
  {Q : Exit → Act → World → Prop} {ops : Array Oper} {rest : List Oper} {td : TypeDesc} {c : Code} {f fuel : Nat} {listed : Array Bool}

theorem c_regF [hm : HM P] (f : Nat) {id : Nat} {os : List Oper} (h : DF P n D W Bo os.toArray Q l f os.length (Array.replicate os.length false) F l) (hs : Region.noSelect os.toArray = true := by kernel_rfl) :
    CP none P n D W Bo (.region id os.toArray true) Q F l := by
  intro a w ha hw
  have h1 := (h hs a w.drew ha hw.drew).any
  have h2 : (Code.region id os.toArray true).wpIn (Fw none) 0 P (Q0 Q) a w := wpIn_region_any hm.h (by simpa using h1)
  exact wpIn_mono h2 fun e a w hq => by obtain ⟨rfl, hq⟩ := hq; exact hq

theorem f_end (h : QP n D W Bo Q .normal F l) (hr : Region.ready .any ops listed = [] := by kernel_rfl) (hf : listed.getD f false = true := by kernel_rfl) : DF P n D W Bo ops Q lp f fuel listed F l := by
  intro hs a w ha hw
  cases fuel with
  | zero => exact ⟨.inl hf, hr, rfl, h a w ha hw⟩
  | succ k => exact ⟨.inl hf, fun _ => ⟨rfl, h a w ha hw⟩, by rw [hr]; simp⟩

theorem f_yc {o : Oper} (i : Nat) (hi : ops[i]? = some o) (hy : ∀ a, Fr n F D a → YC P ops (fun w => St W Bo w lp) o v a) (h : DF P n D W Bo ops Q lp f fuel (listed.setIfInBounds i true) F' l)
    (hF : ∀ a, Fr n F D a → Fr n F' D (a.put o.dst v)) (hok : okF ops f listed i = true) : DF P n D W Bo ops Q lp f (fuel + 1) listed F l := by
  intro hs a w ha hw
  obtain ⟨h1, h2, h3, h4, h5⟩ := okF_spec hok
  exact AnyF.first hi (Region.noSelect_spec hs) (fun c a w hq => by cases hq.1) h3 h5 fuel listed a w (Region.free_spec hi h2) h1 h4 (hy a ha) (h hs _ w (hF a ha) hw)

/-- one that reads -/
theorem f_y {op : Op} (i : Nat) (hi : ops[i]? = some ⟨some dd, op, ty, ps, af, g⟩) (hy : Y P n D W Bo ⟨some dd, op, ty, ps, af, g⟩ F lp v) (h : DF P n D W Bo ops Q lp f fuel (listed.setIfInBounds i true) ((dd, v) :: F) l)
    (hn : Nat.blt dd n = true := by rfl) (hg : Wn ops F g := by first | exact .none | exact .some rfl rfl) (hok : okF ops f listed i = true := by kernel_rfl) : DF P n D W Bo ops Q lp f (fuel + 1) listed F l :=
  f_yc i hi (fun a ha => .inl ⟨hg.wanted rfl ha, fun w hw => hy.2 a w ha hw⟩) h (fun _ ha => ha.put dd v hn) hok
theorem f_no {op : Op} {j ee : Nat} {b b' : Bool} (i : Nat) (hi : ops[i]? = some ⟨some dd, op, ty, ps, af, some (j, b)⟩) (h : DF P n D W Bo ops Q lp f fuel (listed.setIfInBounds i true) ((dd, undef) :: F) l) (hn : Nat.blt dd n = true := by rfl)
    (hj : (ops[j]?).bind (·.dst) = some ee := by rfl) (hv : lkO F ee = some (.bool b') := by rfl) (hb : (b' == b) = false := by rfl) (hok : okF ops f listed i = true := by kernel_rfl) : DF P n D W Bo ops Q lp f (fuel + 1) listed F l :=
  f_yc i hi (fun _ ha => .inr ⟨unwanted_of (o := ⟨some dd, op, ty, ps, af, some (j, b)⟩) rfl hj hv hb ha, rfl⟩) h (fun _ ha => ha.put dd _ hn) hok
theorem f_nu {op : Op} {j ee : Nat} {b : Bool} (i : Nat) (hi : ops[i]? = some ⟨some dd, op, ty, ps, af, some (j, b)⟩) (h : DF P n D W Bo ops Q lp f fuel (listed.setIfInBounds i true) ((dd, undef) :: F) l) (hn : Nat.blt dd n = true := by rfl)
    (hj : (ops[j]?).bind (·.dst) = some ee := by rfl) (hv : lkO F ee = some undef := by rfl) (hok : okF ops f listed i = true := by kernel_rfl) : DF P n D W Bo ops Q lp f (fuel + 1) listed F l :=
  f_yc i hi (fun _ ha => .inr ⟨unwanted_of' (o := ⟨some dd, op, ty, ps, af, some (j, b)⟩) rfl hj hv ha, rfl⟩) h (fun _ ha => ha.put dd _ hn) hok

theorem f_op {o : Oper} {i : Nat} (hi : ops[i]? = some o) {a : Act} {w : World} (h : wpListIn (Fw none) 0 P ops (QF P W Bo ops Q lp f fuel (listed.setIfInBounds i true)) [o] a w) :
    wpOpIn (Fw none) 0 P ops (Q0 Q) i (AnyF P ops (Q0 Q) (fun w => St W Bo w lp) f fuel (listed.setIfInBounds i true)) a w := by
  unfold wpOpIn
  simp only [hi]
  simp only [wpListIn] at h
  split
  · rename_i hw
    rw [if_pos hw] at h
    exact wpIn_monoQ (Q := QF P W Bo ops Q lp f fuel (listed.setIfInBounds i true)) (fun c a w hq => by cases hq.1) (fun hq => by obtain ⟨_, _, h9⟩ := hq; cases h9.1) (Oper.wpIn_mono (fun a w hk => hk.2) h)
  · rename_i hw
    rw [if_neg hw] at h
    exact ⟨h.1, h.2.2⟩

/-- one that makes or changes memory, where no other one could come -/
theorem f_w {o : Oper} (i : Nat) (hi : ops[i]? = some o) (h : LP none P n D W Bo ops (QF P W Bo ops Q lp f fuel (listed.setIfInBounds i true)) [o] F l)
    (hr : Region.ready .any ops listed = [i] := by kernel_rfl) (hsub : lp.Sublist l := by first | exact List.nil_sublist _ | exact List.Sublist.refl _ | exact .cons _ (.refl _) | exact .cons _ (.cons _ (.refl _)) | exact .cons _ (.cons _ (.cons _ (.refl _)))) :
    DF P n D W Bo ops Q lp f (fuel + 1) listed F l := by
  intro hs a w ha hw
  unfold AnyF
  refine ⟨.inr (hw.sub hsub), fun h0 => absurd (hr ▸ h0) (by simp), fun j hj => ?_⟩
  rw [hr, List.mem_singleton] at hj
  subst hj
  exact f_op hi (h a w ha hw)
/-- two of them -/
theorem f_w2 {o o2 : Oper} (i j : Nat) (hi : ops[i]? = some o) (hj : ops[j]? = some o2) (h : LP none P n D W Bo ops (QF P W Bo ops Q lp f fuel (listed.setIfInBounds i true)) [o] F l)
    (h2 : LP none P n D W Bo ops (QF P W Bo ops Q lp f fuel (listed.setIfInBounds j true)) [o2] F l)
    (hr : Region.ready .any ops listed = [i, j] := by kernel_rfl) (hsub : lp.Sublist l := by first | exact List.nil_sublist _ | exact List.Sublist.refl _ | exact .cons _ (.refl _) | exact .cons _ (.cons _ (.refl _)) | exact .cons _ (.cons _ (.cons _ (.refl _)))) :
    DF P n D W Bo ops Q lp f (fuel + 1) listed F l := by
  intro hs a w ha hw
  unfold AnyF
  refine ⟨.inr (hw.sub hsub), fun h0 => absurd (hr ▸ h0) (by simp), fun k hk => ?_⟩
  rw [hr] at hk
  rcases List.mem_cons.1 hk with rfl | hk
  · exact f_op hi (h a w ha hw)
  · rw [List.mem_singleton] at hk
    subst hk
    exact f_op hj (h2 a w ha hw)
/-- and on, with more that is known throughout -/
theorem f_k (h : DF P n D W Bo ops Q l f fuel listed F l) (hs : Region.noSelect ops = true := by kernel_rfl) (hlp : lp.Sublist l := by first | exact List.nil_sublist _ | exact List.Sublist.refl _ | exact .cons _ (.refl _) | exact .cons _ (.cons _ (.refl _)) | exact .cons _ (.cons _ (.cons _ (.refl _)))) :
    LP none P n D W Bo ops (QF P W Bo ops Q lp f fuel listed) [] F l :=
  s_nil fun a w ha hw => ⟨rfl, (h hs a w ha hw).mono fun _ hw => hw.sub hlp⟩
/-- the end, behind the last one -/
theorem f_z (h : QP n D W Bo Q .normal F l) (hr : Region.ready .any ops listed = [] := by kernel_rfl) (hf : listed.getD f false = true := by kernel_rfl) : LP none P n D W Bo ops (QF P W Bo ops Q lp f fuel listed) [] F l :=
  s_nil fun a w ha hw => by
    refine ⟨rfl, ?_⟩
    cases fuel with
    | zero => exact ⟨.inl hf, hr, rfl, h a w ha hw⟩
    | succ k => exact ⟨.inl hf, fun _ => ⟨rfl, h a w ha hw⟩, by rw [hr]; simp⟩
end
end Eng
