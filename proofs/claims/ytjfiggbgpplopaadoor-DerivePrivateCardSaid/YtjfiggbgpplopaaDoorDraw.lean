/- Regions whose order is open, and in which memory is made: operations that only read are taken as early as can be, the others in turn. -/
import Derived.Test.YtjfiggbgpplopaaDoorMore
namespace Eng
open Go Go.RowKit

section
variable {P : Program} {ops : Array Oper} {Q : Exit → Act → World → Prop}

/-- whatever order is picked from here on; at each point the world is of the class C -/
def AnyC (P : Program) (ops : Array Oper) (Q : Exit → Act → World → Prop) (C : World → Prop) : Nat → Array Bool → Act → World → Prop
  | 0, listed, a, w => C w ∧ Region.ready .any ops listed = [] ∧ Q .normal a w
  | fuel + 1, listed, a, w => C w ∧ (Region.ready .any ops listed = [] → Q .normal a w) ∧
    ∀ i ∈ Region.ready .any ops listed, wpOpIn (Fw none) 0 P ops Q i (AnyC P ops Q C fuel (listed.setIfInBounds i true)) a w

theorem AnyC.any {C : World → Prop} : ∀ {fuel : Nat} {listed : Array Bool} {a : Act} {w : World}, AnyC P ops Q C fuel listed a w → wpAnyIn (Fw none) 0 P .any ops Q fuel listed a w
  | 0, _, _, _, h => h.2
  | _ + 1, _, _, _, h => ⟨h.2.1, fun i hi => wpOpIn_mono (fun _ _ h' => AnyC.any h') (h.2.2 i hi)⟩

theorem AnyC.at {C : World → Prop} {fuel : Nat} {listed : Array Bool} {a : Act} {w : World} (h : AnyC P ops Q C fuel listed a w) : C w := by
  cases fuel <;> exact h.1

theorem AnyC.mono {C C' : World → Prop} (hC : ∀ w, C' w → C w) : ∀ {fuel : Nat} {listed : Array Bool} {a : Act} {w : World}, AnyC P ops Q C' fuel listed a w → AnyC P ops Q C fuel listed a w
  | 0, _, _, _, h => ⟨hC _ h.1, h.2⟩
  | _ + 1, _, _, _, h => ⟨hC _ h.1, h.2.1, fun i hi => wpOpIn_mono (fun _ _ h' => AnyC.mono hC h') (h.2.2 i hi)⟩

/-- in every world of the class the operation yields v, or it is not wanted -/
def YC (P : Program) (ops : Array Oper) (C : World → Prop) (o : Oper) (v : Value) (a : Act) : Prop :=
  (Region.wanted o (yielded ops a.tmps) = true ∧ ∀ w, C w → (execOp a.eval o).run P w = .ok (.value v) w) ∨ (Region.wanted o (yielded ops a.tmps) = false ∧ v = undef)

theorem YC.op {C : World → Prop} {i : Nat} {o : Oper} {v : Value} {a : Act} (hi : ops[i]? = some o) (hy : YC P ops C o v a) {K : Act → World → Prop} {w : World} (hw : C w) (h : K (a.put o.dst v) w) :
    wpOpIn (Fw none) 0 P ops Q i K a w := by
  unfold wpOpIn
  simp only [hi]
  rcases hy with ⟨h1, hv⟩ | ⟨h1, rfl⟩
  · simp only [h1, if_true, Oper.wpIn, show (Fw none).round = none from rfl, Oper.semAt_none, hv w hw, Oper.uponIn]; exact ⟨fun _ _ => trivial, h⟩
  · simp only [h1, Bool.false_eq_true, if_false]; exact ⟨fun _ _ => trivial, h⟩

theorem YC.of_same {C : World → Prop} {o : Oper} {v : Value} {a a' : Act} (hy : YC P ops C o v a) (he : execOp a'.eval o = execOp a.eval o)
    (hw : Region.wanted o (yielded ops a'.tmps) = Region.wanted o (yielded ops a.tmps)) : YC P ops C o v a' := by
  unfold YC at *
  rw [he, hw]
  exact hy

theorem opIn_put {C : World → Prop} {j : Nat} {oi oj : Oper} {v : Value} (hj : ops[j]? = some oj) (hap : oi.apart ops oj = true)
    (hsi : ∀ cs b, oi.op ≠ .select cs b) (hsj : ∀ cs b, oj.op ≠ .select cs b)
    (hQ : ∀ c a w, Q (.panic c) (a.put oi.dst v) w → Q (.panic c) a w) {K : Act → World → Prop} {a : Act} {w : World}
    (hy : YC P ops C oi v a) (h : wpOpIn (Fw none) 0 P ops Q j K (a.put oi.dst v) w) :
    wpOpIn (Fw none) 0 P ops Q j (fun a' w' => YC P ops C oi v a' ∧ K (a'.put oi.dst v) w') a w := by
  obtain ⟨h1, h2, h3⟩ := Oper.apart_spec hap
  have hro : (Fw none).round = none := rfl
  have keep : ∀ (a : Act), YC P ops C oi v a → ∀ u, YC P ops C oi v (a.put oj.dst u) := fun a hy u =>
    hy.of_same (execOp_put oi hsi a oj.dst u h3) (wanted_put oi a oj.dst u h3)
  have keepD : ∀ d, YC P ops C oi v { a with defers := d :: a.defers } := fun d => hy.of_same rfl rfl
  unfold wpOpIn at *
  simp only [hj] at *
  rw [wanted_put oj a oi.dst v h1, about_put oj w a oi.dst v h1] at h
  split
  · rename_i hw
    simp only [hw, if_true] at h
    unfold Oper.wpIn at *
    rw [about_put oj w a oi.dst v h1] at h
    refine ⟨h.1, ?_⟩
    have h := h.2
    rw [hro, Oper.semAt_none, execOp_put oj hsj a oi.dst v h1] at h
    rw [hro, Oper.semAt_none]
    generalize (execOp a.eval oj).run P w = r at *
    cases r with
    | ok x w' =>
      cases x <;> simp only [Oper.uponIn] at h ⊢
      case value u => exact ⟨keep a hy u, by rw [← Act.put_comm a v u h2]; exact h⟩
      case skip => exact ⟨keep a hy _, by rw [← Act.put_comm a v undef h2]; exact h⟩
      case defer d =>
        refine ⟨keep _ (keepD d) _, ?_⟩
        rw [← Act.put_comm _ v undef h2, ← Act.put_defers]
        exact h
      case enter f args =>
        refine ⟨h.1, CallsIn.mono h.2 fun e w'' he => ?_⟩
        cases e with
        | returned u => exact ⟨keep a hy u, by rw [← Act.put_comm a v u h2]; exact he⟩
        | panicked c => exact hQ _ _ _ he
        | outgrown => exact he
      case row row args => exact ⟨h.1, RowsIn.mono h.2 fun u w'' he => ⟨keep a hy u, by rw [← Act.put_comm a v u h2]; exact he⟩⟩
      case round l f tmps assign body =>
        refine ⟨h.1, RoundIn.mono h.2 fun e w'' he => ?_⟩
        cases e with
        | returned u => exact ⟨keep a hy u, by rw [← Act.put_comm a v u h2]; exact he⟩
        | panicked c => exact hQ _ _ _ he
        | outgrown => exact he
    | halt x w' =>
      cases x <;> simp only [Oper.uponIn] at h ⊢
      case panic u => exact hQ _ _ _ h
  · rename_i hw
    simp only [hw] at h
    exact ⟨h.1, keep a hy _, by rw [← Act.put_comm a v undef h2]; exact h.2⟩

theorem AnyC.first {C : World → Prop} {i : Nat} {oi : Oper} {v : Value} (hi : ops[i]? = some oi) (hsel : ∀ (j : Nat) (o : Oper) cs b, ops[j]? = some o → o.op ≠ .select cs b)
    (hQ : ∀ c a w, Q (.panic c) (a.put oi.dst v) w → Q (.panic c) a w) :
    ∀ (fuel : Nat) (listed : Array Bool) (a : Act) (w : World),
      (∀ j oj, ops[j]? = some oj → j ≠ i → listed.getD j true = false → (∀ e ∈ oj.after, Region.binds .any e = true → e.on ≠ i) → oi.apart ops oj = true) →
      i ∈ Region.ready .any ops listed → YC P ops C oi v a →
      AnyC P ops Q C fuel (listed.setIfInBounds i true) (a.put oi.dst v) w → AnyC P ops Q C (fuel + 1) listed a w := by
  intro fuel
  induction fuel with
  | zero =>
    intro listed a w _ hr hy H
    refine ⟨H.1, fun h => (by rw [h] at hr; cases hr), fun j hj => ?_⟩
    by_cases hji : j = i
    · subst hji; exact hy.op hi H.1 H
    · have := ready_mono hj hji
      rw [H.2.1] at this
      cases this
  | succ fuel ih =>
    intro listed a w hfree hr hy H
    refine ⟨H.1, fun h => (by rw [h] at hr; cases hr), fun j hj => ?_⟩
    by_cases hji : j = i
    · subst hji; exact hy.op hi H.1 H
    · have h1 := H.2.2 j (ready_mono hj hji)
      obtain ⟨hjun, oj, hoj, hall⟩ := mem_ready.1 hj
      have hnot : ∀ e ∈ oj.after, Region.binds .any e = true → e.on ≠ i := fun e he hb heq => by
        have h1 := hall e he hb
        have h0 := (mem_ready.1 hr).1
        rw [heq] at h1
        rcases Nat.lt_or_ge i listed.size with h' | h'
        · simp [h'] at h0 h1; rw [h0] at h1; cases h1
        · simp [Array.getElem?_eq_none h'] at h1
      have h2 := opIn_put hoj (hfree j oj hoj hji hjun hnot) (fun cs b => hsel i oi cs b hi) (fun cs b => hsel j oj cs b hoj) hQ hy h1
      have hfree' : ∀ k ok, ops[k]? = some ok → k ≠ i → (listed.setIfInBounds j true).getD k true = false →
          (∀ e ∈ ok.after, Region.binds .any e = true → e.on ≠ i) → oi.apart ops ok = true := fun k ok hk hki hun hno => by
        refine hfree k ok hk hki ?_ hno
        by_cases hjk : j = k
        · subst hjk; exact hjun
        · rw [getD_set_ne true hjk] at hun; exact hun
      refine wpOpIn_mono (fun a' w' h3 => ih (listed.setIfInBounds j true) a' w' hfree' (ready_mono hr (Ne.symm hji)) h3.1 ?_) h2
      rw [Array.setIfInBounds_comm _ _ hji]
      exact h3.2

theorem wpIn_monoQ {o : Oper} {a : Act} {w : World} {K : Act → World → Prop} {Q Q' : Exit → Act → World → Prop} (hP : ∀ c a w, Q (.panic c) a w → Q' (.panic c) a w) (hO : LetsOut Q → LetsOut Q')
    (hh : o.wpIn (Fw none) 0 P a w K Q) : o.wpIn (Fw none) 0 P a w K Q' := by
  unfold Oper.wpIn at *
  refine ⟨hh.1, ?_⟩
  have hh := hh.2
  generalize (o.semAt (Fw none).round a.eval).run P w = r at *
  cases r with
  | ok x w' =>
    cases x <;> simp only [Oper.uponIn] at hh ⊢ <;>
      first
        | exact hh
        | exact ⟨hh.1, CallsIn.mono hh.2 (fun e w'' he => by cases e <;> first | exact he | exact hP _ _ _ he | exact hO he)⟩
        | exact ⟨hh.1, RoundIn.mono hh.2 (fun e w'' he => by cases e <;> first | exact he | exact hP _ _ _ he | exact hO he)⟩
  | halt x w' => cases x <;> simp only [Oper.uponIn] at hh ⊢ <;> first | exact hP _ _ _ hh | exact hO hh | exact hh

/-- only the normal end -/
def Q0 (Q : Exit → Act → World → Prop) : Exit → Act → World → Prop := fun e a w => e = .normal ∧ Q .normal a w
/-- what follows in an open region -/
def QK (P : Program) (W : World) (Bo : List Nat) (ops : Array Oper) (Q : Exit → Act → World → Prop) (lp : SH) (fuel : Nat) (listed : Array Bool) : Exit → Act → World → Prop :=
  fun e a w => e = .normal ∧ AnyC P ops (Q0 Q) (fun w => St W Bo w lp) fuel listed a w

def DC (P : Program) (n : Nat) (D : List Deferred) (W : World) (Bo : List Nat) (ops : Array Oper) (Q : Exit → Act → World → Prop) (lp : SH) (fuel : Nat) (listed : Array Bool) (F : List (Nat × Value)) (l : SH) : Prop :=
  Region.noSelect ops = true → ∀ a w, Fr n F D a → St W Bo w l → AnyC P ops (Q0 Q) (fun w => St W Bo w lp) fuel listed a w
end

section
variable {P : Program} {n : Nat} {D : List Deferred} {W : World} {Bo : List Nat} {F F' : List (Nat × Value)} {l l' lp lp' : SH}
  {d : Option Tmp} {dd : Nat} {ty : TypeId} {ps : String} {af : Array Edge} {g : Option (Nat × Bool)} {x y z : Operand} {v u : Value} {ta tb t e : TypeId}
  {Q : Exit → Act → World → Prop} {ops : Array Oper} {rest : List Oper} {td : TypeDesc} {c : Code} {fuel : Nat} {listed : Array Bool}

/-- an open region; lp: what is known of memory throughout -/
theorem c_any [hm : HM P] (lp : SH) {id : Nat} {os : List Oper} (h : DC P n D W Bo os.toArray Q lp os.length (Array.replicate os.length false) F l) (hs : Region.noSelect os.toArray = true := by kernel_rfl) :
    CP none P n D W Bo (.region id os.toArray true) Q F l := by
  intro a w ha hw
  have h1 := (h hs a w.drew ha hw.drew).any
  have h2 : (Code.region id os.toArray true).wpIn (Fw none) 0 P (Q0 Q) a w := wpIn_region_any hm.h (by simpa using h1)
  exact wpIn_mono h2 fun e a w hq => by obtain ⟨rfl, hq⟩ := hq; exact hq

theorem r_end (h : QP n D W Bo Q .normal F l) (hr : Region.ready .any ops listed = [] := by kernel_rfl) (hsub : lp.Sublist l := by first | exact List.nil_sublist _ | exact List.Sublist.refl _ | exact .cons _ (.refl _) | exact .cons _ (.cons _ (.refl _)) | exact .cons _ (.cons _ (.cons _ (.refl _)))) : DC P n D W Bo ops Q lp fuel listed F l := by
  intro hs a w ha hw
  cases fuel with
  | zero => exact ⟨hw.sub hsub, hr, rfl, h a w ha hw⟩
  | succ k => exact ⟨hw.sub hsub, fun _ => ⟨rfl, h a w ha hw⟩, by rw [hr]; simp⟩

theorem r_yc {o : Oper} (i : Nat) (hi : ops[i]? = some o) (hy : ∀ a, Fr n F D a → YC P ops (fun w => St W Bo w lp) o v a) (h : DC P n D W Bo ops Q lp fuel (listed.setIfInBounds i true) F' l)
    (hF : ∀ a, Fr n F D a → Fr n F' D (a.put o.dst v)) (hr : (Region.ready .any ops listed).contains i = true) (hf : Region.free .any ops listed i = true) : DC P n D W Bo ops Q lp (fuel + 1) listed F l := by
  intro hs a w ha hw
  exact AnyC.first hi (Region.noSelect_spec hs) (fun c a w hq => by cases hq.1) fuel listed a w (Region.free_spec hi hf) (by simpa using hr) (hy a ha) (h hs _ w (hF a ha) hw)

/-- one that reads -/
theorem r_y {op : Op} (i : Nat) (hi : ops[i]? = some ⟨some dd, op, ty, ps, af, g⟩) (hy : Y P n D W Bo ⟨some dd, op, ty, ps, af, g⟩ F lp v) (h : DC P n D W Bo ops Q lp fuel (listed.setIfInBounds i true) ((dd, v) :: F) l)
    (hn : Nat.blt dd n = true := by rfl) (hg : Wn ops F g := by first | exact .none | exact .some rfl rfl)
    (hr : (Region.ready .any ops listed).contains i = true := by kernel_rfl) (hf : Region.free .any ops listed i = true := by kernel_rfl) : DC P n D W Bo ops Q lp (fuel + 1) listed F l :=
  r_yc i hi (fun a ha => .inl ⟨hg.wanted rfl ha, fun w hw => hy.2 a w ha hw⟩) h (fun _ ha => ha.put dd v hn) hr hf
theorem r_yt {op : Op} {p : Prop} [dp : Decidable p] (i : Nat) (hi : ops[i]? = some ⟨some dd, op, ty, ps, af, g⟩) (hy : Y P n D W Bo ⟨some dd, op, ty, ps, af, g⟩ F lp (.bool (decide p))) (hp : p) (h : DC P n D W Bo ops Q lp fuel (listed.setIfInBounds i true) ((dd, .bool true) :: F) l)
    (hn : Nat.blt dd n = true := by rfl) (hg : Wn ops F g := by first | exact .none | exact .some rfl rfl)
    (hr : (Region.ready .any ops listed).contains i = true := by kernel_rfl) (hf : Region.free .any ops listed i = true := by kernel_rfl) : DC P n D W Bo ops Q lp (fuel + 1) listed F l :=
  r_y i hi hy (by rw [decide_eq_true hp]; exact h) hn hg hr hf
theorem r_no {op : Op} {j ee : Nat} {b b' : Bool} (i : Nat) (hi : ops[i]? = some ⟨some dd, op, ty, ps, af, some (j, b)⟩) (h : DC P n D W Bo ops Q lp fuel (listed.setIfInBounds i true) ((dd, undef) :: F) l) (hn : Nat.blt dd n = true := by rfl)
    (hj : (ops[j]?).bind (·.dst) = some ee := by rfl) (hv : lkO F ee = some (.bool b') := by rfl) (hb : (b' == b) = false := by rfl)
    (hr : (Region.ready .any ops listed).contains i = true := by kernel_rfl) (hf : Region.free .any ops listed i = true := by kernel_rfl) : DC P n D W Bo ops Q lp (fuel + 1) listed F l :=
  r_yc i hi (fun _ ha => .inr ⟨unwanted_of (o := ⟨some dd, op, ty, ps, af, some (j, b)⟩) rfl hj hv hb ha, rfl⟩) h (fun _ ha => ha.put dd _ hn) hr hf
theorem r_nu {op : Op} {j ee : Nat} {b : Bool} (i : Nat) (hi : ops[i]? = some ⟨some dd, op, ty, ps, af, some (j, b)⟩) (h : DC P n D W Bo ops Q lp fuel (listed.setIfInBounds i true) ((dd, undef) :: F) l) (hn : Nat.blt dd n = true := by rfl)
    (hj : (ops[j]?).bind (·.dst) = some ee := by rfl) (hv : lkO F ee = some undef := by rfl)
    (hr : (Region.ready .any ops listed).contains i = true := by kernel_rfl) (hf : Region.free .any ops listed i = true := by kernel_rfl) : DC P n D W Bo ops Q lp (fuel + 1) listed F l :=
  r_yc i hi (fun _ ha => .inr ⟨unwanted_of' (o := ⟨some dd, op, ty, ps, af, some (j, b)⟩) rfl hj hv ha, rfl⟩) h (fun _ ha => ha.put dd _ hn) hr hf

theorem r_op {o : Oper} {i : Nat} (hi : ops[i]? = some o) {a : Act} {w : World} (h : wpListIn (Fw none) 0 P ops (QK P W Bo ops Q lp fuel (listed.setIfInBounds i true)) [o] a w) :
    wpOpIn (Fw none) 0 P ops (Q0 Q) i (AnyC P ops (Q0 Q) (fun w => St W Bo w lp) fuel (listed.setIfInBounds i true)) a w := by
  unfold wpOpIn
  simp only [hi]
  simp only [wpListIn] at h
  split
  · rename_i hw
    rw [if_pos hw] at h
    exact wpIn_monoQ (Q := QK P W Bo ops Q lp fuel (listed.setIfInBounds i true)) (fun c a w hq => by cases hq.1) (fun hq => by obtain ⟨_, _, h9⟩ := hq; cases h9.1) (Oper.wpIn_mono (fun a w hk => hk.2) h)
  · rename_i hw
    rw [if_neg hw] at h
    exact ⟨h.1, h.2.2⟩

/-- one that makes or changes memory, where no other one could come -/
theorem r_w {o : Oper} (i : Nat) (hi : ops[i]? = some o) (h : LP none P n D W Bo ops (QK P W Bo ops Q lp fuel (listed.setIfInBounds i true)) [o] F l)
    (hr : Region.ready .any ops listed = [i] := by kernel_rfl) (hsub : lp.Sublist l := by first | exact List.nil_sublist _ | exact List.Sublist.refl _ | exact .cons _ (.refl _) | exact .cons _ (.cons _ (.refl _)) | exact .cons _ (.cons _ (.cons _ (.refl _)))) :
    DC P n D W Bo ops Q lp (fuel + 1) listed F l := by
  intro hs a w ha hw
  unfold AnyC
  refine ⟨hw.sub hsub, fun h0 => absurd (hr ▸ h0) (by simp), fun j hj => ?_⟩
  rw [hr, List.mem_singleton] at hj
  subst hj
  exact r_op hi (h a w ha hw)
/-- two of them -/
theorem r_w2 {o o2 : Oper} (i j : Nat) (hi : ops[i]? = some o) (hj : ops[j]? = some o2) (h : LP none P n D W Bo ops (QK P W Bo ops Q lp fuel (listed.setIfInBounds i true)) [o] F l)
    (h2 : LP none P n D W Bo ops (QK P W Bo ops Q lp fuel (listed.setIfInBounds j true)) [o2] F l)
    (hr : Region.ready .any ops listed = [i, j] := by kernel_rfl) (hsub : lp.Sublist l := by first | exact List.nil_sublist _ | exact List.Sublist.refl _ | exact .cons _ (.refl _) | exact .cons _ (.cons _ (.refl _)) | exact .cons _ (.cons _ (.cons _ (.refl _)))) :
    DC P n D W Bo ops Q lp (fuel + 1) listed F l := by
  intro hs a w ha hw
  unfold AnyC
  refine ⟨hw.sub hsub, fun h0 => absurd (hr ▸ h0) (by simp), fun k hk => ?_⟩
  rw [hr] at hk
  rcases List.mem_cons.1 hk with rfl | hk
  · exact r_op hi (h a w ha hw)
  · rw [List.mem_singleton] at hk
    subst hk
    exact r_op hj (h2 a w ha hw)
/-- and on, with more that is known throughout -/
theorem r_k (hs : Region.noSelect ops = true) (lp' : SH) (h : DC P n D W Bo ops Q lp' fuel listed F l) (hlp : lp.Sublist lp') : LP none P n D W Bo ops (QK P W Bo ops Q lp fuel listed) [] F l := by
  refine s_nil ?_
  intro a w ha hw
  exact ⟨rfl, (h hs a w ha hw).mono fun w hw => hw.sub hlp⟩
theorem c_regA [hm : HM P] {id : Nat} {os : List Oper} (h : DC P n D W Bo os.toArray Q l os.length (Array.replicate os.length false) F l) (hs : Region.noSelect os.toArray = true := by kernel_rfl) :
    CP none P n D W Bo (.region id os.toArray true) Q F l := c_any l h hs
theorem r_kl (h : DC P n D W Bo ops Q l fuel listed F l) (hs : Region.noSelect ops = true := by kernel_rfl) (hlp : lp.Sublist l := by first | exact List.nil_sublist _ | exact List.Sublist.refl _ | exact .cons _ (.refl _) | exact .cons _ (.cons _ (.refl _)) | exact .cons _ (.cons _ (.cons _ (.refl _)))) :
    LP none P n D W Bo ops (QK P W Bo ops Q lp fuel listed) [] F l := r_k hs l h hlp
/-- a call or an allocation, by a rule for one operation -/
theorem r_ynf {op : Op} {p : Prop} [dp : Decidable p] (i : Nat) (hi : ops[i]? = some ⟨some dd, op, ty, ps, af, g⟩) (hy : Y P n D W Bo ⟨some dd, op, ty, ps, af, g⟩ F lp (.bool (!decide p))) (hp : p) (h : DC P n D W Bo ops Q lp fuel (listed.setIfInBounds i true) ((dd, .bool false) :: F) l)
    (hn : Nat.blt dd n = true := by rfl) (hg : Wn ops F g := by first | exact .none | exact .some rfl rfl)
    (hr : (Region.ready .any ops listed).contains i = true := by kernel_rfl) (hf : Region.free .any ops listed i = true := by kernel_rfl) : DC P n D W Bo ops Q lp (fuel + 1) listed F l :=
  r_y i hi hy (by rw [decide_eq_true hp]; exact h) hn hg hr hf
end
end Eng
