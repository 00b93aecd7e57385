/- Memory: reading, making and changing it. -/
import Derived.Test.YtjfiggbgpplopaaDoorOps
namespace Eng
open Go Go.RowKit

/-- the cells at an address -/
def Rd (w : World) (a : Option Addr) (xs : List Value) : Prop :=
  xs = [] ∨ ∃ b off cs t fz, a = some ⟨b, off, none⟩ ∧ w.heap[b]? = some (.cells cs t fz) ∧ ∀ i v, xs[i]? = some v → cs[off + i]? = some v

/-- an address, some cells on -/
def ad (a : Option Addr) (i : Nat) : Addr := ⟨(a.getD default).block, (a.getD default).off + i, none⟩

def RdS (W : World) (Bo : List Nat) (l : SH) (a : Option Addr) (xs : List Value) : Prop := ∀ w, St W Bo w l → Rd w a xs

theorem Rd.congr {w w' : World} {a : Option Addr} {xs : List Value} (h : Rd w a xs) (hk : ∀ b, a.map (·.block) = some b → w'.heap[b]? = w.heap[b]?) : Rd w' a xs := by
  rcases h with h | ⟨b, off, cs, t, fz, rfl, h1, h2⟩
  · exact .inl h
  · exact .inr ⟨b, off, cs, t, fz, rfl, (hk b rfl).trans h1, h2⟩

theorem Rd.lt {w : World} {a : Option Addr} {xs : List Value} (h : Rd w a xs) (hne : xs ≠ []) {b : Nat} (hb : a.map (·.block) = some b) : b < w.heap.size := by
  rcases h with h | ⟨b, off, cs, t, fz, rfl, h1, h2⟩
  · exact absurd h hne
  · cases hb; exact (Array.getElem?_eq_some_iff.1 h1).1

theorem Rd.nil (w : World) (a : Option Addr) : Rd w a [] := .inl rfl

theorem Rd.st {W w : World} {l : SH} {a : Option Addr} {xs : List Value} (h : Rd W a xs) (hs : St W [] w l) : Rd w a xs := by
  rcases h with h | ⟨b, off, cs, t, fz, rfl, h1, h2⟩
  · exact .inl h
  · exact .inr ⟨b, off, cs, t, fz, rfl, (hs.old b (Array.getElem?_eq_some_iff.1 h1).1 (by simp)).trans h1, h2⟩

theorem rdW {W : World} {Bo : List Nat} {l : SH} {a : Option Addr} {xs : List Value} (h : Rd W a xs) (hb : ∀ b ∈ Bo, a.map (·.block) ≠ some b) : RdS W Bo l a xs := by
  intro w hw
  rcases h with h | ⟨b, off, cs, t, fz, rfl, h1, h2⟩
  · exact .inl h
  · refine .inr ⟨b, off, cs, t, fz, rfl, (hw.old b (Array.getElem?_eq_some_iff.1 h1).1 ?_).trans h1, h2⟩
    intro hm
    exact hb b hm rfl

theorem rdW0 {W : World} {l : SH} {a : Option Addr} {xs : List Value} (h : Rd W a xs) : RdS W [] l a xs := rdW h (by simp)

theorem rdB {W : World} {Bo : List Nat} {l : SH} {b off : Nat} {cs : Array Value} {t : TypeId} {fz : Nat × Nat} {xs : List Value} (hm : Res.blk b (.cells cs t fz) ∈ l)
    (hx : ∀ i v, xs[i]? = some v → cs[off + i]? = some v) : RdS W Bo l (some ⟨b, off, none⟩) xs :=
  fun _ hw => .inr ⟨b, off, cs, t, fz, rfl, (hw.own _ hm).1, hx⟩

theorem Res.rd {w : World} {a : Option Addr} {c : Nat} {e : TypeId} {s n : Nat} {xs : List Value} (h : (Res.row a c e s n xs).holds w) : Rd w a xs := by
  obtain ⟨h1, h2, h3⟩ := h
  rcases h3 with ⟨rfl, hc⟩ | ⟨g, cur, rfl, h4, h5, h6, h7⟩
  · refine .inl (List.eq_nil_of_length_eq_zero ?_)
    have : n = 0 := by omega
    rw [h1, this, Nat.zero_mul]
  · refine .inr ⟨g, 0, cur, e, (0, 0), rfl, h4, ?_⟩
    intro i v hv
    rw [← h7, List.getElem?_take] at hv
    split at hv
    · simpa using hv
    · cases hv

theorem rdR {W : World} {Bo : List Nat} {l : SH} {a : Option Addr} {c : Nat} {e : TypeId} {s n : Nat} {xs : List Value} (hm : Res.row a c e s n xs ∈ l) : RdS W Bo l a xs :=
  fun _ hw => Res.rd (hw.own _ hm).1

theorem ad_add (a : Option Addr) (i j : Nat) : (ad a i).add j = ad a (i + j) := by
  unfold Addr.add ad
  split
  · simp_all
  · simp [Nat.add_assoc]

theorem addr_add (b o j : Nat) : (⟨b, o, none⟩ : Addr).add j = ⟨b, o + j, none⟩ := by unfold Addr.add; split <;> simp_all

/-- a part of what can be read -/
theorem Rd.drop {w : World} {a : Option Addr} {xs : List Value} (h : Rd w a xs) (k : Nat) : Rd w (a.map (·.add k)) (xs.drop k) := by
  rcases h with rfl | ⟨b, off, cs, t, fz, rfl, h1, h2⟩
  · exact .inl (by simp)
  · refine .inr ⟨b, off + k, cs, t, fz, by simp [addr_add], h1, ?_⟩
    intro i v hv
    rw [List.getElem?_drop] at hv
    have := h2 _ _ hv
    rw [← this]; congr 1; omega

theorem Rd.take {w : World} {a : Option Addr} {xs : List Value} (h : Rd w a xs) (k : Nat) : Rd w a (xs.take k) := by
  rcases h with rfl | ⟨b, off, cs, t, fz, rfl, h1, h2⟩
  · exact .inl (by simp)
  · refine .inr ⟨b, off, cs, t, fz, rfl, h1, ?_⟩
    intro i v hv
    rw [List.getElem?_take] at hv
    split at hv
    · exact h2 _ _ hv
    · cases hv

theorem RdS.drop {W : World} {Bo : List Nat} {l : SH} {a : Option Addr} {xs : List Value} (h : RdS W Bo l a xs) (k : Nat) : RdS W Bo l (a.map (·.add k)) (xs.drop k) := fun w hw => (h w hw).drop k
theorem RdS.take {W : World} {Bo : List Nat} {l : SH} {a : Option Addr} {xs : List Value} (h : RdS W Bo l a xs) (k : Nat) : RdS W Bo l a (xs.take k) := fun w hw => (h w hw).take k

theorem Rd.cell {w : World} {a : Option Addr} {xs : List Value} (h : Rd w a xs) {i : Nat} {v : Value} (hv : xs[i]? = some v) :
    a = some (ad a 0) ∧ w.cell? (ad a i) = some v := by
  rcases h with rfl | ⟨b, off, cs, t, fz, rfl, h1, h2⟩
  · simp at hv
  · refine ⟨rfl, ?_⟩
    simp only [ad, Option.getD_some]
    rw [cell_of_row w b (off + i) cs t fz h1]
    exact h2 _ _ hv

theorem run_isAgg {P : Program} {t : TypeId} {b : Bool} (h : HT P t b) (w : World) : (isAgg t).run P w = .ok (!b) w := by
  obtain ⟨d, hu, rfl⟩ := h.h
  unfold isAgg
  simp only [Sem.run_bind, run_underlying hu, Result.andThen_ok]
  cases d <;> rfl
theorem run_sizeOf' {P : Program} {t : TypeId} {s b : Nat} (h : HS P t s b) (w : World) : (Go.sizeOf t).run P w = .ok s w := by
  obtain ⟨i, h1, h2, _⟩ := h.h
  simp [Go.sizeOf, typeInfo, h1, h2]

theorem run_loadCells' {P : Program} {w : World} {a : Addr} {cs : List Value} (h : ∀ j v, cs[j]? = some v → w.cell? (a.add j) = some v) : (loadCells a cs.length).run P w = .ok cs.toArray w :=
  run_loadCells_list w a cs h

/-- the values of operands -/
theorem evs {F : List (Nat × Value)} {n : Nat} {D : List Deferred} {a : Act} (ha : Fr n F D a) {as : Array Operand} {vs : List Value} (h : evL F as.toList = some vs) : as.map a.eval = vs.toArray := by
  have key : ∀ (as : List Operand) (fs : List Value), as.map (evO F) = fs.map some → as.map a.eval = fs := by
    intro as
    induction as with
    | nil => intro fs h; cases fs with
      | nil => rfl
      | cons _ _ => simp at h
    | cons x as ih => intro fs h; cases fs with
      | nil => simp at h
      | cons v fs => simp at h; simp [ha.eval h.1, ih fs h.2]
  rw [← Array.toList_inj]; simp [key _ _ (evL_map h)]

/-- bytes, as cells -/
def bs (l : List UInt8) : List Value := l.map B
theorem bs_length (l : List UInt8) : (bs l).length = l.length := by simp [bs]
theorem bs_get {l : List UInt8} {i : Nat} (h : i < l.length) : (bs l)[i]? = some (B (l.getD i 0)) := by
  simp [bs, List.getElem?_map, List.getElem?_eq_getElem h, List.getD_eq_getElem?_getD]
/-- ints, as cells -/
def is (l : List Int) : List Value := l.map I
theorem is_length (l : List Int) : (is l).length = l.length := by simp [is]
theorem is_get {l : List Int} {i : Nat} (h : i < l.length) : (is l)[i]? = some (I (l.getD i 0)) := by
  simp [is, List.getElem?_map, List.getElem?_eq_getElem h, List.getD_eq_getElem?_getD]
/-- words, as cells -/
def ws (l : List UInt32) : List Value := l.map W32
theorem ws_length (l : List UInt32) : (ws l).length = l.length := by simp [ws]
theorem ws_get {l : List UInt32} {i : Nat} (h : i < l.length) : (ws l)[i]? = some (W32 (l.getD i 0)) := by
  simp [ws, List.getElem?_map, List.getElem?_eq_getElem h, List.getD_eq_getElem?_getD]

section
variable {r : Option Nat} {P : Program} {n : Nat} {D : List Deferred} {W : World} {Bo : List Nat} {F : List (Nat × Value)} {l l' : SH}
  {d : Option Tmp} {dd : Nat} {ty : TypeId} {ps : String} {af : Array Edge} {g : Option (Nat × Bool)} {x y z : Operand} {v u : Value} {ta tb t e : TypeId}
  {Q : Exit → Act → World → Prop} {ops : Array Oper} {rest : List Oper} {td : TypeDesc}

/-! loads -/

theorem ld_flat (hu : HT P t true) {w : World} {a : Addr} (hc : w.cell? a = some v) : (Instr.loadAt t (.pointer (some a))).run P w = .ok v w := by
  simp [Instr.loadAt, Instr.sureAddr, loadVar, run_isAgg hu, hc]
theorem ld_agg (hu : HT P t false) {s b : Nat} (hs : HS P t s b) {w : World} {a : Addr} {cs : List Value} (hl : cs.length = s) (hc : ∀ j v, cs[j]? = some v → w.cell? (a.add j) = some v) :
    (Instr.loadAt t (.pointer (some a))).run P w = .ok (.agg cs.toArray) w := by
  subst hl
  simp [Instr.loadAt, Instr.sureAddr, loadVar, run_isAgg hu, run_sizeOf' hs, run_loadCells' hc]

theorem y_ld0 {p : Value} (hx : evO F x = some p) (h : ∀ w, St W Bo w l → (Instr.loadAt t p).run P w = .ok v w) : Y P n D W Bo ⟨d, .load t x, ty, ps, af, g⟩ F l v :=
  .mk (by simp) fun a w ha hw => by
    simp only [execOp, ha.eval hx, Sem.run_bind, h w hw]; rfl

/-- one cell of a known block -/
theorem y_ld [hu : HT P t true] {b off : Nat} {cs : Array Value} {et : TypeId} {fz : Nat × Nat} (hx : evO F x = some (.pointer (some ⟨b, off, none⟩)) := by rfl)
    (hm : Res.blk b (.cells cs et fz) ∈ l := by repeat (first | exact .head _ | apply List.Mem.tail)) (hv : cs[off]? = some v := by rfl) :
    Y P n D W Bo ⟨d, .load t x, ty, ps, af, g⟩ F l v :=
  y_ld0 hx fun w hw => ld_flat hu (by rw [cell_of_row w b off cs et fz (hw.own _ hm).1]; exact hv)

/-- one cell of what can be read -/
theorem y_ldr [hu : HT P t true] {a : Option Addr} {i : Nat} {xs : List Value} (hv : xs[i]? = some v) (hx : evO F x = some (.pointer (some (ad a i))) := by rfl)
    (hr : RdS W Bo l a xs := by first | exact rdW0 (by assumption) | exact rdR (by repeat (first | exact .head _ | apply List.Mem.tail)) | assumption) : Y P n D W Bo ⟨d, .load t x, ty, ps, af, g⟩ F l v :=
  y_ld0 hx fun w hw => ld_flat hu ((hr w hw).cell hv).2

theorem y_ldb [hu : HT P t true] {a : Option Addr} {i : Nat} {q : List UInt8} (hx : evO F x = some (.pointer (some (ad a i))) := by rfl) (hr : RdS W Bo l a (bs q) := by first | exact rdW0 (by assumption) | exact rdR (by repeat (first | exact .head _ | apply List.Mem.tail)) | assumption) (hi : i < q.length := by omega) :
    Y P n D W Bo ⟨d, .load t x, ty, ps, af, g⟩ F l (B (q.getD i 0)) := y_ldr (bs_get hi) hx hr
theorem y_ldi [hu : HT P t true] {a : Option Addr} {i : Nat} {q : List Int} (hx : evO F x = some (.pointer (some (ad a i))) := by rfl) (hr : RdS W Bo l a (is q) := by first | exact rdW0 (by assumption) | exact rdR (by repeat (first | exact .head _ | apply List.Mem.tail)) | assumption) (hi : i < q.length := by omega) :
    Y P n D W Bo ⟨d, .load t x, ty, ps, af, g⟩ F l (I (q.getD i 0)) := y_ldr (is_get hi) hx hr
theorem y_ldw [hu : HT P t true] {a : Option Addr} {i : Nat} {q : List UInt32} (hx : evO F x = some (.pointer (some (ad a i))) := by rfl) (hr : RdS W Bo l a (ws q) := by first | exact rdW0 (by assumption) | exact rdR (by repeat (first | exact .head _ | apply List.Mem.tail)) | assumption) (hi : i < q.length := by omega) :
    Y P n D W Bo ⟨d, .load t x, ty, ps, af, g⟩ F l (W32 (q.getD i 0)) := y_ldr (ws_get hi) hx hr

/-- a whole block -/
theorem y_lda [hu : HT P t false] {b : Nat} {cs : Array Value} {et : TypeId} {fz : Nat × Nat} {s by' : Nat} [hs : HS P t s by'] (hx : evO F x = some (.pointer (some ⟨b, 0, none⟩)) := by rfl)
    (hm : Res.blk b (.cells cs et fz) ∈ l := by repeat (first | exact .head _ | apply List.Mem.tail)) (hl : cs.size = s := by rfl) :
    Y P n D W Bo ⟨d, .load t x, ty, ps, af, g⟩ F l (.agg cs) :=
  y_ld0 hx fun w hw => by
    have := ld_agg (w := w) (a := ⟨b, 0, none⟩) (cs := cs.toList) hu hs (by simpa using hl) (fun j v hv => by
      rw [addr_add, cell_of_row w b _ cs et fz (hw.own _ hm).1]; simpa using hv)
    simpa using this

/-- some cells of what can be read, as a struct or an array -/
theorem y_ldra [hu : HT P t false] {s by' : Nat} [hs : HS P t s by'] {a : Option Addr} {i : Nat} {xs cs : List Value} (hr : RdS W Bo l a xs) (hl : cs.length = s) (hv : ∀ j v, cs[j]? = some v → xs[i + j]? = some v)
    (hx : evO F x = some (.pointer (some (ad a i))) := by rfl) : Y P n D W Bo ⟨d, .load t x, ty, ps, af, g⟩ F l (.agg cs.toArray) :=
  y_ld0 hx fun w hw => ld_agg hu hs hl fun j v h => by
    rw [ad_add]; exact ((hr w hw).cell (hv j v h)).2

/-! addresses -/

theorem y_nc {a : Addr} (hx : evO F x = some (.pointer (some a)) := by rfl) : Y P n D W Bo ⟨d, .nilCheck x, ty, ps, af, g⟩ F l (.pointer (some a)) :=
  .mk (by simp) fun a w ha hw => by simp only [execOp, ha.eval hx]; rfl

theorem run_fieldAt {i ft off : Nat} (hu : HD P t i ft off) {s by' : Nat} (hs : HS P ft s by') (h0 : s ≠ 0) (a : Addr) (w : World) :
    (Instr.fieldAt t (.pointer (some a)) i).run P w = .ok (.pointer (some (a.add off))) w := by
  obtain ⟨fs, f, h1, h2, rfl, rfl⟩ := hu.h
  simp [Instr.fieldAt, run_underlying h1, h2, Instr.sureAddr, fieldPlace, run_sizeOf' hs, h0]

/-- a field of a struct in a known place -/
theorem y_fa {i ft fo : Nat} [hu : HD P t i ft fo] {b off : Nat} {s by' : Nat} [hs : HS P ft s by'] (hx : evO F x = some (.pointer (some ⟨b, off, none⟩)) := by rfl)
    (h0 : s ≠ 0 := by decide) : Y P n D W Bo ⟨d, .fieldAddr t x i, ty, ps, af, g⟩ F l (.pointer (some ⟨b, off + fo, none⟩)) :=
  .mk (by simp) fun a w ha hw => by
    simp only [execOp, ha.eval hx, Sem.run_bind, run_fieldAt hu hs h0, addr_add]; rfl
theorem y_far {i ft fo : Nat} [hu : HD P t i ft fo] {k : Nat} {a : Option Addr} {s by' : Nat} [hs : HS P ft s by'] (hx : evO F x = some (.pointer (some (ad a k))) := by rfl)
    (h0 : s ≠ 0 := by decide) : Y P n D W Bo ⟨d, .fieldAddr t x i, ty, ps, af, g⟩ F l (.pointer (some (ad a (k + fo)))) :=
  .mk (by simp) fun a w ha hw => by
    simp only [execOp, ha.eval hx, Sem.run_bind, run_fieldAt hu hs h0, ad_add]; rfl

theorem run_indexAt_slice (hu : P.underlying t = some (.slice e)) {s by' : Nat} (hs : HS P e s by') {a : Addr} {m c : Nat} {k : IntKind} {i : Int} (h0 : 0 ≤ i) (h1 : i < m) (w : World) :
    (Instr.indexAt t (.slice (some a) m c) (.int k i)).run P w = .ok (.pointer (some (a.add (i.toNat * s)))) w := by
  simp [Instr.indexAt, asIntOf, run_underlying hu, h0, h1, run_sizeOf' hs]
theorem run_indexAt_array {m : Nat} (hu : P.underlying t = some (.array m e)) {s by' : Nat} (hs : HS P e s by') {a : Addr} {k : IntKind} {i : Int} (h0 : 0 ≤ i) (h1 : i < m) (w : World) :
    (Instr.indexAt t (.pointer (some a)) (.int k i)).run P w = .ok (.pointer (some (a.add (i.toNat * s)))) w := by
  simp [Instr.indexAt, asIntOf, run_underlying hu, h0, h1, run_sizeOf' hs, Instr.sureAddr]

/-- an element of a slice in a known place -/
theorem y_ixb [hu : HU P t (.slice e)] {s by' : Nat} [hs : HS P e s by'] {b off m c : Nat} {k : IntKind} {i : Int} (hx : evO F x = some (.slice (some ⟨b, off, none⟩) m c) := by rfl) (hy : evO F y = some (.int k i) := by rfl)
    (h0 : 0 ≤ i := by omega) (h1 : i < m := by omega) : Y P n D W Bo ⟨d, .indexAddr t x y, ty, ps, af, g⟩ F l (.pointer (some ⟨b, off + i.toNat * s, none⟩)) :=
  .mk (by simp) fun a w ha hw => by
    simp only [execOp, ha.eval hx, ha.eval hy, Sem.run_bind, run_indexAt_slice hu.h hs h0 h1, addr_add]; rfl
/-- an element of an array in a known place -/
theorem y_ixa {m : Nat} [hu : HU P t (.array m e)] {s by' : Nat} [hs : HS P e s by'] {b off : Nat} {k : IntKind} {i : Int} (hx : evO F x = some (.pointer (some ⟨b, off, none⟩)) := by rfl) (hy : evO F y = some (.int k i) := by rfl)
    (h0 : 0 ≤ i := by omega) (h1 : i < m := by omega) : Y P n D W Bo ⟨d, .indexAddr t x y, ty, ps, af, g⟩ F l (.pointer (some ⟨b, off + i.toNat * s, none⟩)) :=
  .mk (by simp) fun a w ha hw => by
    simp only [execOp, ha.eval hx, ha.eval hy, Sem.run_bind, run_indexAt_array hu.h hs h0 h1, addr_add]; rfl
theorem y_ixar {m : Nat} [hu : HU P t (.array m e)] {s by' : Nat} [hs : HS P e s by'] {a : Option Addr} {j : Nat} {k : IntKind} {i : Int} (hx : evO F x = some (.pointer (some (ad a j))) := by rfl) (hy : evO F y = some (.int k i) := by rfl)
    (h0 : 0 ≤ i := by omega) (h1 : i < m := by omega) : Y P n D W Bo ⟨d, .indexAddr t x y, ty, ps, af, g⟩ F l (.pointer (some (ad a (j + i.toNat * s)))) :=
  .mk (by simp) fun a w ha hw => by
    simp only [execOp, ha.eval hx, ha.eval hy, Sem.run_bind, run_indexAt_array hu.h hs h0 h1, ad_add]; rfl
/-- an element of a slice that can be read -/
theorem y_ixs [hu : HU P t (.slice e)] {s by' : Nat} [hs : HS P e s by'] {a : Option Addr} {xs : List Value} {m c : Nat} {k : IntKind} {i : Int}
    (hx : evO F x = some (.slice a m c) := by rfl) (hy : evO F y = some (.int k i) := by rfl) (hr : RdS W Bo l a xs := by first | exact rdW0 (by assumption) | exact rdR (by repeat (first | exact .head _ | apply List.Mem.tail)) | assumption)
    (h0 : 0 ≤ i := by omega) (h1 : i < m := by omega) (hl : m ≤ xs.length := by first | omega | (simp; omega)) :
    Y P n D W Bo ⟨d, .indexAddr t x y, ty, ps, af, g⟩ F l (.pointer (some (ad a (i.toNat * s)))) :=
  .mk (by simp) fun ac w ha hw => by
    obtain ⟨v, hv⟩ : ∃ v, xs[0]? = some v := ⟨xs[0]'(by omega), List.getElem?_eq_getElem (by omega)⟩
    have e1 := ((hr w hw).cell hv).1
    have : (Instr.indexAt t (.slice a m c) (.int k i)).run P w = .ok (.pointer (some (ad a (i.toNat * s)))) w := by
      rw [e1, run_indexAt_slice hu.h hs h0 h1, ad_add, ← e1, Nat.zero_add]
    simp only [execOp, ha.eval hx, ha.eval hy, Sem.run_bind, this]; rfl

/-- the same where an element is one cell -/
theorem y_ixs1 [hu : HU P t (.slice e)] {by' : Nat} [hs : HS P e 1 by'] {a : Option Addr} {xs : List Value} {m c : Nat} {k : IntKind} {i : Int}
    (hx : evO F x = some (.slice a m c) := by rfl) (hy : evO F y = some (.int k i) := by rfl) (hr : RdS W Bo l a xs := by first | exact rdW0 (by assumption) | exact rdR (by repeat (first | exact .head _ | apply List.Mem.tail)) | assumption)
    (h0 : 0 ≤ i := by omega) (h1 : i < m := by omega) (hl : m ≤ xs.length := by first | omega | (simp only [bs_length, is_length, ws_length]; omega)) :
    Y P n D W Bo ⟨d, .indexAddr t x y, ty, ps, af, g⟩ F l (.pointer (some (ad a i.toNat))) := by
  have := y_ixs (t := t) (e := e) (P := P) (n := n) (D := D) (d := d) (ty := ty) (ps := ps) (af := af) (g := g) hx hy hr h0 h1 hl
  rwa [Nat.mul_one] at this
theorem y_ixb1 [hu : HU P t (.slice e)] {by' : Nat} [hs : HS P e 1 by'] {b off m c : Nat} {k : IntKind} {i : Int} (hx : evO F x = some (.slice (some ⟨b, off, none⟩) m c) := by rfl) (hy : evO F y = some (.int k i) := by rfl)
    (h0 : 0 ≤ i := by omega) (h1 : i < m := by omega) : Y P n D W Bo ⟨d, .indexAddr t x y, ty, ps, af, g⟩ F l (.pointer (some ⟨b, off + i.toNat, none⟩)) := by
  have := y_ixb (t := t) (e := e) (P := P) (n := n) (D := D) (d := d) (ty := ty) (ps := ps) (af := af) (g := g) (W := W) (Bo := Bo) (l := l) hx hy h0 h1
  rwa [Nat.mul_one] at this
theorem y_ixa1 {m : Nat} [hu : HU P t (.array m e)] {by' : Nat} [hs : HS P e 1 by'] {b off : Nat} {k : IntKind} {i : Int} (hx : evO F x = some (.pointer (some ⟨b, off, none⟩)) := by rfl) (hy : evO F y = some (.int k i) := by rfl)
    (h0 : 0 ≤ i := by omega) (h1 : i < m := by omega) : Y P n D W Bo ⟨d, .indexAddr t x y, ty, ps, af, g⟩ F l (.pointer (some ⟨b, off + i.toNat, none⟩)) := by
  have := y_ixa (t := t) (e := e) (P := P) (n := n) (D := D) (d := d) (ty := ty) (ps := ps) (af := af) (g := g) (W := W) (Bo := Bo) (l := l) hx hy h0 h1
  rwa [Nat.mul_one] at this

/-! slices of slices -/

/-- the address of a slice that begins later -/
def sa (a : Option Addr) (i c s : Nat) : Option Addr := if c = i then a else a.map (·.add (i * s))

theorem RdS.sa {a : Option Addr} {xs : List Value} (h : RdS W Bo l a xs) {i c s : Nat} (hl : xs.length ≤ c * s) : RdS W Bo l (Eng.sa a i c s) (xs.drop (i * s)) := by
  unfold Eng.sa
  split
  · rename_i e
    subst e
    rw [List.drop_eq_nil_of_le hl]
    exact fun w _ => .inl rfl
  · exact h.drop _

theorem sa_lt {b off i c s : Nat} (h : i < c) : sa (some ⟨b, off, none⟩) i c s = some ⟨b, off + i * s, none⟩ := by
  unfold sa; rw [if_neg (by omega)]; simp [addr_add]
theorem sa_zero {a : Option Addr} {c s : Nat} : sa a 0 c s = a := by
  unfold sa; split
  · rfl
  · cases a <;> simp [Addr.add]

theorem y_sll [hu : HU P t (.slice e)] {s by' : Nat} [hs : HS P e s by'] {a : Option Addr} {m c : Nat} {k : IntKind} {i : Int} (hx : evO F x = some (.slice a m c) := by rfl) (hy : evO F y = some (.int k i) := by rfl)
    (h0 : 0 ≤ i := by omega) (h1 : i ≤ m := by omega) : Y P n D W Bo ⟨d, .slice t x (some y) none none, ty, ps, af, g⟩ F l (.slice (sa a i.toNat c s) (m - i.toNat) (c - i.toNat)) :=
  .mk (by simp) fun ac w ha hw => by
    have e1 : (Instr.sliceBound (.int k i) m .sliceB).run P w = .ok i.toNat w := run_sliceBound w k i m _ h0 h1
    simp only [execOp, ha.eval hx, Option.map, ha.eval hy, Sem.run_bind, Instr.sliceAt, Instr.slice, run_underlying hu.h, Result.andThen_ok, Instr.sliceBounds, Sem.run_pure, run_sizeOf' hs]
    rw [show (if (none : Option Value).isSome = true then BoundsCode.slice3C else BoundsCode.sliceB) = .sliceB from rfl, e1]
    rfl
theorem y_slh [hu : HU P t (.slice e)] {s by' : Nat} [hs : HS P e s by'] {a : Option Addr} {m c : Nat} {k : IntKind} {j : Int} (hx : evO F x = some (.slice a m c) := by rfl) (hy : evO F y = some (.int k j) := by rfl)
    (h0 : 0 ≤ j := by omega) (h1 : j ≤ c := by omega) : Y P n D W Bo ⟨d, .slice t x none (some y) none, ty, ps, af, g⟩ F l (.slice a j.toNat c) :=
  .mk (by simp) fun ac w ha hw => by
    have e1 : (Instr.sliceBound (.int k j) c .sliceAcap).run P w = .ok j.toNat w := run_sliceBound w k j c _ h0 h1
    have e2 := sa_zero (a := a) (c := c) (s := s)
    unfold sa at e2
    simp only [execOp, ha.eval hx, Option.map, ha.eval hy, Sem.run_bind, Instr.sliceAt, Instr.slice, run_underlying hu.h, Result.andThen_ok, Instr.sliceBounds, Sem.run_pure, e1, run_sizeOf' hs, if_true]
    simp only [Option.map] at e2
    rw [e2]
    rfl
theorem y_sllh [hu : HU P t (.slice e)] {s by' : Nat} [hs : HS P e s by'] {a : Option Addr} {m c : Nat} {k k' : IntKind} {i j : Int} (hx : evO F x = some (.slice a m c) := by rfl) (hy : evO F y = some (.int k i) := by rfl) (hz : evO F z = some (.int k' j) := by rfl)
    (h0 : 0 ≤ i := by omega) (h1 : i ≤ j := by omega) (h2 : j ≤ c := by omega) : Y P n D W Bo ⟨d, .slice t x (some y) (some z) none, ty, ps, af, g⟩ F l (.slice (sa a i.toNat c s) (j.toNat - i.toNat) (c - i.toNat)) :=
  .mk (by simp) fun ac w ha hw => by
    have e1 : (Instr.sliceBound (.int k' j) c .sliceAcap).run P w = .ok j.toNat w := run_sliceBound w k' j c _ (by omega) h2
    have e2 : (Instr.sliceBound (.int k i) j.toNat .sliceB).run P w = .ok i.toNat w := run_sliceBound w k i j.toNat _ h0 (by omega)
    simp only [execOp, ha.eval hx, Option.map, ha.eval hy, ha.eval hz, Sem.run_bind, Instr.sliceAt, Instr.slice, run_underlying hu.h, Result.andThen_ok, Instr.sliceBounds, Sem.run_pure, e1, run_sizeOf' hs, if_true]
    simp only [Option.isSome]
    rw [show (if false = true then BoundsCode.slice3C else BoundsCode.sliceB) = .sliceB from rfl, e2]
    rfl
/-- a slice of a whole array -/
theorem y_sla {m : Nat} [hu : HU P t (.array m e)] {s by' : Nat} [hs : HS P e s by'] {b off : Nat} (hx : evO F x = some (.pointer (some ⟨b, off, none⟩)) := by rfl) :
    Y P n D W Bo ⟨d, .slice t x none none none, ty, ps, af, g⟩ F l (.slice (some ⟨b, off, none⟩) m m) :=
  .mk (by simp) fun ac w ha hw => by
    simp only [execOp, ha.eval hx, Option.map, Sem.run_bind, Instr.sliceAt, run_underlying hu.h, Result.andThen_ok, Instr.sliceBounds, Sem.run_pure, run_sizeOf' hs, Instr.sureAddr]
    simp [addr_add]
theorem y_slalh {m : Nat} [hu : HU P t (.array m e)] {s by' : Nat} [hs : HS P e s by'] {b off : Nat} {k k' : IntKind} {i j : Int} (hx : evO F x = some (.pointer (some ⟨b, off, none⟩)) := by rfl) (hy : evO F y = some (.int k i) := by rfl) (hz : evO F z = some (.int k' j) := by rfl)
    (h0 : 0 ≤ i := by omega) (h1 : i ≤ j := by omega) (h2 : j ≤ m := by omega) (h3 : i < m := by omega) : Y P n D W Bo ⟨d, .slice t x (some y) (some z) none, ty, ps, af, g⟩ F l (.slice (some ⟨b, off + i.toNat * s, none⟩) (j.toNat - i.toNat) (m - i.toNat)) :=
  .mk (by simp) fun ac w ha hw => by
    have e1 : (Instr.sliceBound (.int k' j) m .sliceAlen).run P w = .ok j.toNat w := run_sliceBound w k' j m _ (by omega) h2
    have e2 : (Instr.sliceBound (.int k i) j.toNat .sliceB).run P w = .ok i.toNat w := run_sliceBound w k i j.toNat _ h0 (by omega)
    have e3 : ¬ (m = i.toNat) := by omega
    simp only [execOp, ha.eval hx, Option.map, ha.eval hy, ha.eval hz, Sem.run_bind, Instr.sliceAt, run_underlying hu.h, Result.andThen_ok, Instr.sliceBounds, Sem.run_pure, run_sizeOf' hs, Instr.sureAddr]
    simp only [Bool.false_eq_true, if_false, e1, Result.andThen_ok, Option.isSome, e2, e3, addr_add]
theorem y_slal {m : Nat} [hu : HU P t (.array m e)] {s by' : Nat} [hs : HS P e s by'] {b off : Nat} {k : IntKind} {i : Int} (hx : evO F x = some (.pointer (some ⟨b, off, none⟩)) := by rfl) (hy : evO F y = some (.int k i) := by rfl)
    (h0 : 0 ≤ i := by omega) (h3 : i < m := by omega) : Y P n D W Bo ⟨d, .slice t x (some y) none none, ty, ps, af, g⟩ F l (.slice (some ⟨b, off + i.toNat * s, none⟩) (m - i.toNat) (m - i.toNat)) :=
  .mk (by simp) fun ac w ha hw => by
    have e2 : (Instr.sliceBound (.int k i) m .sliceB).run P w = .ok i.toNat w := run_sliceBound w k i m _ h0 (by omega)
    have e3 : ¬ (m = i.toNat) := by omega
    simp only [execOp, ha.eval hx, Option.map, ha.eval hy, Sem.run_bind, Instr.sliceAt, run_underlying hu.h, Result.andThen_ok, Instr.sliceBounds, Sem.run_pure, run_sizeOf' hs, Instr.sureAddr]
    simp only [Bool.false_eq_true, if_false, Result.andThen_ok, Option.isSome, e2, e3, addr_add]
theorem y_slah {m : Nat} [hu : HU P t (.array m e)] {s by' : Nat} [hs : HS P e s by'] {b off : Nat} {k : IntKind} {j : Int} (hx : evO F x = some (.pointer (some ⟨b, off, none⟩)) := by rfl) (hy : evO F y = some (.int k j) := by rfl)
    (h0 : 0 ≤ j := by omega) (h3 : j ≤ m := by omega) : Y P n D W Bo ⟨d, .slice t x none (some y) none, ty, ps, af, g⟩ F l (.slice (some ⟨b, off, none⟩) j.toNat m) :=
  .mk (by simp) fun ac w ha hw => by
    have e2 : (Instr.sliceBound (.int k j) m .sliceAlen).run P w = .ok j.toNat w := run_sliceBound w k j m _ h0 h3
    simp only [execOp, ha.eval hx, Option.map, ha.eval hy, Sem.run_bind, Instr.sliceAt, run_underlying hu.h, Result.andThen_ok, Instr.sliceBounds, Sem.run_pure, run_sizeOf' hs, Instr.sureAddr]
    simp [e2, addr_add]

/-! builtins that only read -/
theorem y_b {b : Builtin} {as : Array Operand} {ts : Array TypeId} {vs : List Value} (hargs : evL F as.toList = some vs)
    (h : ∀ w, St W Bo w l → ∀ cs, (builtin b ts ty cs vs.toArray).run P w = .ok (.value v) w) : Y P n D W Bo ⟨d, .call ⟨.builtin b, as, ts⟩, ty, ps, af, g⟩ F l v :=
  .mk (by simp) fun a w ha hw => by
    simp only [execOp, resolve, evs ha hargs, Sem.run_bind, Sem.run_pure, Result.andThen_ok, invoke, h w hw]

theorem y_len [hu : HU P t (.slice e)] {a : Option Addr} {m c : Nat} (hx : evO F x = some (.slice a m c) := by rfl) : Y P n D W Bo ⟨d, .call ⟨.builtin .len, #[x], #[t]⟩, ty, ps, af, g⟩ F l (I m) :=
  y_b (vs := [.slice a m c]) (by simp [evL, hx]) fun w _ cs => by simp [builtin, Builtin.len_, run_underlying hu.h, goInt]
theorem y_cap [hu : HU P t (.slice e)] {a : Option Addr} {m c : Nat} (hx : evO F x = some (.slice a m c) := by rfl) : Y P n D W Bo ⟨d, .call ⟨.builtin .cap, #[x], #[t]⟩, ty, ps, af, g⟩ F l (I c) :=
  y_b (vs := [.slice a m c]) (by simp [evL, hx]) fun w _ cs => by simp [builtin, Builtin.cap_, run_underlying hu.h, goInt]
theorem y_lens [hu : HU P t .string] {s : ByteArray} (hx : evO F x = some (.string s) := by rfl) : Y P n D W Bo ⟨d, .call ⟨.builtin .len, #[x], #[t]⟩, ty, ps, af, g⟩ F l (I s.size) :=
  y_b (vs := [.string s]) (by simp [evL, hx]) fun w _ cs => by simp [builtin, Builtin.len_, run_underlying hu.h, goInt]

/-! operations that change memory -/

/-- an operation that gives a value and a new part of memory -/
theorem s_new {o : Oper} {σ : Type} (val : σ → Value) (lx : σ → SH) (φ : σ → Prop)
    (hop : ∀ c, o.op ≠ .defer c)
    (hr : ∀ a w, Fr n F D a → St W Bo w l → ∃ x w', φ x ∧ (execOp a.eval o).run P w = .ok (.value (val x)) w' ∧ St W Bo w' (lx x))
    (hd : o.dst = some dd := by rfl) (hn : Nat.blt dd n = true := by rfl) (hg : Wn ops F o.guard)
    (h : ∀ x, φ x → LP r P n D W Bo ops Q rest ((dd, val x) :: F) (lx x)) : LP r P n D W Bo ops Q (o :: rest) F l := by
  intro a w ha hw
  obtain ⟨x, w', hx, hrun, hw'⟩ := hr a w ha hw
  refine wpListIn_of (hg.wanted rfl ha) ?_
  refine ⟨fun f _ => trivial, ?_⟩
  rw [semAt_eq _ hop, hrun]
  simp only [Oper.uponIn, hd]
  exact h x hx _ _ (ha.put dd _ hn) hw'

/-- one without a value -/
theorem s_unit {o : Oper} (hop : ∀ c, o.op ≠ .defer c)
    (hr : ∀ a w, Fr n F D a → St W Bo w l → ∃ w', (execOp a.eval o).run P w = .ok .skip w' ∧ St W Bo w' l')
    (hd : o.dst = none := by rfl) (hg : Wn ops F o.guard)
    (h : LP r P n D W Bo ops Q rest F l') : LP r P n D W Bo ops Q (o :: rest) F l := by
  intro a w ha hw
  obtain ⟨w', hrun, hw'⟩ := hr a w ha hw
  refine wpListIn_of (hg.wanted rfl ha) ?_
  refine ⟨fun f _ => trivial, ?_⟩
  rw [semAt_eq _ hop, hrun]
  simp only [Oper.uponIn, hd]
  exact h _ _ (ha.put_none _) hw'

/-- a new variable -/
theorem s_alloc {z : Value} [hz : HZ P e z]
    (h : ∀ b, LP r P n D W Bo ops Q rest ((dd, .pointer (some ⟨b, 0, none⟩)) :: F) (.blk b (.cells z.cells e) :: l)) (hn : Nat.blt dd n = true := by rfl) (hg : Wn ops F g := by first | exact .none | exact .some rfl rfl) : LP r P n D W Bo ops Q (⟨some dd, .alloc e, ty, ps, af, g⟩ :: rest) F l :=
  s_new (fun b : Nat => .pointer (some ⟨b, 0, none⟩)) (fun b => .blk b (.cells z.cells e) :: l) (fun _ => True) (by simp)
    (fun a w _ hw => ⟨w.heap.size, w.alloc (.cells z.cells e), trivial, by
      simp only [execOp, Instr.alloc, Sem.run_bind, hz.h, Result.andThen_ok, newVar, newRow, run_newObj, Sem.run_pure, World.alloc_eq], hw.alloc _⟩)
    (hn := hn) (hg := hg) (h := fun b _ => h b)

/-- a new variable with a value -/
theorem s_box (hx : evO F x = some v)
    (h : ∀ b, LP r P n D W Bo ops Q rest ((dd, .pointer (some ⟨b, 0, none⟩)) :: F) (.blk b (.cells v.cells e) :: l)) (hn : Nat.blt dd n = true := by rfl) (hg : Wn ops F g := by first | exact .none | exact .some rfl rfl) : LP r P n D W Bo ops Q (⟨some dd, .box e x, ty, ps, af, g⟩ :: rest) F l :=
  s_new (fun b : Nat => .pointer (some ⟨b, 0, none⟩)) (fun b => .blk b (.cells v.cells e) :: l) (fun _ => True) (by simp)
    (fun a w ha hw => ⟨w.heap.size, w.alloc (.cells v.cells e), trivial, by
      simp only [execOp, ha.eval hx, Instr.box, Sem.run_bind, Result.andThen_ok, newVar, newRow, run_newObj, Sem.run_pure, World.alloc_eq], hw.alloc _⟩)
    (hn := hn) (hg := hg) (h := fun b _ => h b)

theorem setRow_os (w : World) (g : Nat) (cs : Array Value) : (w.setRow g cs).os = w.os ∧ (w.setRow g cs).tape = w.tape ∧ (w.setRow g cs).output = w.output := ⟨rfl, rfl, rfl⟩
theorem setRow_other (w : World) (g : Nat) (cs : Array Value) (k : Nat) (h : k ≠ g) : (w.setRow g cs).heap[k]? = w.heap[k]? := by
  simp only [World.setRow, Array.getElem?_modify]
  rw [if_neg (fun e => h e.symm)]

theorem St.setRow {w : World} (hw : St W Bo w l) {b : Nat} {cs cs' : Array Value} {t : TypeId} (hr : Rep (.blk b (.cells cs t (0, 0))) (.blk b (.cells cs' t (0, 0))) l l') : St W Bo (w.setRow b cs') l' :=
  hw.change hr rfl rfl rfl (by simp) (fun k _ hk => setRow_other w b cs' k (fun e => hk (by rw [e]; rfl)))
    (setRow_heap w b cs cs' t (0, 0) (hw.own _ hr.mem).1) (fun k hk => .inl hk)

/-- store of one cell into a known block -/
theorem s_st {s by' : Nat} [hs : HS P t s by'] {b off : Nat} {cs : Array Value} {et : TypeId} (h : LP r P n D W Bo ops Q rest F l')
    (hx : evO F x = some (.pointer (some ⟨b, off, none⟩)) := by rfl) (hv : evO F y = some v := by rfl)
    (hr : Rep (.blk b (.cells cs et (0, 0))) (.blk b (.cells (cs.setIfInBounds off v) et (0, 0))) l l' := by repeat (first | exact .head _ | apply Rep.tail)) (hl : off < cs.size := by first | decide | (simp; omega)) (h1 : v.oneCell' = true := by rfl) (hs1 : s = 1 := by rfl) (hg : Wn ops F g := by first | exact .none | exact .some rfl rfl) : LP r P n D W Bo ops Q (⟨none, .store t x y, ty, ps, af, g⟩ :: rest) F l := by
  refine s_unit (by simp) (fun a w ha hw => ⟨w.setRow b (cs.setIfInBounds off v), ?_, hw.setRow hr⟩) (hg := hg) (h := h)
  have hg := (hw.own _ hr.mem).1
  have hc : v.cells = #[v] := by cases v <;> first | rfl | simp [Value.oneCell'] at h1
  have h2 := run_storeCells_at P b off et [v] 0 cs w hg (by simp; omega) (by simpa using h1)
  have e1 : (cs.toList.take (off + 0) ++ [v] ++ cs.toList.drop (off + 0 + [v].length)).toArray = cs.setIfInBounds off v := by
    apply Array.ext'
    simp [List.set_eq_take_append_cons_drop, hl]
  rw [e1] at h2
  simp only [execOp, ha.eval hx, ha.eval hv, Instr.storeAt, Instr.sureAddr, storeVar, Sem.run_bind, Sem.run_pure, Result.andThen_ok, run_sizeOf' hs, hc]
  rw [if_neg (by simp [hs1])]
  rw [h2]
  rfl

/-- store of a whole struct or array into a block of its own -/
theorem s_sta {s by' : Nat} [hs : HS P t s by'] {b : Nat} {cs vs : Array Value} {et : TypeId} (h : LP r P n D W Bo ops Q rest F l')
    (hx : evO F x = some (.pointer (some ⟨b, 0, none⟩)) := by rfl) (hv : evO F y = some (.agg vs) := by rfl)
    (hr : Rep (.blk b (.cells cs et (0, 0))) (.blk b (.cells vs et (0, 0))) l l' := by repeat (first | exact .head _ | apply Rep.tail)) (hl : vs.size = cs.size := by first | rfl | (simp; done)) (h1 : ∀ u ∈ vs.toList, u.oneCell' = true := by first | decide | simp) (hs1 : vs.size = s := by first | rfl | (simp; done)) (hg : Wn ops F g := by first | exact .none | exact .some rfl rfl) : LP r P n D W Bo ops Q (⟨none, .store t x y, ty, ps, af, g⟩ :: rest) F l := by
  refine s_unit (by simp) (fun a w ha hw => ⟨w.setRow b vs, ?_, hw.setRow hr⟩) (hg := hg) (h := h)
  have hg := (hw.own _ hr.mem).1
  have h2 := run_storeCells_at P b 0 et vs.toList 0 cs w hg (by simp; omega) h1
  have e1 : (cs.toList.take (0 + 0) ++ vs.toList ++ cs.toList.drop (0 + 0 + vs.toList.length)).toArray = vs := by
    apply Array.ext'
    simp; omega
  rw [e1] at h2
  simp only [execOp, ha.eval hx, ha.eval hv, Instr.storeAt, Instr.sureAddr, storeVar, Sem.run_bind, Sem.run_pure, Result.andThen_ok, run_sizeOf' hs, Value.cells]
  rw [if_neg (by simp [hs1])]
  rw [h2]
  rfl

end
end Eng
