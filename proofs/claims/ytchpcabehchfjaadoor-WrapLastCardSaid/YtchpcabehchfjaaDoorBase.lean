/- Joined texts. -/
import Derived.Test.YtchpcabehchfjaaDoorCore
import Derived.Laws.BytesString
import Derived.Laws.StructEq
import Derived.MapKept
/- Blocks of bytes, ints and words. -/
namespace Eng
open Go Go.RowKit

theorem bs_set (q : List UInt8) (i : Nat) (x : UInt8) : (bs q).toArray.setIfInBounds i (B x) = (bs (q.set i x)).toArray := by
  apply Array.ext'; simp [bs, List.map_set]
theorem is_set (q : List Int) (i : Nat) (x : Int) : (is q).toArray.setIfInBounds i (I x) = (is (q.set i x)).toArray := by
  apply Array.ext'; simp [is, List.map_set]
theorem ws_set (q : List UInt32) (i : Nat) (x : UInt32) : (ws q).toArray.setIfInBounds i (W32 x) = (ws (q.set i x)).toArray := by
  apply Array.ext'; simp [ws, List.map_set]
theorem bs_append (a b : List UInt8) : bs (a ++ b) = bs a ++ bs b := by simp [bs]
theorem bs_take (a : List UInt8) (k : Nat) : bs (a.take k) = (bs a).take k := by simp [bs]
theorem bs_drop (a : List UInt8) (k : Nat) : bs (a.drop k) = (bs a).drop k := by simp [bs]
theorem ws_append (a b : List UInt32) : ws (a ++ b) = ws a ++ ws b := by simp [ws]
theorem ws_take (a : List UInt32) (k : Nat) : ws (a.take k) = (ws a).take k := by simp [ws]
theorem ws_drop (a : List UInt32) (k : Nat) : ws (a.drop k) = (ws a).drop k := by simp [ws]
theorem is_append (a b : List Int) : is (a ++ b) = is a ++ is b := by simp [is]
theorem is_take (a : List Int) (k : Nat) : is (a.take k) = (is a).take k := by simp [is]
theorem is_drop (a : List Int) (k : Nat) : is (a.drop k) = (is a).drop k := by simp [is]
theorem bs_one {v : Value} {q : List UInt8} (h : v ∈ bs q) : v.oneCell' = true := by
  simp [bs] at h; obtain ⟨x, _, rfl⟩ := h; rfl
theorem is_one {v : Value} {q : List Int} (h : v ∈ is q) : v.oneCell' = true := by
  simp [is] at h; obtain ⟨x, _, rfl⟩ := h; rfl
theorem ws_one {v : Value} {q : List UInt32} (h : v ∈ ws q) : v.oneCell' = true := by
  simp [ws] at h; obtain ⟨x, _, rfl⟩ := h; rfl
theorem madeB (n : Nat) : madeCells (Value.cells (.int .u8 0)) n = (bs (List.replicate n 0)).toArray := by
  apply Array.ext'
  simp only [madeCells, Value.cells, bs, Array.toList_map, Array.toList_range, List.map_replicate]
  apply List.ext_getElem
  · simp
  · intro i h1 h2; simp [Nat.mod_one]
theorem rep_ws (n : Nat) : (List.replicate n (Value.int .u32 0)).toArray = (ws (List.replicate n 0)).toArray := by
  rw [ws, List.map_replicate]; rfl
theorem rep_bs (n : Nat) : (List.replicate n (Value.int .u8 0)).toArray = (bs (List.replicate n 0)).toArray := by
  rw [bs, List.map_replicate]; rfl

section
variable {r : Option Nat} {P : Program} {n : Nat} {D : List Deferred} {W : World} {Bo : List Nat} {F : List (Nat × Value)} {l l' : SH}
  {d : Option Tmp} {dd : Nat} {ty : TypeId} {ps : String} {af : Array Edge} {g : Option (Nat × Bool)} {x y z : Operand} {v u : Value} {ta tb t e : TypeId}
  {Q : Exit → Act → World → Prop} {ops : Array Oper} {rest : List Oper} {td : TypeDesc} {c : Code}

theorem y_ldbb [hu : HT P t true] {b off : Nat} {q : List UInt8} {et : TypeId} {fz : Nat × Nat} (hx : evO F x = some (.pointer (some ⟨b, off, none⟩)) := by rfl)
    (hm : Res.blk b (.cells (bs q).toArray et fz) ∈ l := by repeat (first | exact .head _ | apply List.Mem.tail)) (hi : off < q.length := by first | omega | (simp; omega)) :
    Y P n D W Bo ⟨d, .load t x, ty, ps, af, g⟩ F l (B (q.getD off 0)) := y_ld hx hm (by rw [List.getElem?_toArray]; exact bs_get hi)
theorem y_ldbi [hu : HT P t true] {b off : Nat} {q : List Int} {et : TypeId} {fz : Nat × Nat} (hx : evO F x = some (.pointer (some ⟨b, off, none⟩)) := by rfl)
    (hm : Res.blk b (.cells (is q).toArray et fz) ∈ l := by repeat (first | exact .head _ | apply List.Mem.tail)) (hi : off < q.length := by first | omega | (simp; omega)) :
    Y P n D W Bo ⟨d, .load t x, ty, ps, af, g⟩ F l (I (q.getD off 0)) := y_ld hx hm (by rw [List.getElem?_toArray]; exact is_get hi)
theorem y_ldbw [hu : HT P t true] {b off : Nat} {q : List UInt32} {et : TypeId} {fz : Nat × Nat} (hx : evO F x = some (.pointer (some ⟨b, off, none⟩)) := by rfl)
    (hm : Res.blk b (.cells (ws q).toArray et fz) ∈ l := by repeat (first | exact .head _ | apply List.Mem.tail)) (hi : off < q.length := by first | omega | (simp; omega)) :
    Y P n D W Bo ⟨d, .load t x, ty, ps, af, g⟩ F l (W32 (q.getD off 0)) := y_ld hx hm (by rw [List.getElem?_toArray]; exact ws_get hi)

theorem s_stb {by' : Nat} [hs : HS P t 1 by'] {b off : Nat} {q : List UInt8} {et : TypeId} {p : UInt8} (h : LP r P n D W Bo ops Q rest F l')
    (hx : evO F x = some (.pointer (some ⟨b, off, none⟩)) := by rfl) (hv : evO F y = some (B p) := by rfl)
    (hr : Rep (.blk b (.cells (bs q).toArray et (0, 0))) (.blk b (.cells (bs (q.set off p)).toArray et (0, 0))) l l' := by repeat (first | exact .head _ | apply Rep.tail)) (hl : off < q.length := by first | omega | (simp; omega)) (hg : Wn ops F g := by first | exact .none | exact .some rfl rfl) :
    LP r P n D W Bo ops Q (⟨none, .store t x y, ty, ps, af, g⟩ :: rest) F l :=
  s_st h hx hv (by rw [bs_set]; exact hr) (by simpa [bs_length] using hl) rfl rfl hg
theorem s_sti {by' : Nat} [hs : HS P t 1 by'] {b off : Nat} {q : List Int} {et : TypeId} {p : Int} (h : LP r P n D W Bo ops Q rest F l')
    (hx : evO F x = some (.pointer (some ⟨b, off, none⟩)) := by rfl) (hv : evO F y = some (I p) := by rfl)
    (hr : Rep (.blk b (.cells (is q).toArray et (0, 0))) (.blk b (.cells (is (q.set off p)).toArray et (0, 0))) l l' := by repeat (first | exact .head _ | apply Rep.tail)) (hl : off < q.length := by first | omega | (simp; omega)) (hg : Wn ops F g := by first | exact .none | exact .some rfl rfl) :
    LP r P n D W Bo ops Q (⟨none, .store t x y, ty, ps, af, g⟩ :: rest) F l :=
  s_st h hx hv (by rw [is_set]; exact hr) (by simpa [is_length] using hl) rfl rfl hg
theorem s_stw {by' : Nat} [hs : HS P t 1 by'] {b off : Nat} {q : List UInt32} {et : TypeId} {p : UInt32} (h : LP r P n D W Bo ops Q rest F l')
    (hx : evO F x = some (.pointer (some ⟨b, off, none⟩)) := by rfl) (hv : evO F y = some (W32 p) := by rfl)
    (hr : Rep (.blk b (.cells (ws q).toArray et (0, 0))) (.blk b (.cells (ws (q.set off p)).toArray et (0, 0))) l l' := by repeat (first | exact .head _ | apply Rep.tail)) (hl : off < q.length := by first | omega | (simp; omega)) (hg : Wn ops F g := by first | exact .none | exact .some rfl rfl) :
    LP r P n D W Bo ops Q (⟨none, .store t x y, ty, ps, af, g⟩ :: rest) F l :=
  s_st h hx hv (by rw [ws_set]; exact hr) (by simpa [ws_length] using hl) rfl rfl hg

/-- the first cells of a slice of bytes -/
theorem first_bytes {w : World} {a : Option Addr} {m c k : Nat} {q : List UInt8} (h : Rd w a (bs q)) (hk : k ≤ q.length) : (Builtin.firstCells 1 k (.slice a m c)).run P w = .ok (bs (q.take k)).toArray w := by
  have := (Src.slice (P := P) (s := 1) (m := k) (c := c) (h.take k) (by simp [bs_length]; omega)).2.1
  rw [bs_take]
  cases a <;> exact this
theorem first_string {w : World} {s : ByteArray} {k : Nat} : (Builtin.firstCells 1 k (.string s)).run P w = .ok (bs (s.data.toList.take k)).toArray w := by
  simp only [Builtin.firstCells, Sem.run_pure]
  congr 1
  apply Array.ext'
  simp only [Array.toList_map, ByteArray.data_extract, Array.toList_extract, List.extract_eq_take_drop, List.drop_zero, Nat.sub_zero, bs]

/-- copy bytes from a slice into a block -/
theorem s_cpb [ht : HU P ta (.slice e)] {by' : Nat} [hs : HS P e 1 by'] {b off m c : Nat} {q : List UInt8} {et : TypeId} {a : Option Addr} {k kc : Nat} {ys : List UInt8}
    (h : LP r P n D W Bo ops Q rest ((dd, I (Nat.min k m : Nat)) :: F) l')
    (hx : evO F x = some (.slice (some ⟨b, off, none⟩) m c) := by rfl) (hy : evO F y = some (.slice a k kc) := by rfl)
    (hr : RdS W Bo l a (bs ys) := by first | exact rdW0 (by assumption) | exact rdR (by repeat (first | exact .head _ | apply List.Mem.tail)) | assumption) (hk : k = ys.length := by first | rfl | omega)
    (hrep : Rep (.blk b (.cells (bs q).toArray et (0, 0))) (.blk b (.cells (bs (q.take off ++ ys.take (Nat.min k m) ++ q.drop (off + Nat.min k m))).toArray et (0, 0))) l l' := by repeat (first | exact .head _ | apply Rep.tail))
    (hfit : off + Nat.min k m ≤ q.length := by omega) (hn : Nat.blt dd n = true := by rfl) (hg : Wn ops F g := by first | exact .none | exact .some rfl rfl) :
    LP r P n D W Bo ops Q (⟨some dd, .call ⟨.builtin .copy, #[x, y], #[ta, tb]⟩, ty, ps, af, g⟩ :: rest) F l := by
  have hle : Nat.min k m ≤ ys.length := by rw [hk]; exact Nat.min_le_left _ _
  have hlen : (bs (ys.take (Nat.min k m))).length = Nat.min k m := by rw [bs_length, List.length_take]; omega
  refine s_cpy (s := 1) (et := et) (q := k) (ys := bs (ys.take (Nat.min k m))) (cs := (bs q).toArray) hx hy (fun w _ => rfl) (fun w hw => first_bytes (hr w hw) hle) ?_ (fun v hv => bs_one hv) ?_ h hn hg
  · rw [hlen]
    simp only [bs_append, bs_take, bs_drop] at hrep ⊢
    exact hrep
  · rw [hlen]; simpa [bs_length] using hfit

/-- make bytes -/
theorem s_mkb [ht : HU P t (.slice e)] {by' : Nat} [hs : HS P e 1 by'] [hz : HZ P e (.int .u8 0)] {kl kc : IntKind} {i j : Int}
    (h : ∀ b, LP r P n D W Bo ops Q rest ((dd, .slice (some ⟨b, 0, none⟩) i.toNat j.toNat) :: F) (.blk b (.cells (bs (List.replicate j.toNat 0)).toArray e) :: l))
    (hx : evO F x = some (.int kl i) := by rfl) (hy : evO F y = some (.int kc j) := by rfl)
    (h0 : 0 ≤ i := by omega) (h1 : i ≤ j := by omega) (h2 : (by' : Int) * j ≤ 281474976710656 := by omega) (h3 : j ≤ 9223372036854775807 := by omega) (hn : Nat.blt dd n = true := by rfl) (hg : Wn ops F g := by first | exact .none | exact .some rfl rfl) :
    LP r P n D W Bo ops Q (⟨some dd, .makeSlice t x y, ty, ps, af, g⟩ :: rest) F l :=
  s_mks (e := e) (s := 1) (fun b => by rw [Nat.mul_one, madeB]; exact h b) hx hy h0 h1 h2 h3 hn hg

theorem q_torow {b : Nat} {cs : Array Value} {e : TypeId} {s m : Nat} {ex : Exit} (hr : Rep (.blk b (.cells cs e (0, 0))) (.row (some ⟨b, 0, none⟩) m e s m cs.toList) l l') (hs : cs.size = m * s) (hm : m ≤ maxLen)
    (h : QP n D W Bo Q ex F l') : QP n D W Bo Q ex F l := fun a w ha hw => h a w ha (hw.toRow hs hm hr)

/-- the bytes of a block, as a slice that owns it -/
theorem St.toRowB {w : World} (hw : St W Bo w l) {b m : Nat} {q : List UInt8} {e : TypeId} (hs : q.length = m) (hm : m ≤ maxLen)
    (hr : Rep (.blk b (.cells (bs q).toArray e (0, 0))) (.row (some ⟨b, 0, none⟩) m e 1 m (bs q)) l l' := by repeat (first | exact .head _ | apply Rep.tail)) : St W Bo w l' :=
  hw.toRow (cs := (bs q).toArray) (by simpa [bs_length] using hs) hm hr

/-- append bytes -/
theorem srcB {s : Nat} {a : Option Addr} {m c : Nat} {q : List UInt8} (h : RdS W Bo l a (bs q)) (hl : q.length = m := by first | rfl | omega) (hs : s = 1 := by rfl) : ∀ w, St W Bo w l → Src P w s (.slice a m c) m (bs q) :=
  fun w hw => Src.slice (h w hw) (by rw [bs_length, hs, Nat.mul_one]; exact hl)
theorem srcS {s : Nat} {b : ByteArray} (hs : s = 1 := by rfl) : ∀ w, St W Bo w l → Src P w s (.string b) b.size (bs b.data.toList) := fun w _ => by subst hs; exact Src.string
theorem rd_blkB {b : Nat} {q : List UInt8} {e : TypeId} {fz : Nat × Nat} (hm : Res.blk b (.cells (bs q).toArray e fz) ∈ l := by repeat (first | exact .head _ | apply List.Mem.tail)) : RdS W Bo l (some ⟨b, 0, none⟩) (bs q) :=
  rdB hm (fun i v h => by simpa using h)
theorem rd_blkI {b : Nat} {q : List Int} {e : TypeId} {fz : Nat × Nat} (hm : Res.blk b (.cells (is q).toArray e fz) ∈ l := by repeat (first | exact .head _ | apply List.Mem.tail)) : RdS W Bo l (some ⟨b, 0, none⟩) (is q) :=
  rdB hm (fun i v h => by simpa using h)
theorem rd_blkW {b : Nat} {q : List UInt32} {e : TypeId} {fz : Nat × Nat} (hm : Res.blk b (.cells (ws q).toArray e fz) ∈ l := by repeat (first | exact .head _ | apply List.Mem.tail)) : RdS W Bo l (some ⟨b, 0, none⟩) (ws q) :=
  rdB hm (fun i v h => by simpa using h)
theorem rd_blk {b : Nat} {cs : Array Value} {e : TypeId} {fz : Nat × Nat} (hm : Res.blk b (.cells cs e fz) ∈ l := by repeat (first | exact .head _ | apply List.Mem.tail)) : RdS W Bo l (some ⟨b, 0, none⟩) cs.toList :=
  rdB hm (fun i v h => by simpa using h)
end
end Eng
/- Searching: plain facts on lists. -/
namespace Eng

/-- the first place where a list has what is asked for, or -1 -/
def fidx {α : Type} (p : α → Bool) (l : List α) : Int := match l.findIdx? p with | some i => (i : Int) | none => -1

theorem fidx_hit {α : Type} {p : α → Bool} {l : List α} {d : α} {k : Nat} (hk : k < l.length) (h : ∀ i, i < k → p (l.getD i d) = false) (hp : p (l.getD k d) = true) : fidx p l = (k : Int) := by
  have e : l.findIdx? p = some k := by
    rw [List.findIdx?_eq_some_iff_getElem]
    refine ⟨hk, ?_, ?_⟩
    · rw [List.getD_eq_getElem?_getD, List.getElem?_eq_getElem hk] at hp; exact hp
    · intro j hj
      have := h j hj
      rw [List.getD_eq_getElem?_getD, List.getElem?_eq_getElem (by omega)] at this
      simpa using this
  rw [fidx, e]

theorem fidx_none {α : Type} {p : α → Bool} {l : List α} {d : α} (h : ∀ i, i < l.length → p (l.getD i d) = false) : fidx p l = -1 := by
  have e : l.findIdx? p = none := by
    rw [List.findIdx?_eq_none_iff]
    intro x hx
    obtain ⟨i, hi, rfl⟩ := List.getElem_of_mem hx
    have := h i hi
    rw [List.getD_eq_getElem?_getD, List.getElem?_eq_getElem hi] at this
    exact this
  rw [fidx, e]

theorem fidx_any {α : Type} (p : α → Bool) (l : List α) : decide (0 ≤ fidx p l) = l.any p := by
  unfold fidx
  cases e : l.findIdx? p with
  | none =>
    rw [List.findIdx?_eq_none_iff] at e
    have : l.any p = false := by rw [List.any_eq_false]; intro x hx; rw [e x hx]; simp
    rw [this]; rfl
  | some i =>
    rw [List.findIdx?_eq_some_iff_getElem] at e
    obtain ⟨h1, h2, _⟩ := e
    have : l.any p = true := by rw [List.any_eq_true]; exact ⟨l[i], List.getElem_mem h1, h2⟩
    rw [this]; simp

theorem fidx_lt {α : Type} {p : α → Bool} {l : List α} : fidx p l < (l.length : Int) := by
  unfold fidx
  cases e : l.findIdx? p with
  | none => simp; omega
  | some i =>
    rw [List.findIdx?_eq_some_iff_getElem] at e
    obtain ⟨h1, _⟩ := e
    simpa using h1

theorem fidx_ge {α : Type} {p : α → Bool} {l : List α} : -1 ≤ fidx p l := by
  unfold fidx
  cases e : l.findIdx? p with
  | none => simp
  | some i => simp

theorem take_snoc {α : Type} (l : List α) (k : Nat) (d : α) (h : k < l.length) : l.take (k + 1) = l.take k ++ [l.getD k d] := by
  rw [List.take_succ_eq_append_getElem h, List.getD_eq_getElem?_getD, List.getElem?_eq_getElem h]; rfl


theorem set_fill {α : Type} (q : List α) (k L : Nat) (z x d : α) (hk : k < q.length) (hL : k < L) (hx : q.getD k d = x) : (q.take k ++ List.replicate (L - k) z).set k x = q.take (k + 1) ++ List.replicate (L - (k + 1)) z := by
  have e : (q.take k).length = k := by simp; omega
  rw [List.set_append_right _ _ (by omega), e, Nat.sub_self, show L - k = (L - (k + 1)) + 1 by omega, List.replicate_succ, List.set_cons_zero, take_snoc q k d hk, hx]
  simp
end Eng
/- More operations: bits of ints, strings of bytes, slices with a capacity, slices that are written out. -/
namespace Eng
open Go Go.RowKit

/-- bytes as a string -/
def sb (q : List UInt8) : ByteArray := ⟨q.toArray⟩
theorem sb_inj {p q : List UInt8} : sb p = sb q ↔ p = q := by
  constructor
  · intro h
    have := congrArg (fun b : ByteArray => b.data.toList) h
    simpa [sb] using this
  · rintro rfl; rfl
theorem sb_toList (q : List UInt8) : (sb q).data.toList = q := rfl
theorem sb_size (q : List UInt8) : (sb q).size = q.length := rfl

/-- the parts of a literal laid down, over lists -/
def fillL (place : Nat → Option (Nat × Nat)) (cells : List Value) : List (Nat × Value) → Option (List Value)
  | [] => some cells
  | (i, v) :: rest =>
    match place i with
    | none => none
    | some (off, size) =>
      bif Nat.beq v.cells.toList.length size && Nat.ble (off + size) cells.length then fillL place (cells.take off ++ v.cells.toList ++ cells.drop (off + size)) rest else none

theorem setFold (off : Nat) : ∀ (vs : List Value) (k : Nat) (cs : Array Value), off + k + vs.length ≤ cs.size →
    ((vs.zipIdx k).foldl (fun cs (x : Value × Nat) => cs.setIfInBounds (off + x.2) x.1) cs).toList = cs.toList.take (off + k) ++ vs ++ cs.toList.drop (off + k + vs.length)
  | [], k, cs, _ => by simp
  | v :: vs, k, cs, h => by
    simp only [List.zipIdx_cons, List.foldl_cons]
    rw [setFold off vs (k + 1) _ (by simp; simp at h; omega)]
    simp only [List.length_cons] at h
    simp only [Array.toList_setIfInBounds]
    rw [← Nat.add_assoc, List.drop_set_of_lt (by omega), List.length_cons]
    have e : (cs.toList.set (off + k) v).take (off + k + 1) = cs.toList.take (off + k) ++ [v] := by
      have hl : (cs.toList.take (off + k)).length = off + k := by simp; omega
      rw [List.take_set, List.take_add_one, List.getElem?_eq_getElem (by simp; omega), Option.toList_some, List.set_append_right _ _ (by omega), hl, Nat.sub_self]
      rfl
    rw [e]
    simp
    congr 1
    omega

theorem fill_of {place : Nat → Option (Nat × Nat)} : ∀ {parts : List (Nat × Value)} {cells r : List Value}, fillL place cells parts = some r → Instr.fill place cells.toArray parts = some r.toArray
  | [], cells, r, h => by simp [fillL] at h; subst h; rfl
  | (i, v) :: rest, cells, r, h => by
    unfold fillL at h
    unfold Instr.fill
    cases hp : place i with
    | none => simp [hp] at h
    | some q =>
      obtain ⟨off, size⟩ := q
      simp only [hp] at h ⊢
      cases hb : (Nat.beq v.cells.toList.length size && Nat.ble (off + size) cells.length) with
      | false => rw [hb] at h; cases h
      | true =>
        rw [hb] at h
        simp only [cond_true] at h
        simp only [Bool.and_eq_true] at hb
        have e1 : v.cells.size = size := by simpa using Nat.eq_of_beq_eq_true hb.1
        have e2 : off + size ≤ cells.length := Nat.le_of_ble_eq_true hb.2
        have e3 : ¬ (decide (v.cells.size ≠ size) || decide (off + v.cells.size > cells.toArray.size)) = true := by simp [e1]; omega
        rw [if_neg (by simpa using e3)]
        have := fill_of h
        rw [← this]
        congr 1
        apply Array.ext'
        have hs := setFold off v.cells.toList 0 cells.toArray (by simp [e1]; omega)
        simp only [Nat.add_zero, Array.length_toList, e1] at hs
        rw [← hs, ← Array.foldl_toList]
        congr 1
        simp

/-- a list again and again -/
def repL : Nat → List Value → List Value
  | 0, _ => []
  | m + 1, l => l ++ repL m l
theorem repL_eq (z : Array Value) (s : Nat) (hs : z.size = s) : ∀ m, ((Array.range (m * s)).map (z[· % z.size]!)).toList = repL m z.toList
  | 0 => by simp [repL]
  | m + 1 => by
    have ih := repL_eq z s hs m
    simp only [Array.toList_map, Array.toList_range] at ih ⊢
    rw [Nat.add_mul, Nat.one_mul, Nat.add_comm, List.range_add, List.map_append, List.map_map, repL, ← ih]
    congr 1
    · apply List.ext_getElem
      · simp [hs]
      · intro i h1 h2
        simp only [List.length_map, List.length_range] at h1
        simp only [List.getElem_map, List.getElem_range, hs, Nat.mod_eq_of_lt h1]
        rw [getElem!_pos z i (by omega)]
        simp
    · apply List.map_congr_left
      intro i _
      simp [hs]

theorem push_fold : ∀ (q : List UInt8) (s : ByteArray), (q.map fun x => (x.toNat : Int)).foldl (fun r n => r.push (UInt8.ofNat n.toNat)) s = ⟨(s.data.toList ++ q).toArray⟩
  | [], s => by simp
  | x :: q, s => by
    simp only [List.map_cons, List.foldl_cons]
    rw [push_fold q]
    have e : UInt8.ofNat ((x.toNat : Int)).toNat = x := by
      rw [Int.toNat_natCast]; exact UInt8.ofNat_toNat
    rw [e]
    congr 1
    apply Array.ext'
    simp [ByteArray.push]

theorem run_b2s {P : Program} {w : World} {a : Option Addr} {q : List UInt8} {c : Nat} (h : Rd w a (bs q)) : (Conv.bytesToString (.slice a q.length c)).run P w = .ok (.string (sb q)) w := by
  cases ha : a with
  | none =>
    have : bs q = [] := by
      rcases h with h | ⟨b, off, cs, t, fz, e, _⟩
      · exact h
      · rw [ha] at e; cases e
    have hq : q = [] := by simpa [bs] using this
    subst hq
    rfl
  | some ad' =>
    have hl := (Src.slice (P := P) (s := 1) (m := q.length) (c := c) h (by simp [bs_length])).2.1
    rw [ha] at hl
    simp only [Builtin.firstCells, Nat.mul_one] at hl
    have e : bs q = (q.map fun x => (x.toNat : Int)).map (Value.int .u8) := by simp [bs]
    rw [e] at hl
    rw [run_bytesToString w ad' q.length c _ hl, push_fold]
    rfl

theorem bitsn {k : IntKind} {p : Nat} (hp : p < 2 ^ k.bits) : (BitVec.ofInt k.bits (p : Int)).toNat = p := by
  rw [BitVec.ofInt_natCast]; simp [Nat.mod_eq_of_lt hp]

theorem zeros_eq (z : Array Value) (s m : Nat) (hs : z.size = s) : (if m * s = 0 then #[] else Builtin.zeroCells z m) = (repL m z.toList).toArray := by
  have h := repL_eq z s hs m
  have e : Builtin.zeroCells z m = (repL m z.toList).toArray := by
    apply Array.ext'
    rw [← h]
    simp [Builtin.zeroCells, hs]
  split
  · rename_i h0
    rw [← e]
    unfold Builtin.zeroCells
    rw [hs, h0]
    apply Array.ext'
    simp
  · exact e
theorem repL_length (l : List Value) : ∀ m, (repL m l).length = m * l.length
  | 0 => by simp [repL]
  | m + 1 => by simp [repL, repL_length l m, Nat.add_mul, Nat.add_comm]
theorem repL_mem {l : List Value} {v : Value} : ∀ {m}, v ∈ repL m l → v ∈ l
  | 0, h => by simp [repL] at h
  | m + 1, h => by
    rcases List.mem_append.1 h with h | h
    · exact h
    · exact repL_mem h
theorem repL_bs : ∀ m, repL m [B 0] = bs (List.replicate m 0)
  | 0 => rfl
  | m + 1 => by rw [repL, repL_bs m, List.replicate_succ]; rfl

/-- append of so many zeros -/
theorem run_appz {P : Program} {t u ty e : TypeId} {kd ku : IntKind} {s by' : Nat} {z : Value} {w : World} (ht : P.underlying t = some (.slice e)) (hu : P.underlying u = some (.int kd))
    (hs : HS P e s by') (hz : HZ P e z) (hzs : z.cells.size = s) {a : Option Addr} {n c m : Nat} {xs : List Value}
    (hrow : (Res.row a c e s n xs).holds w) (h1 : ∀ v ∈ z.cells.toList, v.oneCell' = true) (hfit : n + m ≤ maxLen) (hby : (n + m) * by' ≤ 140737488355328) :
    ∃ a' c' w', (Builtin.append_ #[t, u] ty #[.slice a n c, .int ku (m : Int)]).run P w = .ok (.slice a' (n + m) c') w' ∧ (Res.row a' c' e s (n + m) (xs ++ repL m z.cells.toList)).holds w' ∧
      w'.os = w.os ∧ w'.tape = w.tape ∧ w'.output = w.output ∧ w.heap.size ≤ w'.heap.size ∧
      (∀ k, k < w.heap.size → (Res.row a c e s n xs).key ≠ some k → w'.heap[k]? = w.heap[k]?) ∧
      (∀ k, (Res.row a' c' e s (n + m) (xs ++ repL m z.cells.toList)).key = some k → (Res.row a c e s n xs).key = some k ∨ w.heap.size ≤ k) ∧ (a' = none → a = none ∧ m = 0) := by
  obtain ⟨i, hi, hsz, hbz⟩ := hs.h
  obtain ⟨hxl, hnc, hown⟩ := hrow
  have hyl : (repL m z.cells.toList).length = m * s := by rw [repL_length, Array.length_toList, hzs]
  have hw : IntKind.i64.wrap (m : Int) = m := wrap_i64 (by simp only [maxLen] at hfit; unfold R64; omega)
  have hm0 : ¬ ((m : Int) < 0) := by omega
  have hmb : ¬ (281474976710656 < (m : Int) * (i.bytes : Int)) := by
    have h3 : m * by' ≤ (n + m) * by' := Nat.mul_le_mul_right _ (by omega)
    have h4 : ((m * by' : Nat) : Int) ≤ 140737488355328 := by omega
    rw [hbz]
    rw [Int.natCast_mul] at h4
    omega
  have hzz := fun w => hz.h w
  have has : ∀ w, (asInt (.int ku (m : Int))).run P w = .ok (m : Int) w := fun _ => rfl
  have hz1 : m * s = 0 → repL m z.cells.toList = [] := fun h0 => List.eq_nil_of_length_eq_zero (by rw [hyl, h0])
  have hz2 : ¬ (m * s = 0) → Builtin.zeroCells z.cells m = (repL m z.cells.toList).toArray := fun h0 => by
    have := zeros_eq z.cells s m hzs
    rwa [if_neg h0] at this
  generalize hys : repL m z.cells.toList = ys at *
  have h1' : ∀ v ∈ ys, v.oneCell' = true := fun v hv => h1 v (repL_mem (by rw [hys]; exact hv))
  by_cases hroom : n + m ≤ c
  · rcases hown with ⟨rfl, rfl⟩ | ⟨g, cur, rfl, hg, hcm, hcs, htake⟩
    · have hn : n = 0 := by omega
      have hm : m = 0 := by omega
      subst hn; subst hm
      refine ⟨none, 0, w, ?_, ⟨by simp [hxl, hyl], by simp, .inl ⟨rfl, rfl⟩⟩, rfl, rfl, rfl, Nat.le_refl _, fun _ _ _ => rfl, fun k hk => .inl hk, fun _ => ⟨rfl, rfl⟩⟩
      simp only [Int.cast_ofNat_Int] at has hw
      have hw' : IntKind.i64.wrap 0 = 0 := rfl
      have has' : ∀ w, (asInt (.int ku 0)).run P w = .ok 0 w := fun _ => rfl
      simp [Builtin.append_, run_underlying ht, run_underlying hu, Go.sizeOf, typeInfo, hi, hw', has']
    · have hfits : n * s + ys.length ≤ cur.size := by rw [hyl, hcs, ← Nat.add_mul]; exact Nat.mul_le_mul_right _ hroom
      have hst := run_storeCells_at P g (n * s) e ys 0 cur w hg (by simpa using hfits) h1'
      simp only [Nat.add_zero] at hst
      refine ⟨some ⟨g, 0, none⟩, c, w.setRow g (cur.toList.take (n * s) ++ ys ++ cur.toList.drop (n * s + ys.length)).toArray, ?_, ⟨by simp [hxl, hyl, Nat.add_mul], by omega, .inr ⟨g, _, rfl, setRow_heap w g cur _ e (0, 0) hg, hcm, ?_, ?_⟩⟩, rfl, rfl, rfl, by simp, ?_, fun k hk => .inl hk, fun h => by cases h⟩
      · by_cases h0 : m * s = 0
        · have e0 := hz1 h0
          subst e0
          simp only [List.append_nil, List.length_nil, Nat.add_zero] at hst
          simp [Builtin.append_, run_underlying ht, run_underlying hu, Go.sizeOf, typeInfo, hi, hsz, hw, hm0, hmb, hroom, addr_add, hst, has, h0]
        · have e0 := hz2 h0
          simp only [List.append_assoc] at hst
          simp [Builtin.append_, run_underlying ht, run_underlying hu, Go.sizeOf, typeInfo, hi, hsz, hw, hm0, hmb, hroom, addr_add, hst, has, h0, hzz, e0]
      · simp only [List.size_toArray, List.length_append, List.length_take, List.length_drop, Array.length_toList]
        rw [Nat.min_eq_left (by omega)]; omega
      · rw [htake, List.toList_toArray, List.take_append_of_le_length (by simp [hxl, hyl, Nat.add_mul]), List.take_of_length_le (by simp [hxl, hyl, Nat.add_mul])]
      · intro k _ hk
        exact setRow_other w g _ k (fun e' => hk (by rw [e']; rfl))
  · have h63' : ¬ (9223372036854775807 < ((n : Int) + (m : Int))) := by simp only [maxLen] at hfit; omega
    have hns : Builtin.nextslicecap (n + m) c * i.bytes ≤ 281474976710656 := growslice_fits (by omega) (by rw [hbz]; exact hby)
    have h48' : ¬ (281474976710656 < Builtin.nextslicecap (n + m) c * i.bytes) := by omega
    have hold : (Builtin.firstCells s n (.slice a n c)).run P w.drew = .ok xs.toArray w.drew := by
      have hrd : Rd w.drew a xs := by
        refine Rd.congr (w := w) (Res.rd (c := c) (e := e) (s := s) (n := n) ⟨hxl, hnc, hown⟩) (fun b _ => rfl)
      exact (Src.slice hrd hxl).2.1
    have hge := grownCap_ge w (n + m) c e
    have hcm : grownCap w (n + m) c e ≤ maxLen := grownCap_le_maxLen w (n + m) c e hfit
    refine ⟨some ⟨w.heap.size, 0, none⟩, grownCap w (n + m) c e, w.drew.alloc (.cells (xs.toArray ++ ys.toArray ++ Builtin.zeroCells z.cells (grownCap w (n + m) c e - (n + m))) e), ?_, ⟨by simp [hxl, hyl, Nat.add_mul], hge, .inr ⟨w.heap.size, _, rfl, heap_alloc_new w.drew _, hcm, ?_, ?_⟩⟩, rfl, rfl, rfl, by simp, fun k hk _ => Below.heap_alloc w.drew _ k hk, fun k hk => by simp [Res.key] at hk; omega, fun h => by cases h⟩
    · have hni : ¬ (n + m ≤ c) := hroom
      by_cases h0 : m * s = 0
      · have e0 := hz1 h0
        subst e0
        simp [Builtin.append_, run_underlying ht, run_underlying hu, Go.sizeOf, typeInfo, hi, hsz, hni, h63', h48', Question.forced, hold, hzz, newRow, grownCap, hw, hm0, hmb, has, h0] <;> (congr 2; apply Array.ext'; simp)
      · have e0 := hz2 h0
        simp [Builtin.append_, run_underlying ht, run_underlying hu, Go.sizeOf, typeInfo, hi, hsz, hni, h63', h48', Question.forced, hold, hzz, newRow, grownCap, hw, hm0, hmb, has, h0, e0] <;> (congr 2; apply Array.ext'; simp)
    · simp only [Array.size_append, List.size_toArray, size_zeroCells, hzs, hxl, hyl, ← Nat.add_mul]
      congr 1; omega
    · simp only [Array.toList_append]
      rw [List.take_append_of_le_length (by simp [hxl, hyl, Nat.add_mul]), List.take_of_length_le (by simp [hxl, hyl, Nat.add_mul])]

section
variable {r : Option Nat} {P : Program} {n : Nat} {D : List Deferred} {W : World} {Bo : List Nat} {F : List (Nat × Value)} {l l' : SH}
  {d : Option Tmp} {dd : Nat} {ty : TypeId} {ps : String} {af : Array Edge} {g : Option (Nat × Bool)} {x y z : Operand} {v u : Value} {ta tb t e : TypeId}
  {Q : Exit → Act → World → Prop} {ops : Array Oper} {rest : List Oper} {td : TypeDesc} {c : Code}

/-- bits of numbers that are not negative -/
theorem y_orn {k : IntKind} {p q : Nat} (hx : evO F x = some (.int k (p : Int)) := by rfl) (hy : evO F y = some (.int k (q : Int)) := by rfl)
    (hp : p < 2 ^ k.bits := by (simp only [IntKind.bits]; omega)) (hq : q < 2 ^ k.bits := by (simp only [IntKind.bits]; omega)) (hw : k.wrap ((p ||| q : Nat) : Int) = ((p ||| q : Nat) : Int)) :
    Y P n D W Bo ⟨d, .binOp .or ta x y tb, ty, ps, af, g⟩ F l (.int k ((p ||| q : Nat) : Int)) :=
  .mk (by simp) fun a w ha _ => by
    refine exec_bin P w w _ _ _ _ _ _ _ _ _ _ _ _ ⟨by simp, by simp⟩ ?_
    rw [ha.eval hx, ha.eval hy]
    simp only [binOp, ne_eq, not_true_eq_false, if_false, Op.intBits, Sem.run_pure]
    rw [BitVec.toNat_or, bitsn hp, bitsn hq, hw]
theorem y_andn {k : IntKind} {p q : Nat} (hx : evO F x = some (.int k (p : Int)) := by rfl) (hy : evO F y = some (.int k (q : Int)) := by rfl)
    (hp : p < 2 ^ k.bits := by (simp only [IntKind.bits]; omega)) (hq : q < 2 ^ k.bits := by (simp only [IntKind.bits]; omega)) (hw : k.wrap ((p &&& q : Nat) : Int) = ((p &&& q : Nat) : Int)) :
    Y P n D W Bo ⟨d, .binOp .and ta x y tb, ty, ps, af, g⟩ F l (.int k ((p &&& q : Nat) : Int)) :=
  .mk (by simp) fun a w ha _ => by
    refine exec_bin P w w _ _ _ _ _ _ _ _ _ _ _ _ ⟨by simp, by simp⟩ ?_
    rw [ha.eval hx, ha.eval hy]
    simp only [binOp, ne_eq, not_true_eq_false, if_false, Op.intBits, Sem.run_pure]
    rw [BitVec.toNat_and, bitsn hp, bitsn hq, hw]
/-- n << 8 | x: a byte more -/
theorem or_byte (p : Nat) (x : UInt8) : p * 2 ^ 8 ||| x.toNat = p * 256 + x.toNat := by
  have := Nat.shiftLeft_add_eq_or_of_lt (show x.toNat < 2 ^ 8 from x.toNat_lt) p
  rw [Nat.shiftLeft_eq] at this
  omega
theorem y_or8 {p : Nat} {q : UInt8} (hx : evO F x = some (I ((p * 2 ^ 8 : Nat) : Int)) := by rfl) (hy : evO F y = some (I (q.toNat : Int)) := by rfl) (hp : p < 36028797018963968 := by omega) :
    Y P n D W Bo ⟨d, .binOp .or ta x y tb, ty, ps, af, g⟩ F l (I ((p * 256 + q.toNat : Nat) : Int)) := by
  have h := q.toNat_lt
  have := y_orn (P := P) (n := n) (D := D) (W := W) (Bo := Bo) (l := l) (d := d) (ty := ty) (ps := ps) (af := af) (g := g) (ta := ta) (tb := tb) (F := F) (k := .i64) (p := p * 2 ^ 8) (q := q.toNat) hx hy (by simp only [IntKind.bits]; omega) (by simp only [IntKind.bits]; omega)
    (by rw [or_byte]; exact wrap_i64 (by unfold R64; omega))
  rwa [or_byte] at this

/-- an int shifted to the left by a constant, where nothing is lost -/
theorem y_shln (m : Nat) {p : Nat} {k k' : IntKind} (hx : evO F x = some (.int k (p : Int)) := by rfl) (hy : evO F y = some (.int k' (m : Int)) := by rfl) (h1 : m ≤ k.bits := by decide)
    (hw : k.wrap ((p * 2 ^ m : Nat) : Int) = ((p * 2 ^ m : Nat) : Int) := by first | exact wrap_i64 (by unfold R64; omega) | exact wrap_u64 (by omega) (by omega)) :
    Y P n D W Bo ⟨d, .binOp .shl ta x y tb, ty, ps, af, g⟩ F l (.int k ((p * 2 ^ m : Nat) : Int)) := by
  have e : (p : Int) * 2 ^ m = ((p * 2 ^ m : Nat) : Int) := by simp
  have := y_shl (P := P) (n := n) (D := D) (W := W) (Bo := Bo) (l := l) (d := d) (ty := ty) (ps := ps) (af := af) (g := g) (ta := ta) (tb := tb) hx hy (by omega) (by omega) (by rw [Int.toNat_natCast, e]; exact hw)
  rw [Int.toNat_natCast, e] at this
  exact this

/-- a byte to an int -/
theorem y_cvb [hu : HU P tb (.int .i64)] {tb' : Bool} [ha' : HT P ta tb'] {p : UInt8} (hx : evO F x = some (B p) := by rfl) : Y P n D W Bo ⟨d, .convert ta tb x, ty, ps, af, g⟩ F l (I (p.toNat : Int)) :=
  y_cvn (k := .i64) (p := (p.toNat : Int)) hx (wrap_i64 (by have := p.toNat_lt; unfold R64; omega))

/-! strings -/
theorem y_b2s [hu : HU P tb .string] [ha' : HU P ta (.slice e)] [he : HU P e (.int .u8)] {a : Option Addr} {q : List UInt8} {m c : Nat} (hx : evO F x = some (.slice a m c) := by rfl)
    (hr : RdS W Bo l a (bs q) := by first | exact rdW0 (by assumption) | exact rdR (by repeat (first | exact .head _ | apply List.Mem.tail)) | assumption) (hm : q.length = m := by rfl) : Y P n D W Bo ⟨d, .convert ta tb x, ty, ps, af, g⟩ F l (.string (sb q)) :=
  .mk (by simp) fun ac w ha hw => by
    subst hm
    simp only [execOp, ha.eval hx, Sem.run_bind, run_convert_bytes_string w ta tb e a _ c ha'.h he.h hu.h, run_b2s (hr w hw), Result.andThen_ok, Sem.run_pure]

theorem string_eq (a b : ByteArray) : (a.toList == b.toList) = decide (a = b) := by
  by_cases hab : a = b
  · subst hab; simp
  · rw [← beq_toListBytes, decide_eq_false hab]
    cases h : (a == b) with
    | false => rfl
    | true => exact absurd ((MapKept.bytes_beq a b).1 h) hab

theorem y_eqls {a b : ByteArray} (hx : evO F x = some (.string a) := by rfl) (hy : evO F y = some (.string b) := by rfl) : Y P n D W Bo ⟨d, .binOp .eql ta x y tb, ty, ps, af, g⟩ F l (.bool (decide (a = b))) :=
  .mk (by simp) fun ac w ha _ => by
    simp only [execOp, ha.eval hx, ha.eval hy, eqGuard, binOp, Op.stringOp, string_eq]
    rfl
theorem y_neqs {a b : ByteArray} (hx : evO F x = some (.string a) := by rfl) (hy : evO F y = some (.string b) := by rfl) : Y P n D W Bo ⟨d, .binOp .neq ta x y tb, ty, ps, af, g⟩ F l (.bool (!decide (a = b))) :=
  .mk (by simp) fun ac w ha _ => by
    simp only [execOp, ha.eval hx, ha.eval hy, eqGuard, binOp, Op.stringOp, string_eq]
    rfl
theorem y_eqlb {a b : Bool} [hu : HU P ta .bool] (hx : evO F x = some (.bool a) := by rfl) (hy : evO F y = some (.bool b) := by rfl) : Y P n D W Bo ⟨d, .binOp .eql ta x y tb, ty, ps, af, g⟩ F l (.bool (a == b)) :=
  .mk (by simp) fun ac w ha _ => by
    have : (Op.equal ta (.bool a) (.bool b)).run P w = .ok (a == b) w := by
      unfold Op.equal Op.equalIn
      simp [Op.maxDepth, run_underlying hu.h]
    simp [execOp, ha.eval hx, ha.eval hy, eqGuard, binOp, this]

/-- a slice with bounds and a capacity -/
theorem y_sllhm [hu : HU P t (.slice e)] {s by' : Nat} [hs : HS P e s by'] {a : Option Addr} {m c : Nat} {o : Operand} {k k' k2 : IntKind} {i j h : Int} (hx : evO F x = some (.slice a m c) := by rfl) (hy : evO F y = some (.int k i) := by rfl) (hz : evO F z = some (.int k' j) := by rfl) (ho : evO F o = some (.int k2 h) := by rfl)
    (h0 : 0 ≤ i := by omega) (h1 : i ≤ j := by omega) (h2 : j ≤ h := by omega) (h3 : h ≤ c := by omega) : Y P n D W Bo ⟨d, .slice t x (some y) (some z) (some o), ty, ps, af, g⟩ F l (.slice (sa a i.toNat h.toNat s) (j.toNat - i.toNat) (h.toNat - i.toNat)) :=
  .mk (by simp) fun ac w ha hw => by
    have e0 : (Instr.sliceBound (.int k2 h) c .slice3Acap).run P w = .ok h.toNat w := run_sliceBound w k2 h c _ (by omega) h3
    have e1 : (Instr.sliceBound (.int k' j) h.toNat .slice3B).run P w = .ok j.toNat w := run_sliceBound w k' j h.toNat _ (by omega) (by omega)
    have e2 : (Instr.sliceBound (.int k i) j.toNat .slice3C).run P w = .ok i.toNat w := run_sliceBound w k i j.toNat _ h0 (by omega)
    simp only [execOp, ha.eval hx, Option.map, ha.eval hy, ha.eval hz, ha.eval ho, Sem.run_bind, Instr.sliceAt, Instr.slice, run_underlying hu.h, Result.andThen_ok, Instr.sliceBounds, Sem.run_pure, if_true, e0, e1, run_sizeOf' hs]
    simp only [Option.isSome]
    rw [show (if True then BoundsCode.slice3C else BoundsCode.sliceB) = .slice3C from if_pos trivial, e2]
    rfl

/-! slices that own their memory, at once -/
/-- the empty literal -/
theorem s_bsl0 [ht : HU P t (.slice e)] {s by' : Nat} [hs : HS P e s by'] {parts : Array (Nat × Operand)}
    (h : ∀ b, LP r P n D W Bo ops Q rest ((dd, .slice (some ⟨b, 0, none⟩) 0 0) :: F) (.row (some ⟨b, 0, none⟩) 0 e s 0 [] :: l))
    (hp : parts.toList = [] := by rfl) (hn : Nat.blt dd n = true := by rfl) (hg : Wn ops F g := by first | exact .none | exact .some rfl rfl) :
    LP r P n D W Bo ops Q (⟨some dd, .buildSlice t 0 parts, ty, ps, af, g⟩ :: rest) F l :=
  s_new (fun b : Nat => .slice (some ⟨b, 0, none⟩) 0 0) (fun b => .row (some ⟨b, 0, none⟩) 0 e s 0 [] :: l) (fun _ => True) (by simp)
    (fun a w ha hw => ⟨w.heap.size, w.alloc (.cells #[] e), trivial, by
      have hp' : parts = #[] := by cases parts; simp_all
      subst hp'
      have e0 : ∀ f : Nat → Value, (Array.range 0).map f = #[] := fun f => by apply Array.ext' ; simp
      simp only [execOp, Instr.buildSlice, Sem.run_bind, run_underlying ht.h, run_sizeOf' hs, Result.andThen_ok, Nat.zero_mul, if_true, Sem.run_pure, e0]
      simp [Instr.fill, newRow],
      (hw.alloc (.cells #[] e)).toRow (s := s) (m := 0) (by simp) (by simp) (Rep.head _)⟩)
    (hn := hn) (hg := hg) (h := fun b _ => h b)

/-- a literal -/
theorem s_bslr [ht : HU P t (.slice e)] {s by' : Nat} [hs : HS P e s by'] {zz : Value} [hz : HZ P e zz] {m : Nat} {parts : Array (Nat × Operand)} {vs : List (Nat × Value)} {cs : List Value}
    (h : ∀ b, LP r P n D W Bo ops Q rest ((dd, .slice (some ⟨b, 0, none⟩) m m) :: F) (.row (some ⟨b, 0, none⟩) m e s m cs :: l))
    (hp : evP F parts.toList = some vs := by rfl)
    (hf : fillL (fun i => some (i * s, s)) (repL m zz.cells.toList) vs = some cs := by rfl)
    (hsz : cs.length = m * s := by rfl) (hzs : zz.cells.size = s := by rfl)
    (hm : 0 < m * s := by decide) (hm2 : m * s ≤ 16777216 := by decide) (hm3 : m ≤ maxLen := by decide) (hn : Nat.blt dd n = true := by rfl) (hg : Wn ops F g := by first | exact .none | exact .some rfl rfl) :
    LP r P n D W Bo ops Q (⟨some dd, .buildSlice t m parts, ty, ps, af, g⟩ :: rest) F l :=
  s_bsl (cs := cs.toArray) (fun b => fun a w ha hw => h b a w ha (hw.toRow (by simpa using hsz) hm3 (Rep.head _))) hp (by
    have h1 := fill_of hf
    rw [← repL_eq zz.cells s hzs m] at h1
    exact h1) hm hm2 hn hg

/-- append of so many zeros -/
theorem s_apz [ht : HU P ta (.slice e)] {kd : IntKind} [hu : HU P tb (.int kd)] {s by' : Nat} [hs : HS P e s by'] {zz : Value} [hz : HZ P e zz] {a : Option Addr} {k cc m : Nat} {xs : List Value} {ku : IntKind}
    {l'' : Option Addr → Nat → SH}
    (h : ∀ a' c', (a' = none → a = none ∧ m = 0) → LP r P n D W Bo ops Q rest ((dd, .slice a' (k + m) c') :: F) (l'' a' c'))
    (hx : evO F x = some (.slice a k cc) := by rfl) (hy : evO F y = some (.int ku (m : Int)) := by rfl)
    (hm : Res.row a cc e s k xs ∈ l := by repeat (first | exact .head _ | apply List.Mem.tail)) (hrep : ∀ a' c', Rep (.row a cc e s k xs) (.row a' c' e s (k + m) (xs ++ repL m zz.cells.toList)) l (l'' a' c') := by intro _ _; repeat (first | exact .head _ | apply Rep.tail))
    (h1 : ∀ v ∈ zz.cells.toList, v.oneCell' = true := by decide) (hfit : k + m ≤ maxLen := by (unfold maxLen; omega)) (hby : (k + m) * by' ≤ 140737488355328 := by omega)
    (hzs : zz.cells.size = s := by rfl) (hn : Nat.blt dd n = true := by rfl) (hg : Wn ops F g := by first | exact .none | exact .some rfl rfl) :
    LP r P n D W Bo ops Q (⟨some dd, .call ⟨.builtin .append, #[x, y], #[ta, tb]⟩, ty, ps, af, g⟩ :: rest) F l := by
  refine s_new (σ := Option Addr × Nat) (fun p => .slice p.1 (k + m) p.2) (fun p => l'' p.1 p.2) (fun p => p.1 = none → a = none ∧ m = 0) (by simp) ?_ (hn := hn) (hg := hg) (h := fun p hp => h p.1 p.2 hp)
  intro ac w ha hw
  obtain ⟨a', c', w', hrun, hrow, h2, h3, h4, h5, h6, h7, h8⟩ := run_appz (ty := ty) (ku := ku) (m := m) ht.h hu.h hs hz hzs (hw.own _ hm).1 h1 hfit hby
  refine ⟨(a', c'), w', h8, ?_, hw.change (hrep a' c') h2 h3 h4 h5 h6 hrow h7⟩
  have e1 : #[x, y].map ac.eval = #[.slice a k cc, .int ku (m : Int)] := by simp [ha.eval hx, ha.eval hy]
  simp only [execOp, resolve, e1, Sem.run_bind, Sem.run_pure, Result.andThen_ok, invoke, builtin, hrun]

/-- an inequality that is known -/
theorem s_nf {op : Op} {p : Prop} [dp : Decidable p] (hy : Y P n D W Bo ⟨some dd, op, ty, ps, af, g⟩ F l (.bool (!decide p)))
    (hp : p) (h1 : LP r P n D W Bo ops Q rest ((dd, .bool false) :: F) l) (hn : Nat.blt dd n = true := by rfl) (hg : Wn ops F g := by first | exact .none | exact .some rfl rfl) : LP r P n D W Bo ops Q (⟨some dd, op, ty, ps, af, g⟩ :: rest) F l :=
  s_y hy (by rw [decide_eq_true hp]; exact h1) hn hg
theorem s_nt {op : Op} {p : Prop} [dp : Decidable p] (hy : Y P n D W Bo ⟨some dd, op, ty, ps, af, g⟩ F l (.bool (!decide p)))
    (hp : ¬ p) (h1 : LP r P n D W Bo ops Q rest ((dd, .bool true) :: F) l) (hn : Nat.blt dd n = true := by rfl) (hg : Wn ops F g := by first | exact .none | exact .some rfl rfl) : LP r P n D W Bo ops Q (⟨some dd, op, ty, ps, af, g⟩ :: rest) F l :=
  s_y hy (by rw [decide_eq_false hp]; exact h1) hn hg
/-- a comparison that is known -/
theorem s_kt {op : Op} {p : Prop} [dp : Decidable p] (hy : Y P n D W Bo ⟨some dd, op, ty, ps, af, g⟩ F l (.bool (decide p)))
    (hp : p) (h1 : LP r P n D W Bo ops Q rest ((dd, .bool true) :: F) l) (hn : Nat.blt dd n = true := by rfl) (hg : Wn ops F g := by first | exact .none | exact .some rfl rfl) : LP r P n D W Bo ops Q (⟨some dd, op, ty, ps, af, g⟩ :: rest) F l :=
  s_y hy (by rw [decide_eq_true hp]; exact h1) hn hg
theorem s_kf {op : Op} {p : Prop} [dp : Decidable p] (hy : Y P n D W Bo ⟨some dd, op, ty, ps, af, g⟩ F l (.bool (decide p)))
    (hp : ¬ p) (h1 : LP r P n D W Bo ops Q rest ((dd, .bool false) :: F) l) (hn : Nat.blt dd n = true := by rfl) (hg : Wn ops F g := by first | exact .none | exact .some rfl rfl) : LP r P n D W Bo ops Q (⟨some dd, op, ty, ps, af, g⟩ :: rest) F l :=
  s_y hy (by rw [decide_eq_false hp]; exact h1) hn hg

/-- store of one cell into a slice that owns its memory -/
theorem s_str {by' : Nat} [hs : HS P t 1 by'] {a : Option Addr} {i cc k : Nat} {et : TypeId} {xs : List Value} (h : LP r P n D W Bo ops Q rest F l')
    (hx : evO F x = some (.pointer (some (ad a i))) := by rfl) (hv : evO F y = some v := by rfl)
    (hr : Rep (.row a cc et 1 k xs) (.row a cc et 1 k (xs.set i v)) l l' := by repeat (first | exact .head _ | apply Rep.tail)) (hi : i < xs.length) (h1 : v.oneCell' = true := by rfl) (hg : Wn ops F g := by first | exact .none | exact .some rfl rfl) :
    LP r P n D W Bo ops Q (⟨none, .store t x y, ty, ps, af, g⟩ :: rest) F l := by
  refine s_unit (by simp) (fun ac w ha hw => ?_) (hg := hg) (h := h)
  obtain ⟨hl, hkc, hown⟩ := (hw.own _ hr.mem).1
  rcases hown with ⟨rfl, rfl⟩ | ⟨b, cur, rfl, hb, hcm, hcs, htake⟩
  · omega
  · have hc : v.cells = #[v] := by cases v <;> first | rfl | simp [Value.oneCell'] at h1
    have hlt : i < cur.size := by rw [hcs]; omega
    have h2 := run_storeCells_at P b i et [v] 0 cur w hb (by simp; omega) (by simpa using h1)
    have e1 : (cur.toList.take (i + 0) ++ [v] ++ cur.toList.drop (i + 0 + [v].length)).toArray = cur.setIfInBounds i v := by
      apply Array.ext'
      simp [List.set_eq_take_append_cons_drop, hlt]
    rw [e1] at h2
    refine ⟨w.setRow b (cur.setIfInBounds i v), ?_, hw.change hr rfl rfl rfl (by simp) (fun k _ hk => setRow_other w b _ k (fun e => hk (by rw [e]; rfl))) ⟨by simpa using hl, hkc, .inr ⟨b, _, rfl, setRow_heap w b cur _ et (0, 0) hb, hcm, by simpa using hcs, ?_⟩⟩ (fun k hk => .inl hk)⟩
    · simp only [execOp, ha.eval hx, ha.eval hv, Instr.storeAt, Instr.sureAddr, storeVar, Sem.run_bind, Sem.run_pure, Result.andThen_ok, run_sizeOf' hs, hc, ad, Option.getD_some, Nat.zero_add]
      rw [if_neg (by simp)]
      rw [h2]
      rfl
    · rw [Array.toList_setIfInBounds, ← htake, List.take_set]

/-- an array that is written out -/
theorem y_blda {m : Nat} [hu : HU P t (.array m e)] {s by' : Nat} [hs : HS P e s by'] {zz : Value} [hz : HZ P t zz] {parts : Array (Nat × Operand)} {vs : List (Nat × Value)} {cs : List Value}
    (hp : evP F parts.toList = some vs := by rfl) (hf : fillL (fun i => some (i * s, s)) zz.cells.toList vs = some cs := by rfl) : Y P n D W Bo ⟨d, .build t parts, ty, ps, af, g⟩ F l (.agg cs.toArray) :=
  .mk (by simp) fun a w ha hw => by
    have e1 : (parts.map fun (i, x) => (i, a.eval x)).toList = vs := by
      rw [Array.toList_map]
      exact evP_eval ha hp
    have e2 := fill_of hf
    simp only [execOp, Instr.build, Sem.run_bind, hz.h, run_underlying hu.h, run_sizeOf' hs, Result.andThen_ok, e1]
    rw [show zz.cells = zz.cells.toList.toArray by simp, e2]
    rfl
end
end Eng
/- Regions whose order is open, and in which memory is made: operations that only read are taken as early as can be, the others in turn. -/
namespace Eng
open Go Go.RowKit

section
variable {P : Program} {ops : Array Oper} {Q : Exit → Act → World → Prop}

/-- whatever order is picked from here on; at each point the world is of the class C -/
def AnyC (P : Program) (ops : Array Oper) (Q : Exit → Act → World → Prop) (C : World → Prop) : Nat → Array Bool → Act → World → Prop
  | 0, listed, a, w => C w ∧ Region.ready .any ops listed = [] ∧ Q .normal a w
  | fuel + 1, listed, a, w => C w ∧ (Region.ready .any ops listed = [] → Q .normal a w) ∧
    ∀ i ∈ Region.ready .any ops listed, wpOpIn (Fw none) 0 P ops Q i (AnyC P ops Q C fuel (listed.setIfInBounds i true)) a w

theorem AnyC.any {C : World → Prop} : ∀ {fuel : Nat} {listed : Array Bool} {a : Act} {w : World}, AnyC P ops Q C fuel listed a w → wpAnyIn (Fw none) 0 P .any ops Q fuel listed a w
  | 0, _, _, _, h => h.2
  | _ + 1, _, _, _, h => ⟨h.2.1, fun i hi => wpOpIn_mono (fun _ _ h' => AnyC.any h') (h.2.2 i hi)⟩

theorem AnyC.at {C : World → Prop} {fuel : Nat} {listed : Array Bool} {a : Act} {w : World} (h : AnyC P ops Q C fuel listed a w) : C w := by
  cases fuel <;> exact h.1

theorem AnyC.mono {C C' : World → Prop} (hC : ∀ w, C' w → C w) : ∀ {fuel : Nat} {listed : Array Bool} {a : Act} {w : World}, AnyC P ops Q C' fuel listed a w → AnyC P ops Q C fuel listed a w
  | 0, _, _, _, h => ⟨hC _ h.1, h.2⟩
  | _ + 1, _, _, _, h => ⟨hC _ h.1, h.2.1, fun i hi => wpOpIn_mono (fun _ _ h' => AnyC.mono hC h') (h.2.2 i hi)⟩

/-- in every world of the class the operation yields v, or it is not wanted -/
def YC (P : Program) (ops : Array Oper) (C : World → Prop) (o : Oper) (v : Value) (a : Act) : Prop :=
  (Region.wanted o (yielded ops a.tmps) = true ∧ ∀ w, C w → (execOp a.eval o).run P w = .ok (.value v) w) ∨ (Region.wanted o (yielded ops a.tmps) = false ∧ v = undef)

theorem YC.op {C : World → Prop} {i : Nat} {o : Oper} {v : Value} {a : Act} (hi : ops[i]? = some o) (hy : YC P ops C o v a) {K : Act → World → Prop} {w : World} (hw : C w) (h : K (a.put o.dst v) w) :
    wpOpIn (Fw none) 0 P ops Q i K a w := by
  unfold wpOpIn
  simp only [hi]
  rcases hy with ⟨h1, hv⟩ | ⟨h1, rfl⟩
  · simp only [h1, if_true, Oper.wpIn, show (Fw none).round = none from rfl, Oper.semAt_none, hv w hw, Oper.uponIn]; exact ⟨fun _ _ => trivial, h⟩
  · simp only [h1, Bool.false_eq_true, if_false]; exact ⟨fun _ _ => trivial, h⟩

theorem YC.of_same {C : World → Prop} {o : Oper} {v : Value} {a a' : Act} (hy : YC P ops C o v a) (he : execOp a'.eval o = execOp a.eval o)
    (hw : Region.wanted o (yielded ops a'.tmps) = Region.wanted o (yielded ops a.tmps)) : YC P ops C o v a' := by
  unfold YC at *
  rw [he, hw]
  exact hy

theorem opIn_put {C : World → Prop} {j : Nat} {oi oj : Oper} {v : Value} (hj : ops[j]? = some oj) (hap : oi.apart ops oj = true)
    (hsi : ∀ cs b, oi.op ≠ .select cs b) (hsj : ∀ cs b, oj.op ≠ .select cs b)
    (hQ : ∀ c a w, Q (.panic c) (a.put oi.dst v) w → Q (.panic c) a w) {K : Act → World → Prop} {a : Act} {w : World}
    (hy : YC P ops C oi v a) (h : wpOpIn (Fw none) 0 P ops Q j K (a.put oi.dst v) w) :
    wpOpIn (Fw none) 0 P ops Q j (fun a' w' => YC P ops C oi v a' ∧ K (a'.put oi.dst v) w') a w := by
  obtain ⟨h1, h2, h3⟩ := Oper.apart_spec hap
  have hro : (Fw none).round = none := rfl
  have keep : ∀ (a : Act), YC P ops C oi v a → ∀ u, YC P ops C oi v (a.put oj.dst u) := fun a hy u =>
    hy.of_same (execOp_put oi hsi a oj.dst u h3) (wanted_put oi a oj.dst u h3)
  have keepD : ∀ d, YC P ops C oi v { a with defers := d :: a.defers } := fun d => hy.of_same rfl rfl
  unfold wpOpIn at *
  simp only [hj] at *
  rw [wanted_put oj a oi.dst v h1, about_put oj w a oi.dst v h1] at h
  split
  · rename_i hw
    simp only [hw, if_true] at h
    unfold Oper.wpIn at *
    rw [about_put oj w a oi.dst v h1] at h
    refine ⟨h.1, ?_⟩
    have h := h.2
    rw [hro, Oper.semAt_none, execOp_put oj hsj a oi.dst v h1] at h
    rw [hro, Oper.semAt_none]
    generalize (execOp a.eval oj).run P w = r at *
    cases r with
    | ok x w' =>
      cases x <;> simp only [Oper.uponIn] at h ⊢
      case value u => exact ⟨keep a hy u, by rw [← Act.put_comm a v u h2]; exact h⟩
      case skip => exact ⟨keep a hy _, by rw [← Act.put_comm a v undef h2]; exact h⟩
      case defer d =>
        refine ⟨keep _ (keepD d) _, ?_⟩
        rw [← Act.put_comm _ v undef h2, ← Act.put_defers]
        exact h
      case enter f args =>
        refine ⟨h.1, CallsIn.mono h.2 fun e w'' he => ?_⟩
        cases e with
        | returned u => exact ⟨keep a hy u, by rw [← Act.put_comm a v u h2]; exact he⟩
        | panicked c => exact hQ _ _ _ he
        | outgrown => exact he
      case row row args => exact ⟨h.1, RowsIn.mono h.2 fun u w'' he => ⟨keep a hy u, by rw [← Act.put_comm a v u h2]; exact he⟩⟩
      case round l f tmps assign body =>
        refine ⟨h.1, RoundIn.mono h.2 fun e w'' he => ?_⟩
        cases e with
        | returned u => exact ⟨keep a hy u, by rw [← Act.put_comm a v u h2]; exact he⟩
        | panicked c => exact hQ _ _ _ he
        | outgrown => exact he
    | halt x w' =>
      cases x <;> simp only [Oper.uponIn] at h ⊢
      case panic u => exact hQ _ _ _ h
  · rename_i hw
    simp only [hw] at h
    exact ⟨h.1, keep a hy _, by rw [← Act.put_comm a v undef h2]; exact h.2⟩

theorem AnyC.first {C : World → Prop} {i : Nat} {oi : Oper} {v : Value} (hi : ops[i]? = some oi) (hsel : ∀ (j : Nat) (o : Oper) cs b, ops[j]? = some o → o.op ≠ .select cs b)
    (hQ : ∀ c a w, Q (.panic c) (a.put oi.dst v) w → Q (.panic c) a w) :
    ∀ (fuel : Nat) (listed : Array Bool) (a : Act) (w : World),
      (∀ j oj, ops[j]? = some oj → j ≠ i → listed.getD j true = false → (∀ e ∈ oj.after, Region.binds .any e = true → e.on ≠ i) → oi.apart ops oj = true) →
      i ∈ Region.ready .any ops listed → YC P ops C oi v a →
      AnyC P ops Q C fuel (listed.setIfInBounds i true) (a.put oi.dst v) w → AnyC P ops Q C (fuel + 1) listed a w := by
  intro fuel
  induction fuel with
  | zero =>
    intro listed a w _ hr hy H
    refine ⟨H.1, fun h => (by rw [h] at hr; cases hr), fun j hj => ?_⟩
    by_cases hji : j = i
    · subst hji; exact hy.op hi H.1 H
    · have := ready_mono hj hji
      rw [H.2.1] at this
      cases this
  | succ fuel ih =>
    intro listed a w hfree hr hy H
    refine ⟨H.1, fun h => (by rw [h] at hr; cases hr), fun j hj => ?_⟩
    by_cases hji : j = i
    · subst hji; exact hy.op hi H.1 H
    · have h1 := H.2.2 j (ready_mono hj hji)
      obtain ⟨hjun, oj, hoj, hall⟩ := mem_ready.1 hj
      have hnot : ∀ e ∈ oj.after, Region.binds .any e = true → e.on ≠ i := fun e he hb heq => by
        have h1 := hall e he hb
        have h0 := (mem_ready.1 hr).1
        rw [heq] at h1
        rcases Nat.lt_or_ge i listed.size with h' | h'
        · simp [h'] at h0 h1; rw [h0] at h1; cases h1
        · simp [Array.getElem?_eq_none h'] at h1
      have h2 := opIn_put hoj (hfree j oj hoj hji hjun hnot) (fun cs b => hsel i oi cs b hi) (fun cs b => hsel j oj cs b hoj) hQ hy h1
      have hfree' : ∀ k ok, ops[k]? = some ok → k ≠ i → (listed.setIfInBounds j true).getD k true = false →
          (∀ e ∈ ok.after, Region.binds .any e = true → e.on ≠ i) → oi.apart ops ok = true := fun k ok hk hki hun hno => by
        refine hfree k ok hk hki ?_ hno
        by_cases hjk : j = k
        · subst hjk; exact hjun
        · rw [getD_set_ne true hjk] at hun; exact hun
      refine wpOpIn_mono (fun a' w' h3 => ih (listed.setIfInBounds j true) a' w' hfree' (ready_mono hr (Ne.symm hji)) h3.1 ?_) h2
      rw [Array.setIfInBounds_comm _ _ hji]
      exact h3.2

theorem wpIn_monoQ {o : Oper} {a : Act} {w : World} {K : Act → World → Prop} {Q Q' : Exit → Act → World → Prop} (hP : ∀ c a w, Q (.panic c) a w → Q' (.panic c) a w) (hO : LetsOut Q → LetsOut Q')
    (hh : o.wpIn (Fw none) 0 P a w K Q) : o.wpIn (Fw none) 0 P a w K Q' := by
  unfold Oper.wpIn at *
  refine ⟨hh.1, ?_⟩
  have hh := hh.2
  generalize (o.semAt (Fw none).round a.eval).run P w = r at *
  cases r with
  | ok x w' =>
    cases x <;> simp only [Oper.uponIn] at hh ⊢ <;>
      first
        | exact hh
        | exact ⟨hh.1, CallsIn.mono hh.2 (fun e w'' he => by cases e <;> first | exact he | exact hP _ _ _ he | exact hO he)⟩
        | exact ⟨hh.1, RoundIn.mono hh.2 (fun e w'' he => by cases e <;> first | exact he | exact hP _ _ _ he | exact hO he)⟩
  | halt x w' => cases x <;> simp only [Oper.uponIn] at hh ⊢ <;> first | exact hP _ _ _ hh | exact hO hh | exact hh

/-- only the normal end -/
def Q0 (Q : Exit → Act → World → Prop) : Exit → Act → World → Prop := fun e a w => e = .normal ∧ Q .normal a w
/-- what follows in an open region -/
def QK (P : Program) (W : World) (Bo : List Nat) (ops : Array Oper) (Q : Exit → Act → World → Prop) (lp : SH) (fuel : Nat) (listed : Array Bool) : Exit → Act → World → Prop :=
  fun e a w => e = .normal ∧ AnyC P ops (Q0 Q) (fun w => St W Bo w lp) fuel listed a w

def DC (P : Program) (n : Nat) (D : List Deferred) (W : World) (Bo : List Nat) (ops : Array Oper) (Q : Exit → Act → World → Prop) (lp : SH) (fuel : Nat) (listed : Array Bool) (F : List (Nat × Value)) (l : SH) : Prop :=
  Region.noSelect ops = true → ∀ a w, Fr n F D a → St W Bo w l → AnyC P ops (Q0 Q) (fun w => St W Bo w lp) fuel listed a w
end

section
variable {P : Program} {n : Nat} {D : List Deferred} {W : World} {Bo : List Nat} {F F' : List (Nat × Value)} {l l' lp lp' : SH}
  {d : Option Tmp} {dd : Nat} {ty : TypeId} {ps : String} {af : Array Edge} {g : Option (Nat × Bool)} {x y z : Operand} {v u : Value} {ta tb t e : TypeId}
  {Q : Exit → Act → World → Prop} {ops : Array Oper} {rest : List Oper} {td : TypeDesc} {c : Code} {fuel : Nat} {listed : Array Bool}

/-- an open region; lp: what is known of memory throughout -/
theorem c_any [hm : HM P] (lp : SH) {id : Nat} {os : List Oper} (h : DC P n D W Bo os.toArray Q lp os.length (Array.replicate os.length false) F l) (hs : Region.noSelect os.toArray = true := by kernel_rfl) :
    CP none P n D W Bo (.region id os.toArray true) Q F l := by
  intro a w ha hw
  have h1 := (h hs a w.drew ha hw.drew).any
  have h2 : (Code.region id os.toArray true).wpIn (Fw none) 0 P (Q0 Q) a w := wpIn_region_any hm.h (by simpa using h1)
  exact wpIn_mono h2 fun e a w hq => by obtain ⟨rfl, hq⟩ := hq; exact hq

theorem r_end (h : QP n D W Bo Q .normal F l) (hr : Region.ready .any ops listed = [] := by kernel_rfl) (hsub : lp.Sublist l := by first | exact List.nil_sublist _ | exact List.Sublist.refl _ | exact .cons _ (.refl _) | exact .cons _ (.cons _ (.refl _)) | exact .cons _ (.cons _ (.cons _ (.refl _)))) : DC P n D W Bo ops Q lp fuel listed F l := by
  intro hs a w ha hw
  cases fuel with
  | zero => exact ⟨hw.sub hsub, hr, rfl, h a w ha hw⟩
  | succ k => exact ⟨hw.sub hsub, fun _ => ⟨rfl, h a w ha hw⟩, by rw [hr]; simp⟩

theorem r_yc {o : Oper} (i : Nat) (hi : ops[i]? = some o) (hy : ∀ a, Fr n F D a → YC P ops (fun w => St W Bo w lp) o v a) (h : DC P n D W Bo ops Q lp fuel (listed.setIfInBounds i true) F' l)
    (hF : ∀ a, Fr n F D a → Fr n F' D (a.put o.dst v)) (hr : (Region.ready .any ops listed).contains i = true) (hf : Region.free .any ops listed i = true) : DC P n D W Bo ops Q lp (fuel + 1) listed F l := by
  intro hs a w ha hw
  exact AnyC.first hi (Region.noSelect_spec hs) (fun c a w hq => by cases hq.1) fuel listed a w (Region.free_spec hi hf) (by simpa using hr) (hy a ha) (h hs _ w (hF a ha) hw)

/-- one that reads -/
theorem r_y {op : Op} (i : Nat) (hi : ops[i]? = some ⟨some dd, op, ty, ps, af, g⟩) (hy : Y P n D W Bo ⟨some dd, op, ty, ps, af, g⟩ F lp v) (h : DC P n D W Bo ops Q lp fuel (listed.setIfInBounds i true) ((dd, v) :: F) l)
    (hn : Nat.blt dd n = true := by rfl) (hg : Wn ops F g := by first | exact .none | exact .some rfl rfl)
    (hr : (Region.ready .any ops listed).contains i = true := by kernel_rfl) (hf : Region.free .any ops listed i = true := by kernel_rfl) : DC P n D W Bo ops Q lp (fuel + 1) listed F l :=
  r_yc i hi (fun a ha => .inl ⟨hg.wanted rfl ha, fun w hw => hy.2 a w ha hw⟩) h (fun _ ha => ha.put dd v hn) hr hf
theorem r_yt {op : Op} {p : Prop} [dp : Decidable p] (i : Nat) (hi : ops[i]? = some ⟨some dd, op, ty, ps, af, g⟩) (hy : Y P n D W Bo ⟨some dd, op, ty, ps, af, g⟩ F lp (.bool (decide p))) (hp : p) (h : DC P n D W Bo ops Q lp fuel (listed.setIfInBounds i true) ((dd, .bool true) :: F) l)
    (hn : Nat.blt dd n = true := by rfl) (hg : Wn ops F g := by first | exact .none | exact .some rfl rfl)
    (hr : (Region.ready .any ops listed).contains i = true := by kernel_rfl) (hf : Region.free .any ops listed i = true := by kernel_rfl) : DC P n D W Bo ops Q lp (fuel + 1) listed F l :=
  r_y i hi hy (by rw [decide_eq_true hp]; exact h) hn hg hr hf
theorem r_no {op : Op} {j ee : Nat} {b b' : Bool} (i : Nat) (hi : ops[i]? = some ⟨some dd, op, ty, ps, af, some (j, b)⟩) (h : DC P n D W Bo ops Q lp fuel (listed.setIfInBounds i true) ((dd, undef) :: F) l) (hn : Nat.blt dd n = true := by rfl)
    (hj : (ops[j]?).bind (·.dst) = some ee := by rfl) (hv : lkO F ee = some (.bool b') := by rfl) (hb : (b' == b) = false := by rfl)
    (hr : (Region.ready .any ops listed).contains i = true := by kernel_rfl) (hf : Region.free .any ops listed i = true := by kernel_rfl) : DC P n D W Bo ops Q lp (fuel + 1) listed F l :=
  r_yc i hi (fun _ ha => .inr ⟨unwanted_of (o := ⟨some dd, op, ty, ps, af, some (j, b)⟩) rfl hj hv hb ha, rfl⟩) h (fun _ ha => ha.put dd _ hn) hr hf
theorem r_nu {op : Op} {j ee : Nat} {b : Bool} (i : Nat) (hi : ops[i]? = some ⟨some dd, op, ty, ps, af, some (j, b)⟩) (h : DC P n D W Bo ops Q lp fuel (listed.setIfInBounds i true) ((dd, undef) :: F) l) (hn : Nat.blt dd n = true := by rfl)
    (hj : (ops[j]?).bind (·.dst) = some ee := by rfl) (hv : lkO F ee = some undef := by rfl)
    (hr : (Region.ready .any ops listed).contains i = true := by kernel_rfl) (hf : Region.free .any ops listed i = true := by kernel_rfl) : DC P n D W Bo ops Q lp (fuel + 1) listed F l :=
  r_yc i hi (fun _ ha => .inr ⟨unwanted_of' (o := ⟨some dd, op, ty, ps, af, some (j, b)⟩) rfl hj hv ha, rfl⟩) h (fun _ ha => ha.put dd _ hn) hr hf

theorem r_op {o : Oper} {i : Nat} (hi : ops[i]? = some o) {a : Act} {w : World} (h : wpListIn (Fw none) 0 P ops (QK P W Bo ops Q lp fuel (listed.setIfInBounds i true)) [o] a w) :
    wpOpIn (Fw none) 0 P ops (Q0 Q) i (AnyC P ops (Q0 Q) (fun w => St W Bo w lp) fuel (listed.setIfInBounds i true)) a w := by
  unfold wpOpIn
  simp only [hi]
  simp only [wpListIn] at h
  split
  · rename_i hw
    rw [if_pos hw] at h
    exact wpIn_monoQ (Q := QK P W Bo ops Q lp fuel (listed.setIfInBounds i true)) (fun c a w hq => by cases hq.1) (fun hq => by obtain ⟨_, _, h9⟩ := hq; cases h9.1) (Oper.wpIn_mono (fun a w hk => hk.2) h)
  · rename_i hw
    rw [if_neg hw] at h
    exact ⟨h.1, h.2.2⟩

/-- one that makes or changes memory, where no other one could come -/
theorem r_w {o : Oper} (i : Nat) (hi : ops[i]? = some o) (h : LP none P n D W Bo ops (QK P W Bo ops Q lp fuel (listed.setIfInBounds i true)) [o] F l)
    (hr : Region.ready .any ops listed = [i] := by kernel_rfl) (hsub : lp.Sublist l := by first | exact List.nil_sublist _ | exact List.Sublist.refl _ | exact .cons _ (.refl _) | exact .cons _ (.cons _ (.refl _)) | exact .cons _ (.cons _ (.cons _ (.refl _)))) :
    DC P n D W Bo ops Q lp (fuel + 1) listed F l := by
  intro hs a w ha hw
  unfold AnyC
  refine ⟨hw.sub hsub, fun h0 => absurd (hr ▸ h0) (by simp), fun j hj => ?_⟩
  rw [hr, List.mem_singleton] at hj
  subst hj
  exact r_op hi (h a w ha hw)
/-- two of them -/
theorem r_w2 {o o2 : Oper} (i j : Nat) (hi : ops[i]? = some o) (hj : ops[j]? = some o2) (h : LP none P n D W Bo ops (QK P W Bo ops Q lp fuel (listed.setIfInBounds i true)) [o] F l)
    (h2 : LP none P n D W Bo ops (QK P W Bo ops Q lp fuel (listed.setIfInBounds j true)) [o2] F l)
    (hr : Region.ready .any ops listed = [i, j] := by kernel_rfl) (hsub : lp.Sublist l := by first | exact List.nil_sublist _ | exact List.Sublist.refl _ | exact .cons _ (.refl _) | exact .cons _ (.cons _ (.refl _)) | exact .cons _ (.cons _ (.cons _ (.refl _)))) :
    DC P n D W Bo ops Q lp (fuel + 1) listed F l := by
  intro hs a w ha hw
  unfold AnyC
  refine ⟨hw.sub hsub, fun h0 => absurd (hr ▸ h0) (by simp), fun k hk => ?_⟩
  rw [hr] at hk
  rcases List.mem_cons.1 hk with rfl | hk
  · exact r_op hi (h a w ha hw)
  · rw [List.mem_singleton] at hk
    subst hk
    exact r_op hj (h2 a w ha hw)
/-- and on, with more that is known throughout -/
theorem r_k (hs : Region.noSelect ops = true) (lp' : SH) (h : DC P n D W Bo ops Q lp' fuel listed F l) (hlp : lp.Sublist lp') : LP none P n D W Bo ops (QK P W Bo ops Q lp fuel listed) [] F l := by
  refine s_nil ?_
  intro a w ha hw
  exact ⟨rfl, (h hs a w ha hw).mono fun w hw => hw.sub hlp⟩
theorem c_regA [hm : HM P] {id : Nat} {os : List Oper} (h : DC P n D W Bo os.toArray Q l os.length (Array.replicate os.length false) F l) (hs : Region.noSelect os.toArray = true := by kernel_rfl) :
    CP none P n D W Bo (.region id os.toArray true) Q F l := c_any l h hs
theorem r_kl (h : DC P n D W Bo ops Q l fuel listed F l) (hs : Region.noSelect ops = true := by kernel_rfl) (hlp : lp.Sublist l := by first | exact List.nil_sublist _ | exact List.Sublist.refl _ | exact .cons _ (.refl _) | exact .cons _ (.cons _ (.refl _)) | exact .cons _ (.cons _ (.cons _ (.refl _)))) :
    LP none P n D W Bo ops (QK P W Bo ops Q lp fuel listed) [] F l := r_k hs l h hlp
/-- a call or an allocation, by a rule for one operation -/
theorem r_ynf {op : Op} {p : Prop} [dp : Decidable p] (i : Nat) (hi : ops[i]? = some ⟨some dd, op, ty, ps, af, g⟩) (hy : Y P n D W Bo ⟨some dd, op, ty, ps, af, g⟩ F lp (.bool (!decide p))) (hp : p) (h : DC P n D W Bo ops Q lp fuel (listed.setIfInBounds i true) ((dd, .bool false) :: F) l)
    (hn : Nat.blt dd n = true := by rfl) (hg : Wn ops F g := by first | exact .none | exact .some rfl rfl)
    (hr : (Region.ready .any ops listed).contains i = true := by kernel_rfl) (hf : Region.free .any ops listed i = true := by kernel_rfl) : DC P n D W Bo ops Q lp (fuel + 1) listed F l :=
  r_y i hi hy (by rw [decide_eq_true hp]; exact h) hn hg hr hf
end
end Eng
/- Further rules of the walk. -/
namespace Eng
open Go Go.RowKit
section
variable {r : Option Nat} {P : Program} {n : Nat} {D : List Deferred} {W : World} {Bo : List Nat} {F G : List (Nat × Value)} {l l2 : SH} {c c1 c2 c3 : Code} {Q Q' : Exit → Act → World → Prop}

/-- ways that come together: what is known from there on is the same -/
def Jn (n : Nat) (D : List Deferred) (W : World) (Bo : List Nat) (G : List (Nat × Value)) (l2 : SH) : Act → World → Prop := fun a w => Fr n G D a ∧ St W Bo w l2

theorem c_join (G : List (Nat × Value)) (l2 : SH) (h1 : CP r P n D W Bo c1 (Exit.then (Jn n D W Bo G l2) Q) F l) (h2 : CP r P n D W Bo c2 Q G l2) : CP r P n D W Bo (.seq c1 c2) Q F l :=
  c_seq fun a w ha hw => wpIn_mono (h1 a w ha hw) fun e a' w' q => by
    cases e with
    | normal => exact h2 a' w' q.1 q.2
    | exit id => exact q
    | goto l => exact q
    | ret => exact q
    | panic ch => exact q
    | outgrown => exact q
theorem q_join (hs : Sub F G) (hl : l2.Sublist l) : QP n D W Bo (Exit.then (Jn n D W Bo G l2) Q) .normal F l := fun _ _ ha hw => ⟨ha.weaken hs, hw.sub hl⟩
end

theorem bits8 (p q : UInt8) (f : BitVec 8 → BitVec 8 → BitVec 8) (r : UInt8) (h : f p.toBitVec q.toBitVec = r.toBitVec) :
    IntKind.u8.wrap ((f (BitVec.ofInt 8 (p.toNat : Int)) (BitVec.ofInt 8 (q.toNat : Int))).toNat : Int) = (r.toNat : Int) := by
  have e : ∀ x : UInt8, BitVec.ofInt 8 (x.toNat : Int) = x.toBitVec := by
    intro x; rw [BitVec.ofInt_natCast]; exact BitVec.eq_of_toNat_eq (by simp)
  rw [e, e, h, wrap_u8]
  have := r.toBitVec.isLt
  show ((r.toNat : Int)) % 256 = _
  have h2 : r.toNat < 256 := this
  omega

section
variable {r : Option Nat} {P : Program} {n : Nat} {D : List Deferred} {W : World} {Bo : List Nat} {F : List (Nat × Value)} {l l' : SH}
  {d : Option Tmp} {dd : Nat} {ty : TypeId} {ps : String} {af : Array Edge} {g : Option (Nat × Bool)} {x y z : Operand} {v u : Value} {ta tb t e : TypeId}
  {Q : Exit → Act → World → Prop} {ops : Array Oper} {rest : List Oper} {td : TypeDesc} {c : Code}

theorem y_xor8 {p q : UInt8} (hx : evO F x = some (B p) := by rfl) (hy : evO F y = some (B q) := by rfl) : Y P n D W Bo ⟨d, .binOp .xor ta x y tb, ty, ps, af, g⟩ F l (B (p ^^^ q)) :=
  .mk (by simp) fun a w ha _ => by
    have h := bits8 p q (· ^^^ ·) (p ^^^ q) rfl
    simp only [execOp, ha.eval hx, ha.eval hy, eqGuard, binOp]
    show Result.ok (Next.value (.int .u8 (IntKind.u8.wrap _))) w = _
    exact congrArg (fun z => Result.ok (Next.value (.int .u8 z)) w) h
theorem y_rem64 {p q : Nat} (hx : evO F x = some (U p) := by rfl) (hy : evO F y = some (U q) := by rfl) (h1 : 0 < q := by omega) (hp : p < 18446744073709551616 := by omega) : Y P n D W Bo ⟨d, .binOp .rem ta x y tb, ty, ps, af, g⟩ F l (U (p % q)) :=
  .mk (by simp) fun a w ha _ => by
    have h5 : q ≠ 0 := by omega
    have h6 : IntKind.u64.wrap ((p : Int) % (q : Int)) = ((p % q : Nat) : Int) := by
      rw [← Int.natCast_emod]
      exact wrap_u64 (by omega) (by have := Nat.mod_le p q; omega)
    simp [execOp, ha.eval hx, ha.eval hy, eqGuard, binOp, Op.intDiv, h5, Int.tmod_eq_emod_of_nonneg]
theorem y_ori {p q : Nat} (hx : evO F x = some (I (p : Int)) := by rfl) (hy : evO F y = some (I (q : Int)) := by rfl)
    (hp : p < 4611686018427387904 := by omega) (hq : q < 4611686018427387904 := by omega) :
    Y P n D W Bo ⟨d, .binOp .or ta x y tb, ty, ps, af, g⟩ F l (I ((p ||| q : Nat) : Int)) :=
  y_orn hx hy (by simp only [IntKind.bits]; omega) (by simp only [IntKind.bits]; omega)
    (by have := Nat.or_lt_two_pow (n := 62) hp hq; exact wrap_i64 (by unfold R64; omega))

/-- what is known of a slice that owns its memory -/
theorem row_fact {w : World} (hw : St W Bo w l) {a : Option Addr} {cc s k : Nat} {xs : List Value} (hm : Res.row a cc e s k xs ∈ l) : k ≤ cc ∧ cc ≤ maxLen := by
  obtain ⟨_, h2, h3⟩ := (hw.own _ hm).1
  refine ⟨h2, ?_⟩
  rcases h3 with ⟨_, rfl⟩ | ⟨_, _, _, _, h4, _⟩
  · exact Nat.zero_le _
  · exact h4
theorem c_row {a : Option Addr} {cc s k : Nat} {xs : List Value} (h : k ≤ cc → cc ≤ maxLen → CP r P n D W Bo c Q F l) (hm : Res.row a cc e s k xs ∈ l := by repeat (first | exact .head _ | apply List.Mem.tail)) : CP r P n D W Bo c Q F l :=
  fun a w ha hw => h (row_fact hw hm).1 (row_fact hw hm).2 a w ha hw
theorem s_row {a : Option Addr} {cc s k : Nat} {xs : List Value} (h : k ≤ cc → cc ≤ maxLen → LP r P n D W Bo ops Q rest F l) (hm : Res.row a cc e s k xs ∈ l := by repeat (first | exact .head _ | apply List.Mem.tail)) : LP r P n D W Bo ops Q rest F l :=
  fun a w ha hw => h (row_fact hw hm).1 (row_fact hw hm).2 a w ha hw

theorem d_nf {op : Op} {p : Prop} [dp : Decidable p] (hy : Y P n D W Bo ⟨some dd, op, ty, ps, af, g⟩ F l (.bool (!decide p)))
    (hp : p) (h1 : DP P n D W Bo ops Q rest ((dd, .bool false) :: F) l) (hn : Nat.blt dd n = true := by rfl) (hg : Wn ops F g := by first | exact .none | exact .some rfl rfl) : DP P n D W Bo ops Q (⟨some dd, op, ty, ps, af, g⟩ :: rest) F l :=
  d_y hy (by rw [decide_eq_true hp]; exact h1) hn hg
theorem d_nt {op : Op} {p : Prop} [dp : Decidable p] (hy : Y P n D W Bo ⟨some dd, op, ty, ps, af, g⟩ F l (.bool (!decide p)))
    (hp : ¬ p) (h1 : DP P n D W Bo ops Q rest ((dd, .bool true) :: F) l) (hn : Nat.blt dd n = true := by rfl) (hg : Wn ops F g := by first | exact .none | exact .some rfl rfl) : DP P n D W Bo ops Q (⟨some dd, op, ty, ps, af, g⟩ :: rest) F l :=
  d_y hy (by rw [decide_eq_false hp]; exact h1) hn hg
theorem d_kt {op : Op} {p : Prop} [dp : Decidable p] (hy : Y P n D W Bo ⟨some dd, op, ty, ps, af, g⟩ F l (.bool (decide p)))
    (hp : p) (h1 : DP P n D W Bo ops Q rest ((dd, .bool true) :: F) l) (hn : Nat.blt dd n = true := by rfl) (hg : Wn ops F g := by first | exact .none | exact .some rfl rfl) : DP P n D W Bo ops Q (⟨some dd, op, ty, ps, af, g⟩ :: rest) F l :=
  d_y hy (by rw [decide_eq_true hp]; exact h1) hn hg
theorem d_kf {op : Op} {p : Prop} [dp : Decidable p] (hy : Y P n D W Bo ⟨some dd, op, ty, ps, af, g⟩ F l (.bool (decide p)))
    (hp : ¬ p) (h1 : DP P n D W Bo ops Q rest ((dd, .bool false) :: F) l) (hn : Nat.blt dd n = true := by rfl) (hg : Wn ops F g := by first | exact .none | exact .some rfl rfl) : DP P n D W Bo ops Q (⟨some dd, op, ty, ps, af, g⟩ :: rest) F l :=
  d_y hy (by rw [decide_eq_false hp]; exact h1) hn hg
end
end Eng
/- Regions whose order is open and whose last operation, which waits for all others, changes memory: what is read is read before it. -/
namespace Eng
open Go Go.RowKit

section
variable {P : Program} {ops : Array Oper} {Q : Exit → Act → World → Prop}

/-- whatever order is picked from here on; the world is of the class C till the operation f has been carried out -/
def AnyF (P : Program) (ops : Array Oper) (Q : Exit → Act → World → Prop) (C : World → Prop) (f : Nat) : Nat → Array Bool → Act → World → Prop
  | 0, listed, a, w => (listed.getD f false = true ∨ C w) ∧ Region.ready .any ops listed = [] ∧ Q .normal a w
  | fuel + 1, listed, a, w => (listed.getD f false = true ∨ C w) ∧ (Region.ready .any ops listed = [] → Q .normal a w) ∧
    ∀ i ∈ Region.ready .any ops listed, wpOpIn (Fw none) 0 P ops Q i (AnyF P ops Q C f fuel (listed.setIfInBounds i true)) a w

theorem AnyF.any {C : World → Prop} {f : Nat} : ∀ {fuel : Nat} {listed : Array Bool} {a : Act} {w : World}, AnyF P ops Q C f fuel listed a w → wpAnyIn (Fw none) 0 P .any ops Q fuel listed a w
  | 0, _, _, _, h => h.2
  | _ + 1, _, _, _, h => ⟨h.2.1, fun i hi => wpOpIn_mono (fun _ _ h' => AnyF.any h') (h.2.2 i hi)⟩

theorem AnyF.at {C : World → Prop} {f fuel : Nat} {listed : Array Bool} {a : Act} {w : World} (h : AnyF P ops Q C f fuel listed a w) : listed.getD f false = true ∨ C w := by
  cases fuel <;> exact h.1

theorem AnyF.mono {C C' : World → Prop} {f : Nat} (hC : ∀ w, C' w → C w) : ∀ {fuel : Nat} {listed : Array Bool} {a : Act} {w : World}, AnyF P ops Q C' f fuel listed a w → AnyF P ops Q C f fuel listed a w
  | 0, _, _, _, h => ⟨h.1.imp id (hC _), h.2⟩
  | _ + 1, _, _, _, h => ⟨h.1.imp id (hC _), h.2.1, fun i hi => wpOpIn_mono (fun _ _ h' => AnyF.mono hC h') (h.2.2 i hi)⟩

theorem AnyF.first {C : World → Prop} {f i : Nat} {oi : Oper} {v : Value} (hi : ops[i]? = some oi) (hsel : ∀ (j : Nat) (o : Oper) cs b, ops[j]? = some o → o.op ≠ .select cs b)
    (hQ : ∀ c a w, Q (.panic c) (a.put oi.dst v) w → Q (.panic c) a w) (hif : i ≠ f) (hdep : ∀ o, ops[f]? = some o → ∃ e ∈ o.after, Region.binds .any e = true ∧ e.on = i) :
    ∀ (fuel : Nat) (listed : Array Bool) (a : Act) (w : World),
      (∀ j oj, ops[j]? = some oj → j ≠ i → listed.getD j true = false → (∀ e ∈ oj.after, Region.binds .any e = true → e.on ≠ i) → oi.apart ops oj = true) →
      i ∈ Region.ready .any ops listed → listed.getD f false = false → YC P ops C oi v a →
      AnyF P ops Q C f fuel (listed.setIfInBounds i true) (a.put oi.dst v) w → AnyF P ops Q C f (fuel + 1) listed a w := by
  have hat : ∀ {fuel : Nat} {listed : Array Bool} {a : Act} {w : World}, listed.getD f false = false → AnyF P ops Q C f fuel (listed.setIfInBounds i true) a w → C w := by
    intro fuel listed a w hf H
    rcases H.at with h | h
    · rw [getD_set_ne false hif, hf] at h; cases h
    · exact h
  intro fuel
  induction fuel with
  | zero =>
    intro listed a w _ hr hf hy H
    refine ⟨.inr (hat hf H), fun h => (by rw [h] at hr; cases hr), fun j hj => ?_⟩
    by_cases hji : j = i
    · subst hji; exact hy.op hi (hat hf H) H
    · have := ready_mono hj hji
      rw [H.2.1] at this
      cases this
  | succ fuel ih =>
    intro listed a w hfree hr hf hy H
    refine ⟨.inr (hat hf H), fun h => (by rw [h] at hr; cases hr), fun j hj => ?_⟩
    by_cases hji : j = i
    · subst hji; exact hy.op hi (hat hf H) H
    · have h1 := H.2.2 j (ready_mono hj hji)
      obtain ⟨hjun, oj, hoj, hall⟩ := mem_ready.1 hj
      have hnot : ∀ e ∈ oj.after, Region.binds .any e = true → e.on ≠ i := fun e he hb heq => by
        have h1 := hall e he hb
        have h0 := (mem_ready.1 hr).1
        rw [heq] at h1
        rcases Nat.lt_or_ge i listed.size with h' | h'
        · simp [h'] at h0 h1; rw [h0] at h1; cases h1
        · simp [Array.getElem?_eq_none h'] at h1
      have hjf : j ≠ f := fun e => by
        subst e
        obtain ⟨e, he, hb, h9⟩ := hdep oj hoj
        exact hnot e he hb h9
      have h2 := opIn_put hoj (hfree j oj hoj hji hjun hnot) (fun cs b => hsel i oi cs b hi) (fun cs b => hsel j oj cs b hoj) hQ hy h1
      have hfree' : ∀ k ok, ops[k]? = some ok → k ≠ i → (listed.setIfInBounds j true).getD k true = false →
          (∀ e ∈ ok.after, Region.binds .any e = true → e.on ≠ i) → oi.apart ops ok = true := fun k ok hk hki hun hno => by
        refine hfree k ok hk hki ?_ hno
        by_cases hjk : j = k
        · subst hjk; exact hjun
        · rw [getD_set_ne true hjk] at hun; exact hun
      refine wpOpIn_mono (fun a' w' h3 => ih (listed.setIfInBounds j true) a' w' hfree' (ready_mono hr (Ne.symm hji)) (by rw [getD_set_ne false hjf]; exact hf) h3.1 ?_) h2
      rw [Array.setIfInBounds_comm _ _ hji]
      exact h3.2

/-- what follows -/
def QF (P : Program) (W : World) (Bo : List Nat) (ops : Array Oper) (Q : Exit → Act → World → Prop) (lp : SH) (f fuel : Nat) (listed : Array Bool) : Exit → Act → World → Prop :=
  fun e a w => e = .normal ∧ AnyF P ops (Q0 Q) (fun w => St W Bo w lp) f fuel listed a w

def DF (P : Program) (n : Nat) (D : List Deferred) (W : World) (Bo : List Nat) (ops : Array Oper) (Q : Exit → Act → World → Prop) (lp : SH) (f fuel : Nat) (listed : Array Bool) (F : List (Nat × Value)) (l : SH) : Prop :=
  Region.noSelect ops = true → ∀ a w, Fr n F D a → St W Bo w l → AnyF P ops (Q0 Q) (fun w => St W Bo w lp) f fuel listed a w

/-- operation i can be taken first, and f waits for it -/
def okF (ops : Array Oper) (f : Nat) (listed : Array Bool) (i : Nat) : Bool :=
  (Region.ready .any ops listed).contains i && (Region.free .any ops listed i && (!Nat.beq i f && (!listed.getD f false && ((ops[f]?).map fun o => o.after.any fun e => Region.binds .any e && Nat.beq e.on i).getD true)))
theorem okF_spec {f i : Nat} {listed : Array Bool} (h : okF ops f listed i = true) : i ∈ Region.ready .any ops listed ∧ Region.free .any ops listed i = true ∧ i ≠ f ∧ listed.getD f false = false ∧ ∀ o, ops[f]? = some o → ∃ e ∈ o.after, Region.binds .any e = true ∧ e.on = i := by
  simp only [okF, Bool.and_eq_true, Bool.not_eq_true', List.contains_iff_mem] at h
  refine ⟨h.1, h.2.1, Nat.ne_of_beq_eq_false h.2.2.1, h.2.2.2.1, fun o ho => ?_⟩
  have h2 := h.2.2.2.2
  rw [ho] at h2
  simp only [Option.map_some, Option.getD_some, Array.any_eq_true'] at h2
  obtain ⟨e, he, hb⟩ := h2
  rw [Bool.and_eq_true] at hb
  exact ⟨e, he, hb.1, Nat.eq_of_beq_eq_true hb.2⟩
end

section
variable {P : Program} {n : Nat} {D : List Deferred} {W : World} {Bo : List Nat} {F F' : List (Nat × Value)} {l l' lp lp' : SH}
  {d : Option Tmp} {dd : Nat} {ty : TypeId} {ps : String} {af : Array Edge} {g : Option (Nat × Bool)} {x y z : Operand} {v u : Value} {ta tb t e : TypeId}
  {Q : Exit → Act → World → Prop} {ops : Array Oper} {rest : List Oper} {td : TypeDesc} {c : Code} {f fuel : Nat} {listed : Array Bool}

theorem c_regF [hm : HM P] (f : Nat) {id : Nat} {os : List Oper} (h : DF P n D W Bo os.toArray Q l f os.length (Array.replicate os.length false) F l) (hs : Region.noSelect os.toArray = true := by kernel_rfl) :
    CP none P n D W Bo (.region id os.toArray true) Q F l := by
  intro a w ha hw
  have h1 := (h hs a w.drew ha hw.drew).any
  have h2 : (Code.region id os.toArray true).wpIn (Fw none) 0 P (Q0 Q) a w := wpIn_region_any hm.h (by simpa using h1)
  exact wpIn_mono h2 fun e a w hq => by obtain ⟨rfl, hq⟩ := hq; exact hq

theorem f_end (h : QP n D W Bo Q .normal F l) (hr : Region.ready .any ops listed = [] := by kernel_rfl) (hf : listed.getD f false = true := by kernel_rfl) : DF P n D W Bo ops Q lp f fuel listed F l := by
  intro hs a w ha hw
  cases fuel with
  | zero => exact ⟨.inl hf, hr, rfl, h a w ha hw⟩
  | succ k => exact ⟨.inl hf, fun _ => ⟨rfl, h a w ha hw⟩, by rw [hr]; simp⟩

theorem f_yc {o : Oper} (i : Nat) (hi : ops[i]? = some o) (hy : ∀ a, Fr n F D a → YC P ops (fun w => St W Bo w lp) o v a) (h : DF P n D W Bo ops Q lp f fuel (listed.setIfInBounds i true) F' l)
    (hF : ∀ a, Fr n F D a → Fr n F' D (a.put o.dst v)) (hok : okF ops f listed i = true) : DF P n D W Bo ops Q lp f (fuel + 1) listed F l := by
  intro hs a w ha hw
  obtain ⟨h1, h2, h3, h4, h5⟩ := okF_spec hok
  exact AnyF.first hi (Region.noSelect_spec hs) (fun c a w hq => by cases hq.1) h3 h5 fuel listed a w (Region.free_spec hi h2) h1 h4 (hy a ha) (h hs _ w (hF a ha) hw)

/-- one that reads -/
theorem f_y {op : Op} (i : Nat) (hi : ops[i]? = some ⟨some dd, op, ty, ps, af, g⟩) (hy : Y P n D W Bo ⟨some dd, op, ty, ps, af, g⟩ F lp v) (h : DF P n D W Bo ops Q lp f fuel (listed.setIfInBounds i true) ((dd, v) :: F) l)
    (hn : Nat.blt dd n = true := by rfl) (hg : Wn ops F g := by first | exact .none | exact .some rfl rfl) (hok : okF ops f listed i = true := by kernel_rfl) : DF P n D W Bo ops Q lp f (fuel + 1) listed F l :=
  f_yc i hi (fun a ha => .inl ⟨hg.wanted rfl ha, fun w hw => hy.2 a w ha hw⟩) h (fun _ ha => ha.put dd v hn) hok
theorem f_no {op : Op} {j ee : Nat} {b b' : Bool} (i : Nat) (hi : ops[i]? = some ⟨some dd, op, ty, ps, af, some (j, b)⟩) (h : DF P n D W Bo ops Q lp f fuel (listed.setIfInBounds i true) ((dd, undef) :: F) l) (hn : Nat.blt dd n = true := by rfl)
    (hj : (ops[j]?).bind (·.dst) = some ee := by rfl) (hv : lkO F ee = some (.bool b') := by rfl) (hb : (b' == b) = false := by rfl) (hok : okF ops f listed i = true := by kernel_rfl) : DF P n D W Bo ops Q lp f (fuel + 1) listed F l :=
  f_yc i hi (fun _ ha => .inr ⟨unwanted_of (o := ⟨some dd, op, ty, ps, af, some (j, b)⟩) rfl hj hv hb ha, rfl⟩) h (fun _ ha => ha.put dd _ hn) hok
theorem f_nu {op : Op} {j ee : Nat} {b : Bool} (i : Nat) (hi : ops[i]? = some ⟨some dd, op, ty, ps, af, some (j, b)⟩) (h : DF P n D W Bo ops Q lp f fuel (listed.setIfInBounds i true) ((dd, undef) :: F) l) (hn : Nat.blt dd n = true := by rfl)
    (hj : (ops[j]?).bind (·.dst) = some ee := by rfl) (hv : lkO F ee = some undef := by rfl) (hok : okF ops f listed i = true := by kernel_rfl) : DF P n D W Bo ops Q lp f (fuel + 1) listed F l :=
  f_yc i hi (fun _ ha => .inr ⟨unwanted_of' (o := ⟨some dd, op, ty, ps, af, some (j, b)⟩) rfl hj hv ha, rfl⟩) h (fun _ ha => ha.put dd _ hn) hok

theorem f_op {o : Oper} {i : Nat} (hi : ops[i]? = some o) {a : Act} {w : World} (h : wpListIn (Fw none) 0 P ops (QF P W Bo ops Q lp f fuel (listed.setIfInBounds i true)) [o] a w) :
    wpOpIn (Fw none) 0 P ops (Q0 Q) i (AnyF P ops (Q0 Q) (fun w => St W Bo w lp) f fuel (listed.setIfInBounds i true)) a w := by
  unfold wpOpIn
  simp only [hi]
  simp only [wpListIn] at h
  split
  · rename_i hw
    rw [if_pos hw] at h
    exact wpIn_monoQ (Q := QF P W Bo ops Q lp f fuel (listed.setIfInBounds i true)) (fun c a w hq => by cases hq.1) (fun hq => by obtain ⟨_, _, h9⟩ := hq; cases h9.1) (Oper.wpIn_mono (fun a w hk => hk.2) h)
  · rename_i hw
    rw [if_neg hw] at h
    exact ⟨h.1, h.2.2⟩

/-- one that makes or changes memory, where no other one could come -/
theorem f_w {o : Oper} (i : Nat) (hi : ops[i]? = some o) (h : LP none P n D W Bo ops (QF P W Bo ops Q lp f fuel (listed.setIfInBounds i true)) [o] F l)
    (hr : Region.ready .any ops listed = [i] := by kernel_rfl) (hsub : lp.Sublist l := by first | exact List.nil_sublist _ | exact List.Sublist.refl _ | exact .cons _ (.refl _) | exact .cons _ (.cons _ (.refl _)) | exact .cons _ (.cons _ (.cons _ (.refl _)))) :
    DF P n D W Bo ops Q lp f (fuel + 1) listed F l := by
  intro hs a w ha hw
  unfold AnyF
  refine ⟨.inr (hw.sub hsub), fun h0 => absurd (hr ▸ h0) (by simp), fun j hj => ?_⟩
  rw [hr, List.mem_singleton] at hj
  subst hj
  exact f_op hi (h a w ha hw)
/-- two of them -/
theorem f_w2 {o o2 : Oper} (i j : Nat) (hi : ops[i]? = some o) (hj : ops[j]? = some o2) (h : LP none P n D W Bo ops (QF P W Bo ops Q lp f fuel (listed.setIfInBounds i true)) [o] F l)
    (h2 : LP none P n D W Bo ops (QF P W Bo ops Q lp f fuel (listed.setIfInBounds j true)) [o2] F l)
    (hr : Region.ready .any ops listed = [i, j] := by kernel_rfl) (hsub : lp.Sublist l := by first | exact List.nil_sublist _ | exact List.Sublist.refl _ | exact .cons _ (.refl _) | exact .cons _ (.cons _ (.refl _)) | exact .cons _ (.cons _ (.cons _ (.refl _)))) :
    DF P n D W Bo ops Q lp f (fuel + 1) listed F l := by
  intro hs a w ha hw
  unfold AnyF
  refine ⟨.inr (hw.sub hsub), fun h0 => absurd (hr ▸ h0) (by simp), fun k hk => ?_⟩
  rw [hr] at hk
  rcases List.mem_cons.1 hk with rfl | hk
  · exact f_op hi (h a w ha hw)
  · rw [List.mem_singleton] at hk
    subst hk
    exact f_op hj (h2 a w ha hw)
/-- and on, with more that is known throughout -/
theorem f_k (h : DF P n D W Bo ops Q l f fuel listed F l) (hs : Region.noSelect ops = true := by kernel_rfl) (hlp : lp.Sublist l := by first | exact List.nil_sublist _ | exact List.Sublist.refl _ | exact .cons _ (.refl _) | exact .cons _ (.cons _ (.refl _)) | exact .cons _ (.cons _ (.cons _ (.refl _)))) :
    LP none P n D W Bo ops (QF P W Bo ops Q lp f fuel listed) [] F l :=
  s_nil fun a w ha hw => ⟨rfl, (h hs a w ha hw).mono fun _ hw => hw.sub hlp⟩
/-- the end, behind the last one -/
theorem f_z (h : QP n D W Bo Q .normal F l) (hr : Region.ready .any ops listed = [] := by kernel_rfl) (hf : listed.getD f false = true := by kernel_rfl) : LP none P n D W Bo ops (QF P W Bo ops Q lp f fuel listed) [] F l :=
  s_nil fun a w ha hw => by
    refine ⟨rfl, ?_⟩
    cases fuel with
    | zero => exact ⟨.inl hf, hr, rfl, h a w ha hw⟩
    | succ k => exact ⟨.inl hf, fun _ => ⟨rfl, h a w ha hw⟩, by rw [hr]; simp⟩
end
end Eng
/- A call that takes over a part of memory that is known: it changes it, or puts another one in its place. -/
namespace Eng
open Go Go.RowKit
section
variable {r : Option Nat} {P : Program} {n : Nat} {D : List Deferred} {W : World} {Bo : List Nat} {F : List (Nat × Value)} {l l' l1 : SH}
  {d : Option Tmp} {dd : Nat} {ty : TypeId} {ps : String} {af : Array Edge} {g : Option (Nat × Bool)} {x y z : Operand} {v u : Value} {ta tb t e : TypeId}
  {Q : Exit → Act → World → Prop} {ops : Array Oper} {rest : List Oper} {td : TypeDesc} {c : Code}

theorem St.borrowR {W : World} {p : Res} (h : p.holds W) : St W (keys [p]) W [p] := by
  refine ⟨rfl, rfl, rfl, Nat.le_refl _, fun _ _ _ => rfl, ?_, ?_⟩
  · intro q hq
    rw [List.mem_singleton] at hq
    subst hq
    exact ⟨h, fun k hk => .inr (mem_keys.2 ⟨q, by simp, hk⟩)⟩
  · unfold keys
    rw [List.filterMap_cons]
    cases p.key <;> simp

theorem enterR {k : FuncId} {fn : Func} {args : List Value} {R : Ending → World → Prop} {p : Res} (hf : P.funcs[k]? = some fn) (hn : fn.ntmps = n) (hp : p.holds W)
    (h : CP none P n [] W (keys [p]) c (bodyPost P fn R) (argsF 0 args) [p]) (hb : fn.body = some c := by rfl) (hle : Nat.ble args.length n = true := by rfl) : Calls P k args.toArray W R :=
  enter0 hf hb hn (Nat.le_of_ble_eq_true hle) (St.borrowR hp) h

theorem St.transR {w w' : World} {p p' : Res} (h : St W Bo w l) (hr : Rep p p' l l1) (h' : St w (keys [p]) w' (p' :: l')) : St W Bo w' (l' ++ l1) := by
  have hkp : ∀ k, k ∈ keys [p] ↔ p.key = some k := fun k => by rw [mem_keys]; simp
  have hkey : ∀ q ∈ p' :: l', ∀ k, q.key = some k → p.key = some k ∨ w.heap.size ≤ k := fun q hq k hk => by
    rcases (h'.own q hq).2 k hk with h1 | h1
    · exact .inr h1
    · exact .inl ((hkp k).1 h1)
  have h1 : St W Bo w' l1 := by
    refine h.change hr h'.os h'.tape h'.output h'.size ?_ (h'.own _ (.head _)).1 (hkey _ (.head _))
    intro k hk hne
    exact h'.old k hk (fun e => hne ((hkp k).1 e))
  have hnd := h'.nd
  unfold keys at hnd
  rw [List.filterMap_cons] at hnd
  have hnd2 : (List.filterMap Res.key l').Nodup := by
    cases hk : p'.key with
    | none => rw [hk] at hnd; exact hnd
    | some k => rw [hk] at hnd; exact (List.nodup_cons.1 hnd).2
  obtain ⟨l3, l4, rfl, rfl⟩ := hr.split
  have hpm : p ∈ l3 ++ p :: l4 := by simp
  refine ⟨h1.os, h1.tape, h1.output, h1.size, h1.old, ?_, ?_⟩
  · intro q hq
    rcases List.mem_append.1 hq with hq | hq
    · refine ⟨(h'.own q (.tail _ hq)).1, fun k hk => ?_⟩
      rcases hkey q (.tail _ hq) k hk with h2 | h2
      · exact (h.own p hpm).2 k h2
      · exact .inl (Nat.le_trans h.size h2)
    · exact h1.own q hq
  · unfold keys
    rw [List.filterMap_append, List.nodup_append]
    refine ⟨hnd2, h1.nd, ?_⟩
    intro x hx y hy e
    subst e
    obtain ⟨q, hq, hqk⟩ := List.mem_filterMap.1 hx
    obtain ⟨q2, hq2, hqk2⟩ := List.mem_filterMap.1 hy
    -- the block of a new part: that of p, or a new one
    have hold : ∀ z ∈ l3 ++ l4, ∀ k, z.key = some k → k < w.heap.size ∧ p.key ≠ some k := fun z hz k hk => by
      have hz' : z ∈ l3 ++ p :: l4 := (List.mem_append.1 hz).elim (List.mem_append_left _) fun h9 => List.mem_append_right _ (.tail _ h9)
      refine ⟨h.lt hz' hk, fun hpk => ?_⟩
      have hnd' : (keys (p :: (l3 ++ l4))).Nodup := ((List.perm_middle.filterMap Res.key).nodup_iff).1 h.nd
      unfold keys at hnd'
      rw [List.filterMap_cons, hpk, List.nodup_cons] at hnd'
      exact hnd'.1 (mem_keys.2 ⟨z, hz, hk⟩)
    rcases hkey q (.tail _ hq) x hqk with h2 | h2
    · -- in p's block: then not that of p', nor of an old part
      rcases List.mem_append.1 hq2 with h3 | h3
      · exact (hold q2 (List.mem_append_left _ h3) x hqk2).2 h2
      · rcases List.mem_cons.1 h3 with rfl | h3
        · rw [hqk2] at hnd
          exact (List.nodup_cons.1 hnd).1 (List.mem_filterMap.2 ⟨q, hq, hqk⟩)
        · exact (hold q2 (List.mem_append_right _ h3) x hqk2).2 h2
    · rcases List.mem_append.1 hq2 with h3 | h3
      · have := (hold q2 (List.mem_append_left _ h3) x hqk2).1; omega
      · rcases List.mem_cons.1 h3 with rfl | h3
        · rw [hqk2] at hnd
          exact (List.nodup_cons.1 hnd).1 (List.mem_filterMap.2 ⟨q, hq, hqk⟩)
        · have := (hold q2 (List.mem_append_right _ h3) x hqk2).1; omega

/-- a call that takes over a part -/
theorem s_upd {k : FuncId} [hf : HF P k] {fo : Operand} {fs cs vs args : List Value} {as : Array Operand} {ts : Array TypeId} {σ : Type} {val : σ → Value} {p : Res} {p' : σ → Res} {lx : σ → SH} {φ : σ → Prop} {l1 : σ → SH}
    (hc : ∀ w, St W Bo w l → Gives P k args w (keys [p]) val (fun x => p' x :: lx x) φ)
    (hrep : ∀ x, Rep p (p' x) l (l1 x))
    (h : ∀ x, φ x → LP r P n D W Bo ops Q rest ((dd, val x) :: F) (lx x ++ l1 x))
    (hfo : evO F fo = some (.func (.func k) fs.toArray cs.toArray) := by rfl) (hargs : evL F as.toList = some vs := by rfl) (hap : args = fs ++ vs ++ cs := by rfl) (hn : Nat.blt dd n = true := by rfl) (hg : Wn ops F g := by first | exact .none | exact .some rfl rfl) :
    LP r P n D W Bo ops Q (⟨some dd, .call ⟨.value fo, as, ts⟩, ty, ps, af, g⟩ :: rest) F l :=
  s_calls val (fun x => lx x ++ l1 x) φ hfo hargs
    (fun w hw => (hap ▸ hc w hw : Gives P k (fs ++ vs ++ cs) w (keys [p]) val (fun x => p' x :: lx x) φ).mono fun _ _ ⟨x, hx, he, hw'⟩ => ⟨x, hx, he, hw.transR (hrep x) hw'⟩) h hn hg

theorem c_loop4 {σ τ υ ψ : Type} (Fx : σ → τ → υ → ψ → List (Nat × Value)) (lx : σ → τ → υ → ψ → SH) (I : σ → τ → υ → ψ → Prop) (m : σ → τ → υ → ψ → Nat) (x : σ) (y : τ) (z : υ) (u : ψ) (hx : I x y z u) (hF : Sub F (Fx x y z u)) (hl : (lx x y z u).Sublist l)
    (h : ∀ x y z u, I x y z u → CP r P n D W Bo c (Exit.then (fun a w => ∃ x' y' z' u', I x' y' z' u' ∧ m x' y' z' u' < m x y z u ∧ Fr n (Fx x' y' z' u') D a ∧ St W Bo w (lx x' y' z' u')) Q) (Fx x y z u) (lx x y z u)) :
    CP r P n D W Bo (.loop c) Q F l :=
  c_loop (fun p : σ × τ × υ × ψ => Fx p.1 p.2.1 p.2.2.1 p.2.2.2) (fun p => lx p.1 p.2.1 p.2.2.1 p.2.2.2) (fun p => I p.1 p.2.1 p.2.2.1 p.2.2.2) (fun p => m p.1 p.2.1 p.2.2.1 p.2.2.2) (x, y, z, u) hx hF hl fun ⟨x, y, z, u⟩ hI a w ha hw =>
    wpIn_mono (h x y z u hI a w ha hw) fun e a' w' q => by
      cases e with
      | normal => obtain ⟨x', y', z', u', h1, h2, h3, h4⟩ := q; exact ⟨(x', y', z', u'), h1, h2, h3, h4⟩
      | exit id => exact q
      | goto l => exact q
      | ret => exact q
      | panic ch => exact q
      | outgrown => exact q
theorem q_round4 {σ τ υ ψ : Type} {Fx : σ → τ → υ → ψ → List (Nat × Value)} {lx : σ → τ → υ → ψ → SH} {I : σ → τ → υ → ψ → Prop} {m : σ → τ → υ → ψ → Nat} {x : σ} {y : τ} {z : υ} {u : ψ} (x' : σ) (y' : τ) (z' : υ) (u' : ψ) (hy : I x' y' z' u') (hm : m x' y' z' u' < m x y z u) (hF : Sub F (Fx x' y' z' u')) (hl : (lx x' y' z' u').Sublist l) :
    QP n D W Bo (Exit.then (fun a w => ∃ x' y' z' u', I x' y' z' u' ∧ m x' y' z' u' < m x y z u ∧ Fr n (Fx x' y' z' u') D a ∧ St W Bo w (lx x' y' z' u')) Q) .normal F l :=
  fun _ _ ha hw => ⟨x', y', z', u', hy, hm, ha.weaken hF, hw.sub hl⟩

/-- regions whose order is open, with what is known of memory throughout: lp, found wherever it lies -/
theorem c_regL [hm : HM P] (lp : SH) {id : Nat} {os : List Oper} (h : DC P n D W Bo os.toArray Q lp os.length (Array.replicate os.length false) F l) (hs : Region.noSelect os.toArray = true := by kernel_rfl) :
    CP none P n D W Bo (.region id os.toArray true) Q F l := c_any lp h hs
theorem r_W {lp : SH} {fuel : Nat} {listed : Array Bool} {o : Oper} (i : Nat) (hi : ops[i]? = some o) (h : LP none P n D W Bo ops (QK P W Bo ops Q lp fuel (listed.setIfInBounds i true)) [o] F l)
    (hr : Region.ready .any ops listed = [i] := by kernel_rfl) (hsub : lp.Sublist l := by repeat (first | exact List.nil_sublist _ | exact List.Sublist.refl _ | apply List.Sublist.cons_cons | apply List.Sublist.cons)) : DC P n D W Bo ops Q lp (fuel + 1) listed F l := r_w i hi h hr hsub
theorem r_K {lp : SH} {fuel : Nat} {listed : Array Bool} (h : DC P n D W Bo ops Q lp fuel listed F l) (hs : Region.noSelect ops = true := by kernel_rfl) : LP none P n D W Bo ops (QK P W Bo ops Q lp fuel listed) [] F l :=
  r_k hs lp h (List.Sublist.refl _)
theorem r_E {lp : SH} {fuel : Nat} {listed : Array Bool} (h : QP n D W Bo Q .normal F l) (hr : Region.ready .any ops listed = [] := by kernel_rfl) (hsub : lp.Sublist l := by repeat (first | exact List.nil_sublist _ | exact List.Sublist.refl _ | apply List.Sublist.cons_cons | apply List.Sublist.cons)) : DC P n D W Bo ops Q lp fuel listed F l := r_end h hr hsub
/-- what is known of memory in an older world, from which on all that has changed is new -/
theorem rdO {W0 w : World} {l : SH} {p : Res} (hs : St W0 [] w [p]) {a : Option Addr} {xs : List Value} (h : Rd W0 a xs) : RdS w (keys [p]) l a xs := fun w' hw => by
  by_cases hne : xs = []
  · rw [hne]; exact Rd.nil _ _
  · refine Rd.congr h fun b hb => ?_
    have h1 : b < W0.heap.size := h.lt hne hb
    rw [hw.old b (Nat.lt_of_lt_of_le h1 hs.size) ?_, hs.old b h1 (by simp)]
    intro hm
    obtain ⟨q, hq, hk⟩ := mem_keys.1 hm
    rw [List.mem_singleton] at hq
    subst hq
    rcases (hs.own q (by simp)).2 b hk with h2 | h2
    · omega
    · simp at h2
theorem St.over {W0 w w' : World} {p p' : Res} {l : SH} (hs : St W0 [] w [p]) (hw : St w (keys [p]) w' l) (hm : p' ∈ l) : St W0 [] w' [p'] := by
  have h1 : St w (keys [p]) w' [p'] := by
    refine ⟨hw.os, hw.tape, hw.output, hw.size, hw.old, fun q hq => by rw [List.mem_singleton] at hq; subst hq; exact hw.own q hm, ?_⟩
    unfold keys
    rw [List.filterMap_cons]
    cases p'.key <;> simp
  have := hs.transR (Rep.head []) h1
  simpa using this
end
end Eng
