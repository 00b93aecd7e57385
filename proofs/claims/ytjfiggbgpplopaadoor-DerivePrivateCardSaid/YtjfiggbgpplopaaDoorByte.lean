/- Blocks of bytes, ints and words. -/
import Derived.Test.YtjfiggbgpplopaaDoorCall
namespace Eng
open Go Go.RowKit

theorem bs_set (q : List UInt8) (i : Nat) (x : UInt8) : (bs q).toArray.setIfInBounds i (B x) = (bs (q.set i x)).toArray := by
  apply Array.ext'; simp [bs, List.map_set]
theorem is_set (q : List Int) (i : Nat) (x : Int) : (is q).toArray.setIfInBounds i (I x) = (is (q.set i x)).toArray := by
  apply Array.ext'; simp [is, List.map_set]
theorem ws_set (q : List UInt32) (i : Nat) (x : UInt32) : (ws q).toArray.setIfInBounds i (W32 x) = (ws (q.set i x)).toArray := by
  apply Array.ext'; simp [ws, List.map_set]
theorem bs_append (a b : List UInt8) : bs (a ++ b) = bs a ++ bs b := by simp [bs]
theorem bs_take (a : List UInt8) (k : Nat) : bs (a.take k) = (bs a).take k := by simp [bs]
theorem bs_drop (a : List UInt8) (k : Nat) : bs (a.drop k) = (bs a).drop k := by simp [bs]
theorem ws_append (a b : List UInt32) : ws (a ++ b) = ws a ++ ws b := by simp [ws]
theorem ws_take (a : List UInt32) (k : Nat) : ws (a.take k) = (ws a).take k := by simp [ws]
theorem ws_drop (a : List UInt32) (k : Nat) : ws (a.drop k) = (ws a).drop k := by simp [ws]
theorem is_append (a b : List Int) : is (a ++ b) = is a ++ is b := by simp [is]
theorem is_take (a : List Int) (k : Nat) : is (a.take k) = (is a).take k := by simp [is]
theorem is_drop (a : List Int) (k : Nat) : is (a.drop k) = (is a).drop k := by simp [is]
theorem bs_one {v : Value} {q : List UInt8} (h : v ∈ bs q) : v.oneCell' = true := by
  simp [bs] at h; obtain ⟨x, _, rfl⟩ := h; rfl
theorem is_one {v : Value} {q : List Int} (h : v ∈ is q) : v.oneCell' = true := by
  simp [is] at h; obtain ⟨x, _, rfl⟩ := h; rfl
theorem ws_one {v : Value} {q : List UInt32} (h : v ∈ ws q) : v.oneCell' = true := by
  simp [ws] at h; obtain ⟨x, _, rfl⟩ := h; rfl
theorem madeB (n : Nat) : madeCells (Value.cells (.int .u8 0)) n = (bs (List.replicate n 0)).toArray := by
  apply Array.ext'
  simp only [madeCells, Value.cells, bs, Array.toList_map, Array.toList_range, List.map_replicate]
  apply List.ext_getElem
  · simp
  · intro i h1 h2; simp [Nat.mod_one]
theorem rep_ws (n : Nat) : (List.replicate n (Value.int .u32 0)).toArray = (ws (List.replicate n 0)).toArray := by
  rw [ws, List.map_replicate]; rfl
theorem rep_bs (n : Nat) : (List.replicate n (Value.int .u8 0)).toArray = (bs (List.replicate n 0)).toArray := by
  rw [bs, List.map_replicate]; rfl

section
variable {r : Option Nat} {P : Program} {n : Nat} {D : List Deferred} {W : World} {Bo : List Nat} {F : List (Nat × Value)} {l l' : SH}
  {d : Option Tmp} {dd : Nat} {ty : TypeId} {ps : String} {af : Array Edge} {g : Option (Nat × Bool)} {x y z : Operand} {v u : Value} {ta tb t e : TypeId}
  {Q : Exit → Act → World → Prop} {ops : Array Oper} {rest : List Oper} {td : TypeDesc} {c : Code}

theorem y_ldbb [hu : HT P t true] {b off : Nat} {q : List UInt8} {et : TypeId} {fz : Nat × Nat} (hx : evO F x = some (.pointer (some ⟨b, off, none⟩)) := by rfl)
    (hm : Res.blk b (.cells (bs q).toArray et fz) ∈ l := by repeat (first | exact .head _ | apply List.Mem.tail)) (hi : off < q.length := by first | omega | (simp; omega)) :
    Y P n D W Bo ⟨d, .load t x, ty, ps, af, g⟩ F l (B (q.getD off 0)) := y_ld hx hm (by rw [List.getElem?_toArray]; exact bs_get hi)
theorem y_ldbi [hu : HT P t true] {b off : Nat} {q : List Int} {et : TypeId} {fz : Nat × Nat} (hx : evO F x = some (.pointer (some ⟨b, off, none⟩)) := by rfl)
    (hm : Res.blk b (.cells (is q).toArray et fz) ∈ l := by repeat (first | exact .head _ | apply List.Mem.tail)) (hi : off < q.length := by first | omega | (simp; omega)) :
    Y P n D W Bo ⟨d, .load t x, ty, ps, af, g⟩ F l (I (q.getD off 0)) := y_ld hx hm (by rw [List.getElem?_toArray]; exact is_get hi)
theorem y_ldbw [hu : HT P t true] {b off : Nat} {q : List UInt32} {et : TypeId} {fz : Nat × Nat} (hx : evO F x = some (.pointer (some ⟨b, off, none⟩)) := by rfl)
    (hm : Res.blk b (.cells (ws q).toArray et fz) ∈ l := by repeat (first | exact .head _ | apply List.Mem.tail)) (hi : off < q.length := by first | omega | (simp; omega)) :
    Y P n D W Bo ⟨d, .load t x, ty, ps, af, g⟩ F l (W32 (q.getD off 0)) := y_ld hx hm (by rw [List.getElem?_toArray]; exact ws_get hi)

theorem s_stb {by' : Nat} [hs : HS P t 1 by'] {b off : Nat} {q : List UInt8} {et : TypeId} {p : UInt8} (h : LP r P n D W Bo ops Q rest F l')
    (hx : evO F x = some (.pointer (some ⟨b, off, none⟩)) := by rfl) (hv : evO F y = some (B p) := by rfl)
    (hr : Rep (.blk b (.cells (bs q).toArray et (0, 0))) (.blk b (.cells (bs (q.set off p)).toArray et (0, 0))) l l' := by repeat (first | exact .head _ | apply Rep.tail)) (hl : off < q.length := by first | omega | (simp; omega)) (hg : Wn ops F g := by first | exact .none | exact .some rfl rfl) :
    LP r P n D W Bo ops Q (⟨none, .store t x y, ty, ps, af, g⟩ :: rest) F l :=
  s_st h hx hv (by rw [bs_set]; exact hr) (by simpa [bs_length] using hl) rfl rfl hg
theorem s_sti {by' : Nat} [hs : HS P t 1 by'] {b off : Nat} {q : List Int} {et : TypeId} {p : Int} (h : LP r P n D W Bo ops Q rest F l')
    (hx : evO F x = some (.pointer (some ⟨b, off, none⟩)) := by rfl) (hv : evO F y = some (I p) := by rfl)
    (hr : Rep (.blk b (.cells (is q).toArray et (0, 0))) (.blk b (.cells (is (q.set off p)).toArray et (0, 0))) l l' := by repeat (first | exact .head _ | apply Rep.tail)) (hl : off < q.length := by first | omega | (simp; omega)) (hg : Wn ops F g := by first | exact .none | exact .some rfl rfl) :
    LP r P n D W Bo ops Q (⟨none, .store t x y, ty, ps, af, g⟩ :: rest) F l :=
  s_st h hx hv (by rw [is_set]; exact hr) (by simpa [is_length] using hl) rfl rfl hg
theorem s_stw {by' : Nat} [hs : HS P t 1 by'] {b off : Nat} {q : List UInt32} {et : TypeId} {p : UInt32} (h : LP r P n D W Bo ops Q rest F l')
    (hx : evO F x = some (.pointer (some ⟨b, off, none⟩)) := by rfl) (hv : evO F y = some (W32 p) := by rfl)
    (hr : Rep (.blk b (.cells (ws q).toArray et (0, 0))) (.blk b (.cells (ws (q.set off p)).toArray et (0, 0))) l l' := by repeat (first | exact .head _ | apply Rep.tail)) (hl : off < q.length := by first | omega | (simp; omega)) (hg : Wn ops F g := by first | exact .none | exact .some rfl rfl) :
    LP r P n D W Bo ops Q (⟨none, .store t x y, ty, ps, af, g⟩ :: rest) F l :=
  s_st h hx hv (by rw [ws_set]; exact hr) (by simpa [ws_length] using hl) rfl rfl hg

/-- the first cells of a slice of bytes -/
theorem first_bytes {w : World} {a : Option Addr} {m c k : Nat} {q : List UInt8} (h : Rd w a (bs q)) (hk : k ≤ q.length) : (Builtin.firstCells 1 k (.slice a m c)).run P w = .ok (bs (q.take k)).toArray w := by
  have := (Src.slice (P := P) (s := 1) (m := k) (c := c) (h.take k) (by simp [bs_length]; omega)).2.1
  rw [bs_take]
  cases a <;> exact this
theorem first_string {w : World} {s : ByteArray} {k : Nat} : (Builtin.firstCells 1 k (.string s)).run P w = .ok (bs (s.data.toList.take k)).toArray w := by
  simp only [Builtin.firstCells, Sem.run_pure]
  congr 1
  apply Array.ext'
  simp only [Array.toList_map, ByteArray.data_extract, Array.toList_extract, List.extract_eq_take_drop, List.drop_zero, Nat.sub_zero, bs]

/-- copy bytes from a slice into a block -/
theorem s_cpb [ht : HU P ta (.slice e)] {by' : Nat} [hs : HS P e 1 by'] {b off m c : Nat} {q : List UInt8} {et : TypeId} {a : Option Addr} {k kc : Nat} {ys : List UInt8}
    (h : LP r P n D W Bo ops Q rest ((dd, I (Nat.min k m : Nat)) :: F) l')
    (hx : evO F x = some (.slice (some ⟨b, off, none⟩) m c) := by rfl) (hy : evO F y = some (.slice a k kc) := by rfl)
    (hr : RdS W Bo l a (bs ys) := by first | exact rdW0 (by assumption) | exact rdR (by repeat (first | exact .head _ | apply List.Mem.tail)) | assumption) (hk : k = ys.length := by first | rfl | omega)
    (hrep : Rep (.blk b (.cells (bs q).toArray et (0, 0))) (.blk b (.cells (bs (q.take off ++ ys.take (Nat.min k m) ++ q.drop (off + Nat.min k m))).toArray et (0, 0))) l l' := by repeat (first | exact .head _ | apply Rep.tail))
    (hfit : off + Nat.min k m ≤ q.length := by omega) (hn : Nat.blt dd n = true := by rfl) (hg : Wn ops F g := by first | exact .none | exact .some rfl rfl) :
    LP r P n D W Bo ops Q (⟨some dd, .call ⟨.builtin .copy, #[x, y], #[ta, tb]⟩, ty, ps, af, g⟩ :: rest) F l := by
  have hle : Nat.min k m ≤ ys.length := by rw [hk]; exact Nat.min_le_left _ _
  have hlen : (bs (ys.take (Nat.min k m))).length = Nat.min k m := by rw [bs_length, List.length_take]; omega
  refine s_cpy (s := 1) (et := et) (q := k) (ys := bs (ys.take (Nat.min k m))) (cs := (bs q).toArray) hx hy (fun w _ => rfl) (fun w hw => first_bytes (hr w hw) hle) ?_ (fun v hv => bs_one hv) ?_ h hn hg
  · rw [hlen]
    simp only [bs_append, bs_take, bs_drop] at hrep ⊢
    exact hrep
  · rw [hlen]; simpa [bs_length] using hfit

/-- make bytes -/
theorem s_mkb [ht : HU P t (.slice e)] {by' : Nat} [hs : HS P e 1 by'] [hz : HZ P e (.int .u8 0)] {kl kc : IntKind} {i j : Int}
    (h : ∀ b, LP r P n D W Bo ops Q rest ((dd, .slice (some ⟨b, 0, none⟩) i.toNat j.toNat) :: F) (.blk b (.cells (bs (List.replicate j.toNat 0)).toArray e) :: l))
    (hx : evO F x = some (.int kl i) := by rfl) (hy : evO F y = some (.int kc j) := by rfl)
    (h0 : 0 ≤ i := by omega) (h1 : i ≤ j := by omega) (h2 : (by' : Int) * j ≤ 281474976710656 := by omega) (h3 : j ≤ 9223372036854775807 := by omega) (hn : Nat.blt dd n = true := by rfl) (hg : Wn ops F g := by first | exact .none | exact .some rfl rfl) :
    LP r P n D W Bo ops Q (⟨some dd, .makeSlice t x y, ty, ps, af, g⟩ :: rest) F l :=
  s_mks (e := e) (s := 1) (fun b => by rw [Nat.mul_one, madeB]; exact h b) hx hy h0 h1 h2 h3 hn hg

theorem q_torow {b : Nat} {cs : Array Value} {e : TypeId} {s m : Nat} {ex : Exit} (hr : Rep (.blk b (.cells cs e (0, 0))) (.row (some ⟨b, 0, none⟩) m e s m cs.toList) l l') (hs : cs.size = m * s) (hm : m ≤ maxLen)
    (h : QP n D W Bo Q ex F l') : QP n D W Bo Q ex F l := fun a w ha hw => h a w ha (hw.toRow hs hm hr)

/-- the bytes of a block, as a slice that owns it -/
theorem St.toRowB {w : World} (hw : St W Bo w l) {b m : Nat} {q : List UInt8} {e : TypeId} (hs : q.length = m) (hm : m ≤ maxLen)
    (hr : Rep (.blk b (.cells (bs q).toArray e (0, 0))) (.row (some ⟨b, 0, none⟩) m e 1 m (bs q)) l l' := by repeat (first | exact .head _ | apply Rep.tail)) : St W Bo w l' :=
  hw.toRow (cs := (bs q).toArray) (by simpa [bs_length] using hs) hm hr

/-- append bytes -/
theorem srcB {s : Nat} {a : Option Addr} {m c : Nat} {q : List UInt8} (h : RdS W Bo l a (bs q)) (hl : q.length = m := by first | rfl | omega) (hs : s = 1 := by rfl) : ∀ w, St W Bo w l → Src P w s (.slice a m c) m (bs q) :=
  fun w hw => Src.slice (h w hw) (by rw [bs_length, hs, Nat.mul_one]; exact hl)
theorem srcS {s : Nat} {b : ByteArray} (hs : s = 1 := by rfl) : ∀ w, St W Bo w l → Src P w s (.string b) b.size (bs b.data.toList) := fun w _ => by subst hs; exact Src.string
theorem rd_blkB {b : Nat} {q : List UInt8} {e : TypeId} {fz : Nat × Nat} (hm : Res.blk b (.cells (bs q).toArray e fz) ∈ l := by repeat (first | exact .head _ | apply List.Mem.tail)) : RdS W Bo l (some ⟨b, 0, none⟩) (bs q) :=
  rdB hm (fun i v h => by simpa using h)
theorem rd_blkI {b : Nat} {q : List Int} {e : TypeId} {fz : Nat × Nat} (hm : Res.blk b (.cells (is q).toArray e fz) ∈ l := by repeat (first | exact .head _ | apply List.Mem.tail)) : RdS W Bo l (some ⟨b, 0, none⟩) (is q) :=
  rdB hm (fun i v h => by simpa using h)
theorem rd_blkW {b : Nat} {q : List UInt32} {e : TypeId} {fz : Nat × Nat} (hm : Res.blk b (.cells (ws q).toArray e fz) ∈ l := by repeat (first | exact .head _ | apply List.Mem.tail)) : RdS W Bo l (some ⟨b, 0, none⟩) (ws q) :=
  rdB hm (fun i v h => by simpa using h)
theorem rd_blk {b : Nat} {cs : Array Value} {e : TypeId} {fz : Nat × Nat} (hm : Res.blk b (.cells cs e fz) ∈ l := by repeat (first | exact .head _ | apply List.Mem.tail)) : RdS W Bo l (some ⟨b, 0, none⟩) cs.toList :=
  rdB hm (fun i v h => by simpa using h)
end
end Eng
