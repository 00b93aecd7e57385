/- More operations: bits of ints, strings of bytes, slices with a capacity, slices that are written out. -/
import Derived.Test.YtjfiggbgpplopaaDoorByte
import Derived.Laws.BytesString
import Derived.Laws.StructEq
import Derived.MapKept
namespace Eng
open Go Go.RowKit

/-- bytes as a string -/
def sb (q : List UInt8) : ByteArray := ⟨q.toArray⟩
theorem sb_inj {p q : List UInt8} : sb p = sb q ↔ p = q := by
  constructor
  · intro h
    have := congrArg (fun b : ByteArray => b.data.toList) h
    simpa [sb] using this
  · rintro rfl; rfl
theorem sb_toList (q : List UInt8) : (sb q).data.toList = q := rfl
theorem sb_size (q : List UInt8) : (sb q).size = q.length := rfl

/-- the parts of a literal laid down, over lists -/
def fillL (place : Nat → Option (Nat × Nat)) (cells : List Value) : List (Nat × Value) → Option (List Value)
  | [] => some cells
  | (i, v) :: rest =>
    match place i with
    | none => none
    | some (off, size) =>
      bif Nat.beq v.cells.toList.length size && Nat.ble (off + size) cells.length then fillL place (cells.take off ++ v.cells.toList ++ cells.drop (off + size)) rest else none

theorem setFold (off : Nat) : ∀ (vs : List Value) (k : Nat) (cs : Array Value), off + k + vs.length ≤ cs.size →
    ((vs.zipIdx k).foldl (fun cs (x : Value × Nat) => cs.setIfInBounds (off + x.2) x.1) cs).toList = cs.toList.take (off + k) ++ vs ++ cs.toList.drop (off + k + vs.length)
  | [], k, cs, _ => by simp
  | v :: vs, k, cs, h => by
    simp only [List.zipIdx_cons, List.foldl_cons]
    rw [setFold off vs (k + 1) _ (by simp; simp at h; omega)]
    simp only [List.length_cons] at h
    simp only [Array.toList_setIfInBounds]
    rw [← Nat.add_assoc, List.drop_set_of_lt (by omega), List.length_cons]
    have e : (cs.toList.set (off + k) v).take (off + k + 1) = cs.toList.take (off + k) ++ [v] := by
      have hl : (cs.toList.take (off + k)).length = off + k := by simp; omega
      rw [List.take_set, List.take_add_one, List.getElem?_eq_getElem (by simp; omega), Option.toList_some, List.set_append_right _ _ (by omega), hl, Nat.sub_self]
      rfl
    rw [e]
    simp
    congr 1
    omega

theorem fill_of {place : Nat → Option (Nat × Nat)} : ∀ {parts : List (Nat × Value)} {cells r : List Value}, fillL place cells parts = some r → Instr.fill place cells.toArray parts = some r.toArray
  | [], cells, r, h => by simp [fillL] at h; subst h; rfl
  | (i, v) :: rest, cells, r, h => by
    unfold fillL at h
    unfold Instr.fill
    cases hp : place i with
    | none => simp [hp] at h
    | some q =>
      obtain ⟨off, size⟩ := q
      simp only [hp] at h ⊢
      cases hb : (Nat.beq v.cells.toList.length size && Nat.ble (off + size) cells.length) with
      | false => rw [hb] at h; cases h
      | true =>
        rw [hb] at h
        simp only [cond_true] at h
        simp only [Bool.and_eq_true] at hb
        have e1 : v.cells.size = size := by simpa using Nat.eq_of_beq_eq_true hb.1
        have e2 : off + size ≤ cells.length := Nat.le_of_ble_eq_true hb.2
        have e3 : ¬ (decide (v.cells.size ≠ size) || decide (off + v.cells.size > cells.toArray.size)) = true := by simp [e1]; omega
        rw [if_neg (by simpa using e3)]
        have := fill_of h
        rw [← this]
        congr 1
        apply Array.ext'
        have hs := setFold off v.cells.toList 0 cells.toArray (by simp [e1]; omega)
        simp only [Nat.add_zero, Array.length_toList, e1] at hs
        rw [← hs, ← Array.foldl_toList]
        congr 1
        simp

/-- a list again and again -/
def repL : Nat → List Value → List Value
  | 0, _ => []
  | m + 1, l => l ++ repL m l
theorem repL_eq (z : Array Value) (s : Nat) (hs : z.size = s) : ∀ m, ((Array.range (m * s)).map (z[· % z.size]!)).toList = repL m z.toList
  | 0 => by simp [repL]
  | m + 1 => by
    have ih := repL_eq z s hs m
    simp only [Array.toList_map, Array.toList_range] at ih ⊢
    rw [Nat.add_mul, Nat.one_mul, Nat.add_comm, List.range_add, List.map_append, List.map_map, repL, ← ih]
    congr 1
    · apply List.ext_getElem
      · simp [hs]
      · intro i h1 h2
        simp only [List.length_map, List.length_range] at h1
        simp only [List.getElem_map, List.getElem_range, hs, Nat.mod_eq_of_lt h1]
        rw [getElem!_pos z i (by omega)]
        simp
    · apply List.map_congr_left
      intro i _
      simp [hs]

theorem push_fold : ∀ (q : List UInt8) (s : ByteArray), (q.map fun x => (x.toNat : Int)).foldl (fun r n => r.push (UInt8.ofNat n.toNat)) s = ⟨(s.data.toList ++ q).toArray⟩
  | [], s => by simp
  | x :: q, s => by
    simp only [List.map_cons, List.foldl_cons]
    rw [push_fold q]
    have e : UInt8.ofNat ((x.toNat : Int)).toNat = x := by
      rw [Int.toNat_natCast]; exact UInt8.ofNat_toNat
    rw [e]
    congr 1
    apply Array.ext'
    simp [ByteArray.push]

theorem run_b2s {P : Program} {w : World} {a : Option Addr} {q : List UInt8} {c : Nat} (h : Rd w a (bs q)) : (Conv.bytesToString (.slice a q.length c)).run P w = .ok (.string (sb q)) w := by
  cases ha : a with
  | none =>
    have : bs q = [] := by
      rcases h with h | ⟨b, off, cs, t, fz, e, _⟩
      · exact h
      · rw [ha] at e; cases e
    have hq : q = [] := by simpa [bs] using this
    subst hq
    rfl
  | some ad' =>
    have hl := (Src.slice (P := P) (s := 1) (m := q.length) (c := c) h (by simp [bs_length])).2.1
    rw [ha] at hl
    simp only [Builtin.firstCells, Nat.mul_one] at hl
    have e : bs q = (q.map fun x => (x.toNat : Int)).map (Value.int .u8) := by simp [bs]
    rw [e] at hl
    rw [run_bytesToString w ad' q.length c _ hl, push_fold]
    rfl

theorem bitsn {k : IntKind} {p : Nat} (hp : p < 2 ^ k.bits) : (BitVec.ofInt k.bits (p : Int)).toNat = p := by
  rw [BitVec.ofInt_natCast]; simp [Nat.mod_eq_of_lt hp]

theorem zeros_eq (z : Array Value) (s m : Nat) (hs : z.size = s) : (if m * s = 0 then #[] else Builtin.zeroCells z m) = (repL m z.toList).toArray := by
  have h := repL_eq z s hs m
  have e : Builtin.zeroCells z m = (repL m z.toList).toArray := by
    apply Array.ext'
    rw [← h]
    simp [Builtin.zeroCells, hs]
  split
  · rename_i h0
    rw [← e]
    unfold Builtin.zeroCells
    rw [hs, h0]
    apply Array.ext'
    simp
  · exact e
theorem repL_length (l : List Value) : ∀ m, (repL m l).length = m * l.length
  | 0 => by simp [repL]
  | m + 1 => by simp [repL, repL_length l m, Nat.add_mul, Nat.add_comm]
theorem repL_mem {l : List Value} {v : Value} : ∀ {m}, v ∈ repL m l → v ∈ l
  | 0, h => by simp [repL] at h
  | m + 1, h => by
    rcases List.mem_append.1 h with h | h
    · exact h
    · exact repL_mem h
theorem repL_bs : ∀ m, repL m [B 0] = bs (List.replicate m 0)
  | 0 => rfl
  | m + 1 => by rw [repL, repL_bs m, List.replicate_succ]; rfl

/-- append of so many zeros -/
theorem run_appz {P : Program} {t u ty e : TypeId} {kd ku : IntKind} {s by' : Nat} {z : Value} {w : World} (ht : P.underlying t = some (.slice e)) (hu : P.underlying u = some (.int kd))
    (hs : HS P e s by') (hz : HZ P e z) (hzs : z.cells.size = s) {a : Option Addr} {n c m : Nat} {xs : List Value}
    (hrow : (Res.row a c e s n xs).holds w) (h1 : ∀ v ∈ z.cells.toList, v.oneCell' = true) (hfit : n + m ≤ maxLen) (hby : (n + m) * by' ≤ 140737488355328) :
    ∃ a' c' w', (Builtin.append_ #[t, u] ty #[.slice a n c, .int ku (m : Int)]).run P w = .ok (.slice a' (n + m) c') w' ∧ (Res.row a' c' e s (n + m) (xs ++ repL m z.cells.toList)).holds w' ∧
      w'.os = w.os ∧ w'.tape = w.tape ∧ w'.output = w.output ∧ w.heap.size ≤ w'.heap.size ∧
      (∀ k, k < w.heap.size → (Res.row a c e s n xs).key ≠ some k → w'.heap[k]? = w.heap[k]?) ∧
      (∀ k, (Res.row a' c' e s (n + m) (xs ++ repL m z.cells.toList)).key = some k → (Res.row a c e s n xs).key = some k ∨ w.heap.size ≤ k) ∧ (a' = none → a = none ∧ m = 0) := by
  obtain ⟨i, hi, hsz, hbz⟩ := hs.h
  obtain ⟨hxl, hnc, hown⟩ := hrow
  have hyl : (repL m z.cells.toList).length = m * s := by rw [repL_length, Array.length_toList, hzs]
  have hw : IntKind.i64.wrap (m : Int) = m := wrap_i64 (by simp only [maxLen] at hfit; unfold R64; omega)
  have hm0 : ¬ ((m : Int) < 0) := by omega
  have hmb : ¬ (281474976710656 < (m : Int) * (i.bytes : Int)) := by
    have h3 : m * by' ≤ (n + m) * by' := Nat.mul_le_mul_right _ (by omega)
    have h4 : ((m * by' : Nat) : Int) ≤ 140737488355328 := by omega
    rw [hbz]
    rw [Int.natCast_mul] at h4
    omega
  have hzz := fun w => hz.h w
  have has : ∀ w, (asInt (.int ku (m : Int))).run P w = .ok (m : Int) w := fun _ => rfl
  have hz1 : m * s = 0 → repL m z.cells.toList = [] := fun h0 => List.eq_nil_of_length_eq_zero (by rw [hyl, h0])
  have hz2 : ¬ (m * s = 0) → Builtin.zeroCells z.cells m = (repL m z.cells.toList).toArray := fun h0 => by
    have := zeros_eq z.cells s m hzs
    rwa [if_neg h0] at this
  generalize hys : repL m z.cells.toList = ys at *
  have h1' : ∀ v ∈ ys, v.oneCell' = true := fun v hv => h1 v (repL_mem (by rw [hys]; exact hv))
  by_cases hroom : n + m ≤ c
  · rcases hown with ⟨rfl, rfl⟩ | ⟨g, cur, rfl, hg, hcm, hcs, htake⟩
    · have hn : n = 0 := by omega
      have hm : m = 0 := by omega
      subst hn; subst hm
      refine ⟨none, 0, w, ?_, ⟨by simp [hxl, hyl], by simp, .inl ⟨rfl, rfl⟩⟩, rfl, rfl, rfl, Nat.le_refl _, fun _ _ _ => rfl, fun k hk => .inl hk, fun _ => ⟨rfl, rfl⟩⟩
      simp only [Int.cast_ofNat_Int] at has hw
      have hw' : IntKind.i64.wrap 0 = 0 := rfl
      have has' : ∀ w, (asInt (.int ku 0)).run P w = .ok 0 w := fun _ => rfl
      simp [Builtin.append_, run_underlying ht, run_underlying hu, Go.sizeOf, typeInfo, hi, hw', has']
    · have hfits : n * s + ys.length ≤ cur.size := by rw [hyl, hcs, ← Nat.add_mul]; exact Nat.mul_le_mul_right _ hroom
      have hst := run_storeCells_at P g (n * s) e ys 0 cur w hg (by simpa using hfits) h1'
      simp only [Nat.add_zero] at hst
      refine ⟨some ⟨g, 0, none⟩, c, w.setRow g (cur.toList.take (n * s) ++ ys ++ cur.toList.drop (n * s + ys.length)).toArray, ?_, ⟨by simp [hxl, hyl, Nat.add_mul], by omega, .inr ⟨g, _, rfl, setRow_heap w g cur _ e (0, 0) hg, hcm, ?_, ?_⟩⟩, rfl, rfl, rfl, by simp, ?_, fun k hk => .inl hk, fun h => by cases h⟩
      · by_cases h0 : m * s = 0
        · have e0 := hz1 h0
          subst e0
          simp only [List.append_nil, List.length_nil, Nat.add_zero] at hst
          simp [Builtin.append_, run_underlying ht, run_underlying hu, Go.sizeOf, typeInfo, hi, hsz, hw, hm0, hmb, hroom, addr_add, hst, has, h0]
        · have e0 := hz2 h0
          simp only [List.append_assoc] at hst
          simp [Builtin.append_, run_underlying ht, run_underlying hu, Go.sizeOf, typeInfo, hi, hsz, hw, hm0, hmb, hroom, addr_add, hst, has, h0, hzz, e0]
      · simp only [List.size_toArray, List.length_append, List.length_take, List.length_drop, Array.length_toList]
        rw [Nat.min_eq_left (by omega)]; omega
      · rw [htake, List.toList_toArray, List.take_append_of_le_length (by simp [hxl, hyl, Nat.add_mul]), List.take_of_length_le (by simp [hxl, hyl, Nat.add_mul])]
      · intro k _ hk
        exact setRow_other w g _ k (fun e' => hk (by rw [e']; rfl))
  · have h63' : ¬ (9223372036854775807 < ((n : Int) + (m : Int))) := by simp only [maxLen] at hfit; omega
    have hns : Builtin.nextslicecap (n + m) c * i.bytes ≤ 281474976710656 := growslice_fits (by omega) (by rw [hbz]; exact hby)
    have h48' : ¬ (281474976710656 < Builtin.nextslicecap (n + m) c * i.bytes) := by omega
    have hold : (Builtin.firstCells s n (.slice a n c)).run P w.drew = .ok xs.toArray w.drew := by
      have hrd : Rd w.drew a xs := by
        refine Rd.congr (w := w) (Res.rd (c := c) (e := e) (s := s) (n := n) ⟨hxl, hnc, hown⟩) (fun b _ => rfl)
      exact (Src.slice hrd hxl).2.1
    have hge := grownCap_ge w (n + m) c e
    have hcm : grownCap w (n + m) c e ≤ maxLen := grownCap_le_maxLen w (n + m) c e hfit
    refine ⟨some ⟨w.heap.size, 0, none⟩, grownCap w (n + m) c e, w.drew.alloc (.cells (xs.toArray ++ ys.toArray ++ Builtin.zeroCells z.cells (grownCap w (n + m) c e - (n + m))) e), ?_, ⟨by simp [hxl, hyl, Nat.add_mul], hge, .inr ⟨w.heap.size, _, rfl, heap_alloc_new w.drew _, hcm, ?_, ?_⟩⟩, rfl, rfl, rfl, by simp, fun k hk _ => Below.heap_alloc w.drew _ k hk, fun k hk => by simp [Res.key] at hk; omega, fun h => by cases h⟩
    · have hni : ¬ (n + m ≤ c) := hroom
      by_cases h0 : m * s = 0
      · have e0 := hz1 h0
        subst e0
        simp [Builtin.append_, run_underlying ht, run_underlying hu, Go.sizeOf, typeInfo, hi, hsz, hni, h63', h48', Question.forced, hold, hzz, newRow, grownCap, hw, hm0, hmb, has, h0] <;> (congr 2; apply Array.ext'; simp)
      · have e0 := hz2 h0
        simp [Builtin.append_, run_underlying ht, run_underlying hu, Go.sizeOf, typeInfo, hi, hsz, hni, h63', h48', Question.forced, hold, hzz, newRow, grownCap, hw, hm0, hmb, has, h0, e0] <;> (congr 2; apply Array.ext'; simp)
    · simp only [Array.size_append, List.size_toArray, size_zeroCells, hzs, hxl, hyl, ← Nat.add_mul]
      congr 1; omega
    · simp only [Array.toList_append]
      rw [List.take_append_of_le_length (by simp [hxl, hyl, Nat.add_mul]), List.take_of_length_le (by simp [hxl, hyl, Nat.add_mul])]

section
variable {r : Option Nat} {P : Program} {n : Nat} {D : List Deferred} {W : World} {Bo : List Nat} {F : List (Nat × Value)} {l l' : SH}
  {d : Option Tmp} {dd : Nat} {ty : TypeId} {ps : String} {af : Array Edge} {g : Option (Nat × Bool)} {x y z : Operand} {v u : Value} {ta tb t e : TypeId}
  {Q : Exit → Act → World → Prop} {ops : Array Oper} {rest : List Oper} {td : TypeDesc} {c : Code}

/-- bits of numbers that are not negative -/
theorem y_orn {k : IntKind} {p q : Nat} (hx : evO F x = some (.int k (p : Int)) := by rfl) (hy : evO F y = some (.int k (q : Int)) := by rfl)
    (hp : p < 2 ^ k.bits := by (simp only [IntKind.bits]; omega)) (hq : q < 2 ^ k.bits := by (simp only [IntKind.bits]; omega)) (hw : k.wrap ((p ||| q : Nat) : Int) = ((p ||| q : Nat) : Int)) :
    Y P n D W Bo ⟨d, .binOp .or ta x y tb, ty, ps, af, g⟩ F l (.int k ((p ||| q : Nat) : Int)) :=
  .mk (by simp) fun a w ha _ => by
    refine exec_bin P w w _ _ _ _ _ _ _ _ _ _ _ _ ⟨by simp, by simp⟩ ?_
    rw [ha.eval hx, ha.eval hy]
    simp only [binOp, ne_eq, not_true_eq_false, if_false, Op.intBits, Sem.run_pure]
    rw [BitVec.toNat_or, bitsn hp, bitsn hq, hw]
theorem y_andn {k : IntKind} {p q : Nat} (hx : evO F x = some (.int k (p : Int)) := by rfl) (hy : evO F y = some (.int k (q : Int)) := by rfl)
    (hp : p < 2 ^ k.bits := by (simp only [IntKind.bits]; omega)) (hq : q < 2 ^ k.bits := by (simp only [IntKind.bits]; omega)) (hw : k.wrap ((p &&& q : Nat) : Int) = ((p &&& q : Nat) : Int)) :
    Y P n D W Bo ⟨d, .binOp .and ta x y tb, ty, ps, af, g⟩ F l (.int k ((p &&& q : Nat) : Int)) :=
  .mk (by simp) fun a w ha _ => by
    refine exec_bin P w w _ _ _ _ _ _ _ _ _ _ _ _ ⟨by simp, by simp⟩ ?_
    rw [ha.eval hx, ha.eval hy]
    simp only [binOp, ne_eq, not_true_eq_false, if_false, Op.intBits, Sem.run_pure]
    rw [BitVec.toNat_and, bitsn hp, bitsn hq, hw]
/-- n << 8 | x: a byte more -/
theorem or_byte (p : Nat) (x : UInt8) : p * 2 ^ 8 ||| x.toNat = p * 256 + x.toNat := by
  have := Nat.shiftLeft_add_eq_or_of_lt (show x.toNat < 2 ^ 8 from x.toNat_lt) p
  rw [Nat.shiftLeft_eq] at this
  omega
theorem y_or8 {p : Nat} {q : UInt8} (hx : evO F x = some (I ((p * 2 ^ 8 : Nat) : Int)) := by rfl) (hy : evO F y = some (I (q.toNat : Int)) := by rfl) (hp : p < 36028797018963968 := by omega) :
    Y P n D W Bo ⟨d, .binOp .or ta x y tb, ty, ps, af, g⟩ F l (I ((p * 256 + q.toNat : Nat) : Int)) := by
  have h := q.toNat_lt
  have := y_orn (P := P) (n := n) (D := D) (W := W) (Bo := Bo) (l := l) (d := d) (ty := ty) (ps := ps) (af := af) (g := g) (ta := ta) (tb := tb) (F := F) (k := .i64) (p := p * 2 ^ 8) (q := q.toNat) hx hy (by simp only [IntKind.bits]; omega) (by simp only [IntKind.bits]; omega)
    (by rw [or_byte]; exact wrap_i64 (by unfold R64; omega))
  rwa [or_byte] at this

/-- an int shifted to the left by a constant, where nothing is lost -/
theorem y_shln (m : Nat) {p : Nat} {k k' : IntKind} (hx : evO F x = some (.int k (p : Int)) := by rfl) (hy : evO F y = some (.int k' (m : Int)) := by rfl) (h1 : m ≤ k.bits := by decide)
    (hw : k.wrap ((p * 2 ^ m : Nat) : Int) = ((p * 2 ^ m : Nat) : Int) := by first | exact wrap_i64 (by unfold R64; omega) | exact wrap_u64 (by omega) (by omega)) :
    Y P n D W Bo ⟨d, .binOp .shl ta x y tb, ty, ps, af, g⟩ F l (.int k ((p * 2 ^ m : Nat) : Int)) := by
  have e : (p : Int) * 2 ^ m = ((p * 2 ^ m : Nat) : Int) := by simp
  have := y_shl (P := P) (n := n) (D := D) (W := W) (Bo := Bo) (l := l) (d := d) (ty := ty) (ps := ps) (af := af) (g := g) (ta := ta) (tb := tb) hx hy (by omega) (by omega) (by rw [Int.toNat_natCast, e]; exact hw)
  rw [Int.toNat_natCast, e] at this
  exact this

/-- a byte to an int -/
theorem y_cvb [hu : HU P tb (.int .i64)] {tb' : Bool} [ha' : HT P ta tb'] {p : UInt8} (hx : evO F x = some (B p) := by rfl) : Y P n D W Bo ⟨d, .convert ta tb x, ty, ps, af, g⟩ F l (I (p.toNat : Int)) :=
  y_cvn (k := .i64) (p := (p.toNat : Int)) hx (wrap_i64 (by have := p.toNat_lt; unfold R64; omega))

/-! strings -/
theorem y_b2s [hu : HU P tb .string] [ha' : HU P ta (.slice e)] [he : HU P e (.int .u8)] {a : Option Addr} {q : List UInt8} {m c : Nat} (hx : evO F x = some (.slice a m c) := by rfl)
    (hr : RdS W Bo l a (bs q) := by first | exact rdW0 (by assumption) | exact rdR (by repeat (first | exact .head _ | apply List.Mem.tail)) | assumption) (hm : q.length = m := by rfl) : Y P n D W Bo ⟨d, .convert ta tb x, ty, ps, af, g⟩ F l (.string (sb q)) :=
  .mk (by simp) fun ac w ha hw => by
    subst hm
    simp only [execOp, ha.eval hx, Sem.run_bind, run_convert_bytes_string w ta tb e a _ c ha'.h he.h hu.h, run_b2s (hr w hw), Result.andThen_ok, Sem.run_pure]

theorem string_eq (a b : ByteArray) : (a.toList == b.toList) = decide (a = b) := by
  by_cases hab : a = b
  · subst hab; simp
  · rw [← beq_toListBytes, decide_eq_false hab]
    cases h : (a == b) with
    | false => rfl
    | true => exact absurd ((MapKept.bytes_beq a b).1 h) hab

theorem y_eqls {a b : ByteArray} (hx : evO F x = some (.string a) := by rfl) (hy : evO F y = some (.string b) := by rfl) : Y P n D W Bo ⟨d, .binOp .eql ta x y tb, ty, ps, af, g⟩ F l (.bool (decide (a = b))) :=
  .mk (by simp) fun ac w ha _ => by
    simp only [execOp, ha.eval hx, ha.eval hy, eqGuard, binOp, Op.stringOp, string_eq]
    rfl
theorem y_neqs {a b : ByteArray} (hx : evO F x = some (.string a) := by rfl) (hy : evO F y = some (.string b) := by rfl) : Y P n D W Bo ⟨d, .binOp .neq ta x y tb, ty, ps, af, g⟩ F l (.bool (!decide (a = b))) :=
  .mk (by simp) fun ac w ha _ => by
    simp only [execOp, ha.eval hx, ha.eval hy, eqGuard, binOp, Op.stringOp, string_eq]
    rfl
theorem y_eqlb {a b : Bool} [hu : HU P ta .bool] (hx : evO F x = some (.bool a) := by rfl) (hy : evO F y = some (.bool b) := by rfl) : Y P n D W Bo ⟨d, .binOp .eql ta x y tb, ty, ps, af, g⟩ F l (.bool (a == b)) :=
  .mk (by simp) fun ac w ha _ => by
    have : (Op.equal ta (.bool a) (.bool b)).run P w = .ok (a == b) w := by
      unfold Op.equal Op.equalIn
      simp [Op.maxDepth, run_underlying hu.h]
    simp [execOp, ha.eval hx, ha.eval hy, eqGuard, binOp, this]

/-- a slice with bounds and a capacity -/
theorem y_sllhm [hu : HU P t (.slice e)] {s by' : Nat} [hs : HS P e s by'] {a : Option Addr} {m c : Nat} {o : Operand} {k k' k2 : IntKind} {i j h : Int} (hx : evO F x = some (.slice a m c) := by rfl) (hy : evO F y = some (.int k i) := by rfl) (hz : evO F z = some (.int k' j) := by rfl) (ho : evO F o = some (.int k2 h) := by rfl)
    (h0 : 0 ≤ i := by omega) (h1 : i ≤ j := by omega) (h2 : j ≤ h := by omega) (h3 : h ≤ c := by omega) : Y P n D W Bo ⟨d, .slice t x (some y) (some z) (some o), ty, ps, af, g⟩ F l (.slice (sa a i.toNat h.toNat s) (j.toNat - i.toNat) (h.toNat - i.toNat)) :=
  .mk (by simp) fun ac w ha hw => by
    have e0 : (Instr.sliceBound (.int k2 h) c .slice3Acap).run P w = .ok h.toNat w := run_sliceBound w k2 h c _ (by omega) h3
    have e1 : (Instr.sliceBound (.int k' j) h.toNat .slice3B).run P w = .ok j.toNat w := run_sliceBound w k' j h.toNat _ (by omega) (by omega)
    have e2 : (Instr.sliceBound (.int k i) j.toNat .slice3C).run P w = .ok i.toNat w := run_sliceBound w k i j.toNat _ h0 (by omega)
    simp only [execOp, ha.eval hx, Option.map, ha.eval hy, ha.eval hz, ha.eval ho, Sem.run_bind, Instr.sliceAt, Instr.slice, run_underlying hu.h, Result.andThen_ok, Instr.sliceBounds, Sem.run_pure, if_true, e0, e1, run_sizeOf' hs]
    simp only [Option.isSome]
    rw [show (if True then BoundsCode.slice3C else BoundsCode.sliceB) = .slice3C from if_pos trivial, e2]
    rfl

/-! slices that own their memory, at once -/
/-- the empty literal -/
theorem s_bsl0 [ht : HU P t (.slice e)] {s by' : Nat} [hs : HS P e s by'] {parts : Array (Nat × Operand)}
    (h : ∀ b, LP r P n D W Bo ops Q rest ((dd, .slice (some ⟨b, 0, none⟩) 0 0) :: F) (.row (some ⟨b, 0, none⟩) 0 e s 0 [] :: l))
    (hp : parts.toList = [] := by rfl) (hn : Nat.blt dd n = true := by rfl) (hg : Wn ops F g := by first | exact .none | exact .some rfl rfl) :
    LP r P n D W Bo ops Q (⟨some dd, .buildSlice t 0 parts, ty, ps, af, g⟩ :: rest) F l :=
  s_new (fun b : Nat => .slice (some ⟨b, 0, none⟩) 0 0) (fun b => .row (some ⟨b, 0, none⟩) 0 e s 0 [] :: l) (fun _ => True) (by simp)
    (fun a w ha hw => ⟨w.heap.size, w.alloc (.cells #[] e), trivial, by
      have hp' : parts = #[] := by cases parts; simp_all
      subst hp'
      have e0 : ∀ f : Nat → Value, (Array.range 0).map f = #[] := fun f => by apply Array.ext' ; simp
      simp only [execOp, Instr.buildSlice, Sem.run_bind, run_underlying ht.h, run_sizeOf' hs, Result.andThen_ok, Nat.zero_mul, if_true, Sem.run_pure, e0]
      simp [Instr.fill, newRow],
      (hw.alloc (.cells #[] e)).toRow (s := s) (m := 0) (by simp) (by simp) (Rep.head _)⟩)
    (hn := hn) (hg := hg) (h := fun b _ => h b)

/-- a literal -/
theorem s_bslr [ht : HU P t (.slice e)] {s by' : Nat} [hs : HS P e s by'] {zz : Value} [hz : HZ P e zz] {m : Nat} {parts : Array (Nat × Operand)} {vs : List (Nat × Value)} {cs : List Value}
    (h : ∀ b, LP r P n D W Bo ops Q rest ((dd, .slice (some ⟨b, 0, none⟩) m m) :: F) (.row (some ⟨b, 0, none⟩) m e s m cs :: l))
    (hp : evP F parts.toList = some vs := by rfl)
    (hf : fillL (fun i => some (i * s, s)) (repL m zz.cells.toList) vs = some cs := by rfl)
    (hsz : cs.length = m * s := by rfl) (hzs : zz.cells.size = s := by rfl)
    (hm : 0 < m * s := by decide) (hm2 : m * s ≤ 16777216 := by decide) (hm3 : m ≤ maxLen := by decide) (hn : Nat.blt dd n = true := by rfl) (hg : Wn ops F g := by first | exact .none | exact .some rfl rfl) :
    LP r P n D W Bo ops Q (⟨some dd, .buildSlice t m parts, ty, ps, af, g⟩ :: rest) F l :=
  s_bsl (cs := cs.toArray) (fun b => fun a w ha hw => h b a w ha (hw.toRow (by simpa using hsz) hm3 (Rep.head _))) hp (by
    have h1 := fill_of hf
    rw [← repL_eq zz.cells s hzs m] at h1
    exact h1) hm hm2 hn hg

/-- append of so many zeros -/
theorem s_apz [ht : HU P ta (.slice e)] {kd : IntKind} [hu : HU P tb (.int kd)] {s by' : Nat} [hs : HS P e s by'] {zz : Value} [hz : HZ P e zz] {a : Option Addr} {k cc m : Nat} {xs : List Value} {ku : IntKind}
    {l'' : Option Addr → Nat → SH}
    (h : ∀ a' c', (a' = none → a = none ∧ m = 0) → LP r P n D W Bo ops Q rest ((dd, .slice a' (k + m) c') :: F) (l'' a' c'))
    (hx : evO F x = some (.slice a k cc) := by rfl) (hy : evO F y = some (.int ku (m : Int)) := by rfl)
    (hm : Res.row a cc e s k xs ∈ l := by repeat (first | exact .head _ | apply List.Mem.tail)) (hrep : ∀ a' c', Rep (.row a cc e s k xs) (.row a' c' e s (k + m) (xs ++ repL m zz.cells.toList)) l (l'' a' c') := by intro _ _; repeat (first | exact .head _ | apply Rep.tail))
    (h1 : ∀ v ∈ zz.cells.toList, v.oneCell' = true := by decide) (hfit : k + m ≤ maxLen := by (unfold maxLen; omega)) (hby : (k + m) * by' ≤ 140737488355328 := by omega)
    (hzs : zz.cells.size = s := by rfl) (hn : Nat.blt dd n = true := by rfl) (hg : Wn ops F g := by first | exact .none | exact .some rfl rfl) :
    LP r P n D W Bo ops Q (⟨some dd, .call ⟨.builtin .append, #[x, y], #[ta, tb]⟩, ty, ps, af, g⟩ :: rest) F l := by
  refine s_new (σ := Option Addr × Nat) (fun p => .slice p.1 (k + m) p.2) (fun p => l'' p.1 p.2) (fun p => p.1 = none → a = none ∧ m = 0) (by simp) ?_ (hn := hn) (hg := hg) (h := fun p hp => h p.1 p.2 hp)
  intro ac w ha hw
  obtain ⟨a', c', w', hrun, hrow, h2, h3, h4, h5, h6, h7, h8⟩ := run_appz (ty := ty) (ku := ku) (m := m) ht.h hu.h hs hz hzs (hw.own _ hm).1 h1 hfit hby
  refine ⟨(a', c'), w', h8, ?_, hw.change (hrep a' c') h2 h3 h4 h5 h6 hrow h7⟩
  have e1 : #[x, y].map ac.eval = #[.slice a k cc, .int ku (m : Int)] := by simp [ha.eval hx, ha.eval hy]
  simp only [execOp, resolve, e1, Sem.run_bind, Sem.run_pure, Result.andThen_ok, invoke, builtin, hrun]

/-- an inequality that is known -/
theorem s_nf {op : Op} {p : Prop} [dp : Decidable p] (hy : Y P n D W Bo ⟨some dd, op, ty, ps, af, g⟩ F l (.bool (!decide p)))
    (hp : p) (h1 : LP r P n D W Bo ops Q rest ((dd, .bool false) :: F) l) (hn : Nat.blt dd n = true := by rfl) (hg : Wn ops F g := by first | exact .none | exact .some rfl rfl) : LP r P n D W Bo ops Q (⟨some dd, op, ty, ps, af, g⟩ :: rest) F l :=
  s_y hy (by rw [decide_eq_true hp]; exact h1) hn hg
theorem s_nt {op : Op} {p : Prop} [dp : Decidable p] (hy : Y P n D W Bo ⟨some dd, op, ty, ps, af, g⟩ F l (.bool (!decide p)))
    (hp : ¬ p) (h1 : LP r P n D W Bo ops Q rest ((dd, .bool true) :: F) l) (hn : Nat.blt dd n = true := by rfl) (hg : Wn ops F g := by first | exact .none | exact .some rfl rfl) : LP r P n D W Bo ops Q (⟨some dd, op, ty, ps, af, g⟩ :: rest) F l :=
  s_y hy (by rw [decide_eq_false hp]; exact h1) hn hg
/-- a comparison that is known -/
theorem s_kt {op : Op} {p : Prop} [dp : Decidable p] (hy : Y P n D W Bo ⟨some dd, op, ty, ps, af, g⟩ F l (.bool (decide p)))
    (hp : p) (h1 : LP r P n D W Bo ops Q rest ((dd, .bool true) :: F) l) (hn : Nat.blt dd n = true := by rfl) (hg : Wn ops F g := by first | exact .none | exact .some rfl rfl) : LP r P n D W Bo ops Q (⟨some dd, op, ty, ps, af, g⟩ :: rest) F l :=
  s_y hy (by rw [decide_eq_true hp]; exact h1) hn hg
theorem s_kf {op : Op} {p : Prop} [dp : Decidable p] (hy : Y P n D W Bo ⟨some dd, op, ty, ps, af, g⟩ F l (.bool (decide p)))
    (hp : ¬ p) (h1 : LP r P n D W Bo ops Q rest ((dd, .bool false) :: F) l) (hn : Nat.blt dd n = true := by rfl) (hg : Wn ops F g := by first | exact .none | exact .some rfl rfl) : LP r P n D W Bo ops Q (⟨some dd, op, ty, ps, af, g⟩ :: rest) F l :=
  s_y hy (by rw [decide_eq_false hp]; exact h1) hn hg

/-- store of one cell into a slice that owns its memory -/
theorem s_str {by' : Nat} [hs : HS P t 1 by'] {a : Option Addr} {i cc k : Nat} {et : TypeId} {xs : List Value} (h : LP r P n D W Bo ops Q rest F l')
    (hx : evO F x = some (.pointer (some (ad a i))) := by rfl) (hv : evO F y = some v := by rfl)
    (hr : Rep (.row a cc et 1 k xs) (.row a cc et 1 k (xs.set i v)) l l' := by repeat (first | exact .head _ | apply Rep.tail)) (hi : i < xs.length) (h1 : v.oneCell' = true := by rfl) (hg : Wn ops F g := by first | exact .none | exact .some rfl rfl) :
    LP r P n D W Bo ops Q (⟨none, .store t x y, ty, ps, af, g⟩ :: rest) F l := by
  refine s_unit (by simp) (fun ac w ha hw => ?_) (hg := hg) (h := h)
  obtain ⟨hl, hkc, hown⟩ := (hw.own _ hr.mem).1
  rcases hown with ⟨rfl, rfl⟩ | ⟨b, cur, rfl, hb, hcm, hcs, htake⟩
  · omega
  · have hc : v.cells = #[v] := by cases v <;> first | rfl | simp [Value.oneCell'] at h1
    have hlt : i < cur.size := by rw [hcs]; omega
    have h2 := run_storeCells_at P b i et [v] 0 cur w hb (by simp; omega) (by simpa using h1)
    have e1 : (cur.toList.take (i + 0) ++ [v] ++ cur.toList.drop (i + 0 + [v].length)).toArray = cur.setIfInBounds i v := by
      apply Array.ext'
      simp [List.set_eq_take_append_cons_drop, hlt]
    rw [e1] at h2
    refine ⟨w.setRow b (cur.setIfInBounds i v), ?_, hw.change hr rfl rfl rfl (by simp) (fun k _ hk => setRow_other w b _ k (fun e => hk (by rw [e]; rfl))) ⟨by simpa using hl, hkc, .inr ⟨b, _, rfl, setRow_heap w b cur _ et (0, 0) hb, hcm, by simpa using hcs, ?_⟩⟩ (fun k hk => .inl hk)⟩
    · simp only [execOp, ha.eval hx, ha.eval hv, Instr.storeAt, Instr.sureAddr, storeVar, Sem.run_bind, Sem.run_pure, Result.andThen_ok, run_sizeOf' hs, hc, ad, Option.getD_some, Nat.zero_add]
      rw [if_neg (by simp)]
      rw [h2]
      rfl
    · rw [Array.toList_setIfInBounds, ← htake, List.take_set]

/-- an array that is written out -/
theorem y_blda {m : Nat} [hu : HU P t (.array m e)] {s by' : Nat} [hs : HS P e s by'] {zz : Value} [hz : HZ P t zz] {parts : Array (Nat × Operand)} {vs : List (Nat × Value)} {cs : List Value}
    (hp : evP F parts.toList = some vs := by rfl) (hf : fillL (fun i => some (i * s, s)) zz.cells.toList vs = some cs := by rfl) : Y P n D W Bo ⟨d, .build t parts, ty, ps, af, g⟩ F l (.agg cs.toArray) :=
  .mk (by simp) fun a w ha hw => by
    have e1 : (parts.map fun (i, x) => (i, a.eval x)).toList = vs := by
      rw [Array.toList_map]
      exact evP_eval ha hp
    have e2 := fill_of hf
    simp only [execOp, Instr.build, Sem.run_bind, hz.h, run_underlying hu.h, run_sizeOf' hs, Result.andThen_ok, e1]
    rw [show zz.cells = zz.cells.toList.toArray by simp, e2]
    rfl
end
end Eng
