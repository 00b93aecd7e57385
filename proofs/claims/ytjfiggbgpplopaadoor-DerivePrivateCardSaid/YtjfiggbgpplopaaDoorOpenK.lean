/- The arguments of a statement, opened: keys, texts, ints; listed words. -/
import Derived.Test.YtjfiggbgpplopaaDoorOpen
import Derived.Test.YtjfiggbgpplopaaDoorMore
import Derived.ChangeMaps5
namespace Eng
open Go Go.RowKit Go.ChangeShapes Go.WideShapes Go.ChangeAt
section
variable {H : Type} {enc : TypeId × Value → H} {P : Program} {W : World} {r : Reach} {b0 t e : Nat} {v : Value} {d : DataW H} {ps : List MemPlace}

def byteOf : Option Value → UInt8
  | some (Value.int .u8 z) => UInt8.ofNat z.toNat
  | _ => 0
theorem byteOf_b (z : UInt8) : byteOf (some (B z)) = z := by
  show UInt8.ofNat ((z.toNat : Int)).toNat = z
  rw [Int.toNat_natCast, UInt8.ofNat_toNat]
theorem op_str (ht : P.underlying t = some .string) (hval : Value.okWide P W r b0 t v) (hd : DataW.Trod enc P W 0 (fun _ => true) true t v d ps) : ∃ q : List UInt8, v = .string (sb q) ∧ q.length ≤ maxLen := by
  obtain ⟨s, rfl, _, _, hs⟩ := Go.ChangeMaps.open_string ht hval hd
  exact ⟨s.data.toList, rfl, hs⟩

theorem op_key {m : Nat} (ht : P.underlying t = some (.array m e)) (he : P.underlying e = some (.int .u8)) (hce : P.cellsOf e = 1) (hct : P.cellsOf t = m)
    (hval : Value.okWide P W r b0 t v) (hd : DataW.Trod enc P W 0 (fun _ => true) true t v d ps) : ∃ q : List UInt8, v = .agg (bs q).toArray ∧ q.length = m := by
  have h0 : ∃ cs, v = .agg cs ∧ cs.size = P.cellsOf t := by
    simp only [Value.okWide, ht] at hval
    obtain ⟨cs, h1, h2, _⟩ := hval
    exact ⟨cs, h1, h2⟩
  obtain ⟨cs, rfl, hsz⟩ := h0
  rw [hct] at hsz
  obtain ⟨fuel, hf⟩ := hd
  obtain ⟨xs, n, _, _, _, hn, hel⟩ := DataW.trod_array ht hf
  have key : ∀ i, i < m → ∃ z : UInt8, cs[i]? = some (B z) := fun i hi => by
    have h1 := hel i hi
    have h2 : i < xs.length := by omega
    rw [List.getElem?_eq_getElem h2, hce, Nat.mul_one] at h1
    obtain ⟨z, e1, _, e3⟩ := DataW.trod_int he h1
    have h3 := bounds_u8 e3
    refine ⟨UInt8.ofNat z.toNat, ?_⟩
    have h4 : ((cs.toList.drop i).take 1)[0]? = some (.int .u8 z) := by
      have : (Value.agg cs).cells.toList = cs.toList := rfl
      rw [← this, e1]; rfl
    rw [List.getElem?_take, if_pos (by decide), List.getElem?_drop, Nat.add_zero, Array.getElem?_toList] at h4
    rw [h4, B, UInt8.toNat_ofNat']
    congr 2
    omega
  refine ⟨(List.range m).map fun i => byteOf cs[i]?, ?_, by simp⟩
  congr 1
  apply Array.ext'
  apply List.ext_getElem?
  intro i
  rw [Array.getElem?_toList]
  rcases Nat.lt_or_ge i m with hi | hi
  · obtain ⟨z, hz⟩ := key i hi
    rw [hz]
    simp only [bs, List.getElem?_map, List.getElem?_range hi, Option.map_some, hz, byteOf_b]
  · rw [Array.getElem?_eq_none (by omega)]
    simp [bs, hi]

theorem op_ints (ht : P.underlying t = some (.slice e)) (he : P.underlying e = some (.int .i64)) (hc : P.cellsOf e = 1)
    (hval : Value.okWide P W r b0 t v) (hd : DataW.Trod enc P W 0 (fun _ => true) true t v d ps) : ∃ a c q, v = .slice a (List.length q) c ∧ Rd W a (is q) ∧ (∀ n ∈ q, R64 n) ∧ q.length ≤ maxLen := by
  obtain ⟨a0, len, cap, rfl⟩ := okWide_slice ht hval
  obtain ⟨fuel, hf⟩ := hd
  rcases open_ints ht he hc hf with ⟨hcs, hx⟩ | ⟨a, len', cap', zs, hcs, _, hl, hm, hz, hx, hcell, hwz⟩
  · simp only [Value.cells, List.cons.injEq, Value.slice.injEq, and_true] at hcs
    obtain ⟨rfl, rfl, rfl⟩ := hcs
    exact ⟨none, 0, [], rfl, Rd.nil _ _, by simp, by simp⟩
  · simp only [Value.cells, List.cons.injEq, Value.slice.injEq, and_true] at hcs
    obtain ⟨rfl, rfl, rfl⟩ := hcs
    simp only [if_true] at hz
    have hlen : (zs.take len).length = len := by simp [hz, hl]
    refine ⟨some a, cap, zs.take len, by rw [hlen], ?_, fun n hn => bounds_i64 (hwz n (List.mem_of_mem_take hn)), by omega⟩
    rcases Nat.eq_zero_or_pos len with h0 | h0
    · subst h0; exact Rd.nil _ _
    · obtain ⟨b, off, rfl, hc2⟩ := ints_at hcell (by omega)
      have key : ∃ cs t fz, W.heap[b]? = some (.cells cs t fz) := by
        have h1 := hc2 0 (by omega)
        unfold World.cell? at h1
        cases hh : W.heap[b]? with
        | none => simp [hh] at h1
        | some o =>
          cases o with
          | cells cs t fz => exact ⟨cs, t, fz, rfl⟩
          | _ => simp [hh] at h1
      obtain ⟨cs, t, fz, hh⟩ := key
      refine .inr ⟨b, off, cs, t, fz, rfl, hh, fun i v hv => ?_⟩
      simp only [is, List.getElem?_map, Option.map_eq_some_iff] at hv
      obtain ⟨z, hz1, rfl⟩ := hv
      rw [List.getElem?_take] at hz1
      split at hz1
      · rename_i hi
        have h1 := hc2 i (by omega)
        rw [cell_of_row W b (off + i) cs t fz hh] at h1
        rw [h1, List.getD_eq_getElem?_getD, hz1, Option.getD_some]
      · cases hz1
end

/-- a listed array of words -/
theorem rd_listedW {P : Program} {w : World} {nm : String} {g t e n fuel : Nat} {cs : Array Value} {l : List UInt32} {p : List MemPlace} (hg : P.globalNamed nm = some g) (hv : w.var? P nm = some cs)
    (ht : P.underlying t = some (.array n e)) (he : P.underlying e = some (.int .u32)) (hce : P.cellsOf e = 1)
    (hd : DataW.trod (fun _ => ()) P w 0 (fun _ => true) false fuel t cs.toList = some (.agg (l.map fun z => .lit (.int .u32 z.toNat)), p)) : Rd w (some ⟨g, 0, none⟩) (ws l) := by
  obtain ⟨tt, fz, hh⟩ := var_heap hg hv
  obtain ⟨xs, m, rfl, hx, hlen, hn, hel⟩ := DataW.trod_array ht hd
  refine .inr ⟨g, 0, cs, tt, fz, rfl, hh, fun i v hiv => ?_⟩
  simp only [Prod.mk.injEq, DataW.agg.injEq] at hx
  obtain ⟨z, hz, rfl⟩ : ∃ z, l[i]? = some z ∧ W32 z = v := by simpa [ws, List.getElem?_map] using hiv
  have hi : i < n := by
    have h1 : i < l.length := (List.getElem?_eq_some_iff.1 hz).1
    have h2 : l.length = xs.length := by have := congrArg List.length hx.1; simpa using this
    omega
  have h1 := hel i hi
  have h2 : (xs.map (·.1))[i]? = some (.lit (.int .u32 z.toNat)) := by rw [← hx.1]; simp [hz]
  rw [List.getElem?_map] at h2
  cases hxi : xs[i]? with
  | none => rw [hxi] at h2; cases h2
  | some y =>
    rw [hxi] at h2 h1
    obtain ⟨z', e1, e2, _⟩ := DataW.trod_int he h1
    have : z' = (z.toNat : Int) := by
      rw [e2] at h2
      simpa using h2
    subst this
    rw [hce, Nat.mul_one] at e1
    have h3 : (cs.toList.drop i)[0]? = some (W32 z) := by
      have : ((cs.toList.drop i).take 1)[0]? = some (W32 z) := by rw [e1]; rfl
      simpa [List.getElem?_take] using this
    rw [List.getElem?_drop] at h3
    simpa using h3
end Eng
