/- The arguments of a statement, opened. -/
import Derived.Test.YtjfiggbgpplopaaDoorRow
import Derived.SizedLaws
namespace Eng
open Go Go.RowKit Go.ChangeShapes Go.WideShapes Go.ChangeAt
section
variable {H : Type} {enc : TypeId × Value → H} {P : Program} {W : World} {r : Reach} {b0 t e : Nat} {v : Value} {d : DataW H} {ps : List MemPlace}

theorem op_int (ht : P.underlying t = some (.int .i64)) (hval : Value.okWide P W r b0 t v) (hd : DataW.Trod enc P W 0 (fun _ => true) true t v d ps) : ∃ a, v = I a ∧ R64 a := by
  obtain ⟨a0, rfl, rfl, rfl, w0⟩ := open_int ht hval hd
  exact ⟨a0, rfl, bounds_i64 w0⟩
theorem op_u16 (ht : P.underlying t = some (.int .u16)) (hval : Value.okWide P W r b0 t v) (hd : DataW.Trod enc P W 0 (fun _ => true) true t v d ps) : ∃ z : Nat, v = .int .u16 (z : Int) ∧ z < 65536 := by
  obtain ⟨a0, rfl, rfl, rfl, w0⟩ := open_int ht hval hd
  have h := bounds_u16 w0
  exact ⟨a0.toNat, by rw [Int.toNat_of_nonneg h.1], by omega⟩
theorem op_uint (ht : P.underlying t = some (.int .u64)) (hval : Value.okWide P W r b0 t v) (hd : DataW.Trod enc P W 0 (fun _ => true) true t v d ps) : ∃ z : Nat, v = U z ∧ z < 18446744073709551616 := by
  obtain ⟨a0, rfl, rfl, rfl, w0⟩ := open_int ht hval hd
  have h := bounds_u64 w0
  exact ⟨a0.toNat, by rw [U, Int.toNat_of_nonneg h.1], by omega⟩
theorem op_byte (ht : P.underlying t = some (.int .u8)) (hval : Value.okWide P W r b0 t v) (hd : DataW.Trod enc P W 0 (fun _ => true) true t v d ps) : ∃ y : UInt8, v = B y := by
  obtain ⟨a0, rfl, rfl, rfl, w0⟩ := open_int ht hval hd
  have h := bounds_u8 w0
  exact ⟨UInt8.ofNat a0.toNat, by rw [B, UInt8.toNat_ofNat']; congr 1; omega⟩
theorem op_bytes (ht : P.underlying t = some (.slice e)) (he : P.underlying e = some (.int .u8)) (hc : P.cellsOf e = 1) (hb : P.bytesOf e = 1)
    (hval : Value.okWide P W r b0 t v) (hd : DataW.Trod enc P W 0 (fun _ => true) true t v d ps) (hw : ∀ n ∈ d.weights P t, n ≤ reachBytes) : ∃ a c q, v = .slice a (List.length q) c ∧ Rd W a (bs q) ∧ q.length ≤ c ∧ c ≤ 140737488351232 := by
  obtain ⟨a, c, q, h1, h2, h3, _⟩ := open_bytes ht he hc hval hd
  refine ⟨a, c, q, h1, h2, h3, ?_⟩
  obtain ⟨fuel, hf⟩ := hd
  rcases open_ints ht he hc hf with ⟨hcs, hx⟩ | ⟨a', len', cap', zs, hcs, _, hl, hm, hz, hx, _, _⟩
  · rw [h1] at hcs
    simp only [Value.cells, List.cons.injEq, Value.slice.injEq, and_true] at hcs
    omega
  · rw [h1] at hcs
    simp only [Value.cells, List.cons.injEq, Value.slice.injEq, and_true] at hcs
    simp only [if_true] at hz
    simp only [Prod.mk.injEq] at hx
    have := hw ((zs.take len').length + (zs.drop len').length) (by
      rw [hx.1]
      simp [DataW.weights, ht, hb, lits])
    rw [← List.length_append, List.take_append_drop] at this
    unfold reachBytes at this
    omega
end
end Eng
