/- Slices that grow, are made and copied; calls; the ends of a function. -/
import Derived.Test.YtjfiggbgpplopaaDoorMem
namespace Eng
open Go Go.RowKit

/-- what append adds, as cells -/
def Src (P : Program) (w : World) (s : Nat) (x : Value) (m : Nat) (ys : List Value) : Prop :=
  (Builtin.lenOf x).run P w = .ok m w ∧ (Builtin.firstCells s m x).run P w = .ok ys.toArray w ∧ ys.length = m * s

theorem Src.slice {P : Program} {w : World} {s : Nat} {a : Option Addr} {m c : Nat} {ys : List Value} (h : Rd w a ys) (hl : ys.length = m * s) : Src P w s (.slice a m c) m ys := by
  refine ⟨rfl, ?_, hl⟩
  cases ha : a with
  | none =>
    rcases h with rfl | ⟨b, off, cs, t, fz, e, _⟩
    · simp [Builtin.firstCells]
    · rw [ha] at e; cases e
  | some ad' =>
    simp only [Builtin.firstCells]
    rw [← hl]
    refine run_loadCells' (fun j v hv => ?_)
    have h1 := h.cell hv
    rw [ha] at h1
    have e := Option.some.inj h1.1
    rw [e, ad_add, Nat.zero_add]
    exact h1.2

theorem Src.string {P : Program} {w : World} {b : ByteArray} : Src P w 1 (.string b) b.size (b.data.toList.map B) := by
  refine ⟨rfl, ?_, by simp⟩
  simp only [Builtin.firstCells, Sem.run_pure]
  congr 1
  apply Array.ext'
  simp only [Array.toList_map, ByteArray.data_extract, Array.toList_extract, List.extract_eq_take_drop]
  rw [List.drop_zero, List.take_of_length_le (by simp)]

theorem run_app {P : Program} {t u ty e : TypeId} {ud : TypeDesc} {s by' : Nat} {z : Value} {w : World} (ht : P.underlying t = some (.slice e)) (hu : P.underlying u = some ud) (hud : (∃ e', ud = .slice e') ∨ ud = .string)
    (hs : HS P e s by') (hz : HZ P e z) (hzs : z.cells.size = s) {a : Option Addr} {n c m : Nat} {xs ys : List Value} {x : Value}
    (hrow : (Res.row a c e s n xs).holds w) (hx : Src P w s x m ys) (hxd : Src P w.drew s x m ys) (h1 : ∀ v ∈ ys, v.oneCell' = true) (hfit : n + m ≤ maxLen) (hby : (n + m) * by' ≤ 140737488355328) :
    ∃ a' c' w', (Builtin.append_ #[t, u] ty #[.slice a n c, x]).run P w = .ok (.slice a' (n + m) c') w' ∧ (Res.row a' c' e s (n + m) (xs ++ ys)).holds w' ∧
      w'.os = w.os ∧ w'.tape = w.tape ∧ w'.output = w.output ∧ w.heap.size ≤ w'.heap.size ∧
      (∀ k, k < w.heap.size → (Res.row a c e s n xs).key ≠ some k → w'.heap[k]? = w.heap[k]?) ∧
      (∀ k, (Res.row a' c' e s (n + m) (xs ++ ys)).key = some k → (Res.row a c e s n xs).key = some k ∨ w.heap.size ≤ k) ∧ (a' = none → a = none ∧ m = 0) := by
  obtain ⟨i, hi, hsz, hbz⟩ := hs.h
  obtain ⟨hxl, hnc, hown⟩ := hrow
  have hsrcl := hx.2.2
  by_cases hroom : n + m ≤ c
  · rcases hown with ⟨rfl, rfl⟩ | ⟨g, cur, rfl, hg, hcm, hcs, htake⟩
    · have hn : n = 0 := by omega
      have hm : m = 0 := by omega
      subst hn; subst hm
      refine ⟨none, 0, w, ?_, ⟨by simp [hxl, hsrcl], by simp, .inl ⟨rfl, rfl⟩⟩, rfl, rfl, rfl, Nat.le_refl _, fun _ _ _ => rfl, fun k hk => .inl hk, fun _ => ⟨rfl, rfl⟩⟩
      rcases hud with ⟨e', rfl⟩ | rfl <;> simp [Builtin.append_, run_underlying ht, run_underlying hu, Go.sizeOf, typeInfo, hi, hx.1, hsz, hx.2.1]
    · have hfits : n * s + ys.length ≤ cur.size := by rw [hsrcl, hcs, ← Nat.add_mul]; exact Nat.mul_le_mul_right _ hroom
      have hst := run_storeCells_at P g (n * s) e ys 0 cur w hg (by simpa using hfits) h1
      simp only [Nat.add_zero] at hst
      have hxl' : xs.length = n * s := hxl
      refine ⟨some ⟨g, 0, none⟩, c, w.setRow g (cur.toList.take (n * s) ++ ys ++ cur.toList.drop (n * s + ys.length)).toArray, ?_, ⟨by simp [hxl, hsrcl, Nat.add_mul], by omega, .inr ⟨g, _, rfl, setRow_heap w g cur _ e (0, 0) hg, hcm, ?_, ?_⟩⟩, rfl, rfl, rfl, by simp, ?_, fun k hk => .inl hk, fun h => by cases h⟩
      · rcases hud with ⟨e', rfl⟩ | rfl <;> simp [Builtin.append_, run_underlying ht, run_underlying hu, Go.sizeOf, typeInfo, hi, hx.1, hsz, hx.2.1, hroom, addr_add, hst]
      · simp only [List.size_toArray, List.length_append, List.length_take, List.length_drop, Array.length_toList]
        rw [Nat.min_eq_left (by omega)]; omega
      · rw [htake, List.toList_toArray, List.take_append_of_le_length (by simp [hxl, hsrcl, Nat.add_mul]), List.take_of_length_le (by simp [hxl, hsrcl, Nat.add_mul])]
      · intro k _ hk
        exact setRow_other w g _ k (fun e' => hk (by rw [e']; rfl))
  · have h63' : ¬ (9223372036854775807 < ((n : Int) + (m : Int))) := by simp only [maxLen] at hfit; omega
    have hns : Builtin.nextslicecap (n + m) c * i.bytes ≤ 281474976710656 := growslice_fits (by omega) (by rw [hbz]; exact hby)
    have h48' : ¬ (281474976710656 < Builtin.nextslicecap (n + m) c * i.bytes) := by omega
    have hold : (Builtin.firstCells s n (.slice a n c)).run P w.drew = .ok xs.toArray w.drew := by
      have hrd : Rd w.drew a xs := by
        refine Rd.congr (w := w) (Res.rd (c := c) (e := e) (s := s) (n := n) ⟨hxl, hnc, hown⟩) (fun b _ => rfl)
      exact (Src.slice hrd hxl).2.1
    have hge := grownCap_ge w (n + m) c e
    have hcm : grownCap w (n + m) c e ≤ maxLen := grownCap_le_maxLen w (n + m) c e hfit
    refine ⟨some ⟨w.heap.size, 0, none⟩, grownCap w (n + m) c e, w.drew.alloc (.cells (xs.toArray ++ ys.toArray ++ Builtin.zeroCells z.cells (grownCap w (n + m) c e - (n + m))) e), ?_, ⟨by simp [hxl, hsrcl, Nat.add_mul], hge, .inr ⟨w.heap.size, _, rfl, heap_alloc_new w.drew _, hcm, ?_, ?_⟩⟩, rfl, rfl, rfl, by simp, fun k hk _ => Below.heap_alloc w.drew _ k hk, fun k hk => by simp [Res.key] at hk; omega, fun h => by cases h⟩
    · have hzz := hz.h w.drew
      have hni : ¬ (n + m ≤ c) := hroom
      rcases hud with ⟨e', rfl⟩ | rfl <;> simp [Builtin.append_, run_underlying ht, run_underlying hu, Go.sizeOf, typeInfo, hi, hx.1, hsz, hni, h63', h48', Question.forced, hold, hxd.2.1, hzz, newRow, grownCap] <;> (congr 2; apply Array.ext'; simp)
    · simp only [Array.size_append, List.size_toArray, size_zeroCells, hzs, hxl, hsrcl, ← Nat.add_mul]
      congr 1; omega
    · simp only [Array.toList_append]
      rw [List.take_append_of_le_length (by simp [hxl, hsrcl, Nat.add_mul]), List.take_of_length_le (by simp [hxl, hsrcl, Nat.add_mul])]

end Eng
