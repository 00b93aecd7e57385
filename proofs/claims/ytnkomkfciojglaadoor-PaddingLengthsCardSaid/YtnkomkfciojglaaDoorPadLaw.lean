/- Padded bytes and what they contain: plain facts. -/
import Derived.Test.YtnkomkfciojglaaDoorPadding
namespace Go.Proofs.YtnkomkfciojglaaDoor
open Go Eng

theorem bek4 (x0 x1 x2 x3 : UInt8) (r : List UInt8) : bek (x0 :: x1 :: x2 :: x3 :: r) 4 = ((x0.toNat * 256 + x1.toNat) * 256 + x2.toNat) * 256 + x3.toNat := by
  simp [bek]

theorem be4_bek {p : List UInt8} (h : 4 ≤ p.length) : be4 (bek p 4) = p.take 4 := by
  match p, h with
  | x0 :: x1 :: x2 :: x3 :: r, _ =>
    rw [bek4]
    have h0 := x0.toNat_lt
    have h1 := x1.toNat_lt
    have h2 := x2.toNat_lt
    have h3 := x3.toNat_lt
    simp only [be4, List.take_succ_cons, List.take_zero]
    congr 1
    · apply UInt8.toNat_inj.1; rw [UInt8.toNat_ofNat']; omega
    congr 1
    · apply UInt8.toNat_inj.1; rw [UInt8.toNat_ofNat']; omega
    congr 1
    · apply UInt8.toNat_inj.1; rw [UInt8.toNat_ofNat']; omega
    congr 1
    · apply UInt8.toNat_inj.1; rw [UInt8.toNat_ofNat']; omega

theorem bek_be4 (n : Nat) (hn : n < 4294967296) (r : List UInt8) : bek (be4 n ++ r) 4 = n := by
  simp only [be4, List.cons_append, bek4, UInt8.toNat_ofNat']
  omega

theorem zeros_of {l : List UInt8} (h : l.any (fun x => x != 0) = false) : l = List.replicate l.length 0 := by
  apply List.eq_replicate_iff.2
  refine ⟨rfl, fun b hb => ?_⟩
  have := List.any_eq_false.1 h b hb
  simpa using this
theorem zeros_any (n : Nat) : (List.replicate n (0 : UInt8)).any (fun x => x != 0) = false := by
  rw [List.any_eq_false]
  intro x hx
  rw [List.eq_of_mem_replicate hx]
  simp

theorem plen_any (n : Int) : lens.any (fun x => decide (plen (pcl n) = x)) = true := by
  have := pcl_bd n
  have h : pcl n = 0 ∨ pcl n = 1 ∨ pcl n = 2 ∨ pcl n = 3 ∨ pcl n = 4 ∨ pcl n = 5 := by omega
  rcases h with h | h | h | h | h | h <;> rw [h] <;> decide

theorem pad_app {q : List UInt8} (h : q.length ≤ 65532) : pad q = be4 q.length ++ q ++ List.replicate ((plen (pcl q.length)).toNat - 4 - q.length) 0 := by
  rw [pad, if_neg (by omega)]

theorem unpOK_pad {q : List UInt8} (h : q.length ≤ 65532) : unpOK (pad q) = true ∧ bek (pad q) 4 = q.length ∧ unpad (pad q) = q := by
  have hl := pad_length h
  have hb : bek (pad q) 4 = q.length := by rw [pad_app h, List.append_assoc]; exact bek_be4 _ (by omega) _
  have hpp := plen_pcl (n := q.length) (by omega) (by omega)
  have hd : (pad q).drop 4 = q ++ List.replicate ((plen (pcl q.length)).toNat - 4 - q.length) 0 := by
    rw [pad_app h, List.append_assoc]; exact List.drop_left' rfl
  have ok : unpOK (pad q) = true := by
    rw [unpOK, hb, hl, plen_any]
    have hz : (pad q).drop (4 + q.length) = List.replicate ((plen (pcl q.length)).toNat - 4 - q.length) 0 := by
      rw [← List.drop_drop, hd]; exact List.drop_left' rfl
    rw [hz, zeros_any]
    simp [h]
  refine ⟨ok, hb, ?_⟩
  rw [unpad, ok, hb, hd]
  exact List.take_left' rfl

theorem pad_unpad {p : List UInt8} (h : unpOK p = true) : (unpad p).length = bek p 4 ∧ pad (unpad p) = p := by
  obtain ⟨h1, h2, h3⟩ := unpOK_bd h
  have hu : unpad p = (p.drop 4).take (bek p 4) := by rw [unpad, h]; rfl
  have hl : (unpad p).length = bek p 4 := by rw [hu]; simp; omega
  refine ⟨hl, ?_⟩
  rw [pad_app (by omega), hl, h2, be4_bek (by omega), hu]
  have hz : p.drop (4 + bek p 4) = List.replicate (p.length - 4 - bek p 4) 0 := by
    simp only [unpOK, Bool.and_eq_true, Bool.not_eq_true'] at h
    have := zeros_of h.2
    rw [List.length_drop, ← Nat.sub_sub] at this
    exact this
  rw [Int.toNat_natCast, ← hz, ← List.drop_drop, List.append_assoc, List.take_append_drop, List.take_append_drop]

theorem unpOK_iff (p : List UInt8) : unpOK p = true ↔ 4 ≤ p.length ∧ bek p 4 ≤ p.length - 4 ∧ bek p 4 ≤ 65532 ∧ p = pad ((p.drop 4).take (bek p 4)) := by
  constructor
  · intro h
    obtain ⟨h1, h2, h3⟩ := unpOK_bd h
    have := (pad_unpad h).2
    rw [unpad, h] at this
    exact ⟨by omega, by omega, h1, this.symm⟩
  · rintro ⟨h1, h2, h3, h4⟩
    have hl : ((p.drop 4).take (bek p 4)).length = bek p 4 := by simp; omega
    rw [h4]
    exact (unpOK_pad (by omega)).1

end Go.Proofs.YtnkomkfciojglaaDoor
