/- Shares on a polynomial; no program in sight. -/
import Derived.Test.YtnmaegbobfngeaaDoorShK
import Derived.Test.YtnmaegbobfngeaaDoorShJ
namespace Gf
open Go Eng Poly
theorem hor_ev (x : Nat) : ∀ cs : List Nat, Qi ∣ ((hor cs x : Nat) : Int) - ev (ni cs) x
  | [] => ⟨0, rfl⟩
  | a :: cs => by
    have ih := hor_ev x cs
    have m1 := mod_dvd (hor cs x * x % 2305843009213688669 + a)
    have m2 := mod_dvd (hor cs x * x)
    rw [Int.natCast_add] at m1
    rw [Int.natCast_mul] at m2
    have e : hor (a :: cs) x = (hor cs x * x % 2305843009213688669 + a) % 2305843009213688669 := rfl
    have e2 : ev (ni (a :: cs)) x = (a : Int) + x * ev (ni cs) x := rfl
    rw [e, e2]
    obtain ⟨k0, h0⟩ := ih
    obtain ⟨k1, h1⟩ := m1
    obtain ⟨k2, h2⟩ := m2
    generalize (((hor cs x * x % 2305843009213688669 + a) % 2305843009213688669 : Nat) : Int) = A at *
    generalize ((hor cs x * x % 2305843009213688669 : Nat) : Int) = B at *
    generalize ((hor cs x : Nat) : Int) = H at *
    generalize ev (ni cs) x = E at *
    generalize (x : Int) = X at *
    generalize (a : Int) = Y at *
    generalize Qi = q at *
    exact ⟨k1 + k2 + k0 * X, by grind⟩
theorem accQ_lt' (l : List (Nat × Nat)) (x : Nat) : valQ l x < 2305843009213688669 := accQ_lt l x l.length
theorem eq_of_dvd {a b : Nat} (ha : a < 2305843009213688669) (hb : b < 2305843009213688669) (h : Qi ∣ (a : Int) - (b : Int)) : a = b := by
  obtain ⟨k, hk⟩ := h
  rw [show Qi = 2305843009213688669 from rfl] at hk
  omega
theorem Vld.sep {l : List (Nat × Nat)} (hv : Vld l) : (sN l).Pairwise (fun s t => ¬ Qi ∣ t.1 - s.1) := by
  unfold sN
  refine List.pairwise_map.2 (hv.up.imp_of_mem fun {s t} hs ht h => ?_)
  have h1 := hv.at' s hs
  have h2 := hv.at' t ht
  rintro ⟨k, hk⟩
  rw [show Qi = 2305843009213688669 from rfl] at hk
  simp only at hk
  omega
theorem Vld.plq {l : List (Nat × Nat)} (hv : Vld l) : ∀ b ∈ pl l, b < 2305843009213688669 := fun b hb => by
  obtain ⟨s, hs, rfl⟩ := List.mem_map.1 hb
  have := hv.at' s hs
  omega
/-- enough shares of a polynomial find its values -/
theorem valQ_hor {l : List (Nat × Nat)} (hv : Vld l) (cs : List Nat) (hc : cs.length ≤ l.length) (hy : ∀ s ∈ l, s.2 = hor cs s.1) (x : Nat) : valQ l x = hor cs x := by
  refine eq_of_dvd (accQ_lt' l x) (hor_lt cs x) ?_
  have h1 := valQ_lag l x hv.plq
  have h2 := lag_of prmQ wQ wQ_inv (sN l) hv.sep (ni cs) (by rw [ni_length, sN_length]; exact hc) (fun s hs => by
    obtain ⟨t, ht, rfl⟩ := List.mem_map.1 hs
    have h3 := hor_ev t.1 cs
    rw [← hy t ht] at h3
    have h4 := Int.dvd_neg.2 h3
    rwa [Int.neg_sub] at h4) (x : Int)
  have h3 := hor_ev x cs
  obtain ⟨k1, h1⟩ := h1
  obtain ⟨k2, h2⟩ := h2
  obtain ⟨k3, h3⟩ := h3
  exact ⟨k1 + k2 - k3, by
    generalize ((valQ l x : Nat) : Int) = A at *
    generalize ((hor cs x : Nat) : Int) = B at *
    generalize lag wQ (sN l) x = C at *
    generalize ev (ni cs) x = E at *
    generalize Qi = q at *
    grind⟩
theorem hor_zero (a : Nat) (cs : List Nat) (h : a < 2305843009213688669) : hor (a :: cs) 0 = a := by
  show (hor cs 0 * 0 % 2305843009213688669 + a) % 2305843009213688669 = a
  rw [Nat.mul_zero, Nat.zero_mod, Nat.zero_add, Nat.mod_eq_of_lt h]
/-- the shares of a splitting are valid -/
theorem spl_vld (cs : List Nat) {m : Nat} (h1 : 1 ≤ m) (h2 : m ≤ 64) : Vld (Go.Proofs.YtnmaegbobfngeaaDoor.spl cs m) where
  le := by rw [Go.Proofs.YtnmaegbobfngeaaDoor.spl_length]; exact h2
  pos := by rw [Go.Proofs.YtnmaegbobfngeaaDoor.spl_length]; exact h1
  at' s hs := by
    obtain ⟨i, hi, rfl⟩ := List.mem_map.1 hs
    have := List.mem_range.1 hi
    exact ⟨by show 1 ≤ i + 1; omega, by show i + 1 ≤ 64; omega, hor_lt _ _⟩
  up := by
    unfold Go.Proofs.YtnmaegbobfngeaaDoor.spl
    exact List.pairwise_map.2 (List.pairwise_lt_range.imp fun h => by show _ + 1 < _ + 1; omega)
end Gf
