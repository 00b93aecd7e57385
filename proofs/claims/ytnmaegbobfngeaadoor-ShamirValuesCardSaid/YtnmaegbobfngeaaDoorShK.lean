/- The value of shares is their interpolation; no program in sight. -/
import Derived.Test.YtnmaegbobfngeaaDoorShG
import Derived.Test.YtnmaegbobfngeaaDoorPoly
namespace Gf
open Go Eng Poly
abbrev Qi : Int := 2305843009213688669
theorem prmQ : Prm Qi where
  mul a b h := by
    have hq : (Num.Q : Int) = Qi := by rw [Qeq]; rfl
    have h1 : Num.Q ∣ a.natAbs * b.natAbs := by
      rw [← Int.natAbs_mul]
      exact Int.ofNat_dvd_left.1 (by rw [hq]; exact h)
    rcases Num.prime_Q.dvd_mul h1 with h2 | h2
    · exact .inl (by rw [← hq]; exact Int.ofNat_dvd_left.2 h2)
    · exact .inr (by rw [← hq]; exact Int.ofNat_dvd_left.2 h2)
  one h := by have := Int.le_of_dvd (by decide) h; exact absurd this (by decide)
/-- an inverse of an int -/
noncomputable def wQ (d : Int) : Int := ((qq (d % Qi).toNat 2305843009213688667 : Nat) : Int)
theorem wQ_inv (d : Int) (h : ¬ Qi ∣ d) : Qi ∣ d * wQ d - 1 := by
  have h0 := Int.emod_nonneg d (show Qi ≠ 0 by decide)
  have h1 := Int.emod_lt_of_pos d (show (0 : Int) < Qi by decide)
  have hne : d % Qi ≠ 0 := fun e => h (Int.dvd_of_emod_eq_zero e)
  obtain ⟨r, hr⟩ : ∃ r : Nat, d % Qi = (r : Int) := ⟨(d % Qi).toNat, (Int.toNat_of_nonneg h0).symm⟩
  rw [wQ, hr, Int.toNat_natCast]
  rw [hr] at h0 h1 hne
  have h3 := qq_inv (x := r) (by omega) (by have : Qi = 2305843009213688669 := rfl; omega)
  obtain ⟨z, hz⟩ : ∃ z, qq r 2305843009213688667 = z := ⟨_, rfl⟩
  rw [hz] at h3 ⊢
  have h4 := Nat.mod_add_div (r * z) 2305843009213688669
  rw [h3] at h4
  have h5 := Int.mul_ediv_add_emod d Qi
  rw [hr] at h5
  have h6 : ((r * z : Nat) : Int) = 1 + Qi * ((r * z / 2305843009213688669 : Nat) : Int) := by
    rw [show Qi = 2305843009213688669 from rfl]
    omega
  rw [Int.natCast_mul] at h6
  exact ⟨d / Qi * z + ((r * z / 2305843009213688669 : Nat) : Int), by
    generalize ((r * z / 2305843009213688669 : Nat) : Int) = t at h6 ⊢
    generalize d / Qi = u at h5 ⊢
    generalize Qi = q at *
    grind⟩
theorem prods_snoc : ∀ (os : List Int) (b x : Int), prods (os ++ [b]) x = prods os x * (x - b)
  | [], b, x => by show (x - b) * 1 = 1 * (x - b); grind
  | a :: os, b, x => by
    show (x - a) * prods (os ++ [b]) x = (x - a) * prods os x * (x - b)
    rw [prods_snoc os b x]; grind
theorem ni_snoc (d : List Nat) (b : Nat) : ni (d ++ [b]) = ni d ++ [(b : Int)] := by unfold ni; rw [List.map_append]; rfl
theorem mod_dvd (a : Nat) : Qi ∣ ((a % 2305843009213688669 : Nat) : Int) - (a : Int) := by
  refine ⟨-((a / 2305843009213688669 : Nat) : Int), ?_⟩
  rw [show Qi = 2305843009213688669 from rfl]
  omega
theorem subQ_dvd {x b : Nat} (hb : b < 2305843009213688669) : Qi ∣ ((subQ x b : Nat) : Int) - ((x : Int) - (b : Int)) := by
  have h := mod_dvd (x + (2305843009213688669 - b))
  have h2 : ((x + (2305843009213688669 - b) : Nat) : Int) = (x : Int) - b + Qi := by
    have : Qi = 2305843009213688669 := rfl
    omega
  rw [h2] at h
  have h3 := Int.dvd_add h (Int.dvd_refl Qi)
  unfold subQ
  generalize (((x + (2305843009213688669 - b)) % 2305843009213688669 : Nat) : Int) = s at *
  have e : s - ((x : Int) - b) = s - ((x : Int) - b + Qi) + Qi := by generalize Qi = q; grind
  rw [e]; exact h3
theorem mul_dvd {a a' b b' : Int} (h : Qi ∣ a - a') (h' : Qi ∣ b - b') : Qi ∣ a * b - a' * b' := by
  obtain ⟨k, hk⟩ := h
  obtain ⟨m, hm⟩ := h'
  generalize Qi = q at *
  exact ⟨k * b + a' * m, by grind⟩
theorem upQ_dvd (x : Nat) : ∀ os : List Nat, (∀ b ∈ os, b < 2305843009213688669) → Qi ∣ ((upQ os x : Nat) : Int) - prods (ni os) x := by
  refine rev_ind (fun _ => ⟨0, by show ((1 : Nat) : Int) - 1 = Qi * 0; rfl⟩) fun d b ih h => ?_
  rw [upQ_snoc, ni_snoc, prods_snoc]
  have h1 := mod_dvd (upQ d x * subQ x b)
  rw [Int.natCast_mul] at h1
  have h2 := mul_dvd (ih fun c hc => h c (List.mem_append_left _ hc)) (subQ_dvd (x := x) (h b (List.mem_append_right _ (.head _))))
  have h3 := Int.dvd_add h1 h2
  generalize ((upQ d x * subQ x b % 2305843009213688669 : Nat) : Int) = u at *
  generalize ((upQ d x : Nat) : Int) = v at *
  generalize ((subQ x b : Nat) : Int) = s at *
  have e : u - prods (ni d) x * ((x : Int) - b) = u - v * s + (v * s - prods (ni d) x * ((x : Int) - b)) := by grind
  rw [e]; exact h3
theorem wQ_up (a : Nat) (ot : List Nat) (h : ∀ b ∈ ot, b < 2305843009213688669) : wQ (prods (ni ot) a) = ((qq (upQ ot a) 2305843009213688667 : Nat) : Int) := by
  have h1 := upQ_dvd a ot h
  have h2 := upQ_lt ot a
  obtain ⟨k, hk⟩ := h1
  rw [wQ]
  have e : prods (ni ot) a % Qi = ((upQ ot a : Nat) : Int) := by
    rw [show Qi = 2305843009213688669 from rfl] at hk ⊢
    omega
  rw [e, Int.toNat_natCast]
theorem basQ_dvd (a x : Nat) (ot : List Nat) (h : ∀ b ∈ ot, b < 2305843009213688669) : Qi ∣ ((basQ ot a x : Nat) : Int) - wQ (prods (ni ot) a) * prods (ni ot) x := by
  rw [wQ_up a ot h, basQ]
  have h1 := mod_dvd (upQ ot x * qq (upQ ot a) 2305843009213688667)
  rw [Int.natCast_mul] at h1
  have h2 := mul_dvd (upQ_dvd x ot h) (show Qi ∣ ((qq (upQ ot a) 2305843009213688667 : Nat) : Int) - ((qq (upQ ot a) 2305843009213688667 : Nat) : Int) from ⟨0, by rw [Int.sub_self]; rfl⟩)
  have h3 := Int.dvd_add h1 h2
  generalize ((upQ ot x * qq (upQ ot a) 2305843009213688667 % 2305843009213688669 : Nat) : Int) = u at *
  generalize ((upQ ot x : Nat) : Int) = v at *
  generalize ((qq (upQ ot a) 2305843009213688667 : Nat) : Int) = z at *
  have e : u - z * prods (ni ot) x = u - v * z + (v * z - prods (ni ot) x * z) := by grind
  rw [e]; exact h3
theorem acc_lag (L : List (Nat × Nat)) (x : Nat) (hb : ∀ b ∈ pl L, b < 2305843009213688669) : ∀ (r d : List (Nat × Nat)), L = d ++ r → Qi ∣ ((accQ L x L.length : Nat) : Int) - (((accQ L x d.length : Nat) : Int) + ev (lagP wQ (ni (pl d)) (sN r)) x)
  | [], d, e => by
    rw [List.append_nil] at e
    subst e
    exact ⟨0, by show _ - (_ + 0) = _; omega⟩
  | (a, y) :: r, d, e => by
    have ih := acc_lag L x hb r (d ++ [(a, y)]) (by rw [e, List.append_assoc]; rfl)
    have hlen : (d ++ [(a, y)]).length = d.length + 1 := by simp
    have e1 : (pl L).eraseIdx d.length = pl d ++ pl r := by
      rw [e]; unfold pl
      rw [List.map_append, List.map_cons, List.eraseIdx_append_of_length_le (by rw [List.length_map]; exact Nat.le_refl _), List.length_map, Nat.sub_self]; rfl
    have e2 : (pl L).getD d.length 0 = a := by
      rw [e]; unfold pl
      rw [List.getD_eq_getElem?_getD, List.map_append, List.getElem?_append_right (by rw [List.length_map]; exact Nat.le_refl _), List.length_map, Nat.sub_self]; rfl
    have e3 : (L.getD d.length (0, 0)).2 = y := by
      rw [e, List.getD_eq_getElem?_getD, List.getElem?_append_right (Nat.le_refl _), Nat.sub_self]; rfl
    have hot : ∀ b ∈ pl d ++ pl r, b < 2305843009213688669 := fun b hbm => hb b (by rw [← e1] at hbm; exact List.mem_of_mem_eraseIdx hbm)
    have h1 := basQ_dvd a x (pl d ++ pl r) hot
    have e4 : ni (pl d ++ pl r) = ni (pl d) ++ ni (pl r) := by unfold ni; rw [List.map_append]
    have e5 : ni (pl (d ++ [(a, y)])) = ni (pl d) ++ [(a : Int)] := by unfold ni pl; rw [List.map_append, List.map_append]; rfl
    have hacc : accQ L x (d.length + 1) = (accQ L x d.length + basQ (pl d ++ pl r) a x * y % 2305843009213688669) % 2305843009213688669 := by rw [accQ, e1, e2, e3]
    have hlp : ev (lagP wQ (ni (pl d)) (sN ((a, y) :: r))) x = (y : Int) * wQ (prods (ni (pl d ++ pl r)) a) * prods (ni (pl d ++ pl r)) x + ev (lagP wQ (ni (pl d) ++ [(a : Int)]) (sN r)) x := by
      show ev (lagP wQ (ni (pl d)) (((a : Int), (y : Int)) :: sN r)) x = _
      rw [lagP, ev_addp, ev_scp, ev_prodP, sN_pl, e4]
    rw [hlen, e5, hacc] at ih
    rw [hlp]
    have m1 := mod_dvd (accQ L x d.length + basQ (pl d ++ pl r) a x * y % 2305843009213688669)
    have m2 := mod_dvd (basQ (pl d ++ pl r) a x * y)
    rw [Int.natCast_mul] at m2
    rw [Int.natCast_add] at m1
    obtain ⟨k0, h0⟩ := ih
    obtain ⟨k1, h1⟩ := h1
    obtain ⟨k2, h2⟩ := m1
    obtain ⟨k3, h3⟩ := m2
    generalize (((accQ L x d.length + basQ (pl d ++ pl r) a x * y % 2305843009213688669) % 2305843009213688669 : Nat) : Int) = A1 at *
    generalize ((basQ (pl d ++ pl r) a x * y % 2305843009213688669 : Nat) : Int) = B1 at *
    generalize ((basQ (pl d ++ pl r) a x : Nat) : Int) = B at *
    generalize ((accQ L x d.length : Nat) : Int) = A at *
    generalize ((accQ L x L.length : Nat) : Int) = Z at *
    generalize wQ (prods (ni (pl d ++ pl r)) a) = w at *
    generalize prods (ni (pl d ++ pl r)) x = p at *
    generalize ev (lagP wQ (ni (pl d) ++ [(a : Int)]) (sN r)) x = E at *
    generalize (y : Int) = Y at *
    generalize Qi = q at *
    exact ⟨k0 + k2 + k3 + k1 * Y, by grind⟩
/-- the value is the interpolation -/
theorem valQ_lag (L : List (Nat × Nat)) (x : Nat) (hb : ∀ b ∈ pl L, b < 2305843009213688669) : Qi ∣ ((valQ L x : Nat) : Int) - lag wQ (sN L) x := by
  have h := acc_lag L x hb L [] rfl
  have e : (((accQ L x ([] : List (Nat × Nat)).length : Nat) : Int) + ev (lagP wQ (ni (pl [])) (sN L)) x) = lag wQ (sN L) x := by
    show ((0 : Nat) : Int) + ev (lagP wQ [] (sN L)) x = ev (lagP wQ [] (sN L)) x
    omega
  rw [e] at h
  exact h
end Gf
