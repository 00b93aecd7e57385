/- Shares: what follows of them; no program in sight. -/
import Derived.Test.YtnmaegbobfngeaaDoorShO
import Derived.Test.YtnmaegbobfngeaaDoorShL
namespace Gf
open Go Eng Poly
theorem vld_okS : ∀ (l : List (Nat × Nat)) (last : Nat), (∀ s ∈ l, last < s.1 ∧ s.1 ≤ 64 ∧ s.2 < 2305843009213688669) → l.Pairwise (fun s t => s.1 < t.1) → okS (last : Int) (sN l) = true
  | [], _, _, _ => rfl
  | s :: l, last, h, hp => by
    have h1 := h s (.head _)
    have ih := vld_okS l s.1 (fun t ht => ⟨(List.pairwise_cons.1 hp).1 t ht, (h t (.tail _ ht)).2⟩) (List.pairwise_cons.1 hp).2
    show (decide ((last : Int) < (s.1 : Int)) && (decide ((s.1 : Int) ≤ 64) && (sc (s.2 : Int) && okS (s.1 : Int) (sN l)))) = true
    rw [ih, decide_eq_true (by omega), decide_eq_true (by omega), sc_of h1.2.2]; rfl
theorem Vld.ch {l : List (Nat × Nat)} (hv : Vld l) : chS (sN l) = 0 := by
  unfold chS
  rw [if_pos ⟨by rw [sN_length]; exact hv.pos, by rw [sN_length]; exact hv.le, vld_okS l 0 (fun s hs => by have := hv.at' s hs; omega) hv.up⟩]
theorem toN_sN (l : List (Nat × Nat)) : toN (sN l) = l := by
  unfold toN sN
  rw [List.map_map]
  conv => rhs; rw [← List.map_id l]
  exact List.map_congr_left fun s _ => rfl
theorem Vld.jn {l : List (Nat × Nat)} (hv : Vld l) : jnV (sN l) = ((valQ l 0 : Nat) : Int) := by rw [jnV, if_pos hv.ch, toN_sN]
theorem Vld.sub {z x : List (Nat × Nat)} (hv : Vld x) (hz : z.Sublist x) (hp : 1 ≤ z.length) : Vld z where
  le := Nat.le_trans hz.length_le hv.le
  pos := hp
  at' s hs := hv.at' s (hz.subset hs)
  up := hv.up.sublist hz
theorem ftV_iff {l : List (Nat × Nat)} {n : Nat} : ftV l n = true ↔ ∀ s ∈ l.drop n, valQ (l.take n) s.1 = s.2 := by
  unfold ftV
  rw [Bool.not_eq_true', List.any_eq_false]
  constructor
  · intro h s hs
    have h1 := h s hs
    rw [Bool.not_eq_true, Bool.not_eq_false', decide_eq_true_eq] at h1
    exact Int.ofNat.inj h1
  · intro h s hs
    rw [h s hs]; simp
theorem ftV_hor {l : List (Nat × Nat)} (hv : Vld l) {n : Nat} (hn : 1 ≤ n) (cs : List Nat) (hc : cs.length ≤ n) (hy : ∀ s ∈ l, s.2 = hor cs s.1) : ftV l n = true := ftV_iff.2 fun s hs => by
  have hle : n < l.length := by
    rcases Nat.lt_or_ge n l.length with h | h
    · exact h
    · rw [List.drop_eq_nil_of_le h] at hs; cases hs
  rw [valQ_hor (hv.take hn) cs (by rw [List.length_take]; omega) (fun t ht => hy t (List.mem_of_mem_take ht)) s.1]
  exact (hy s (List.mem_of_mem_drop hs)).symm
theorem fit_all {x : List (Nat × Nat)} (hv : Vld x) {n : Nat} (hn : 1 ≤ n) (hf : ftV x n = true) : ∀ s ∈ x, Qi ∣ lag wQ (sN (x.take n)) s.1 - s.2 := by
  intro s hs
  have hv1 := hv.take hn
  rw [← List.take_append_drop n x] at hs
  rcases List.mem_append.1 hs with h | h
  · exact lagP_at prmQ wQ wQ_inv (sN (x.take n)) [] (fun b hb => by cases hb) hv1.sep ((s.1 : Int), (s.2 : Int)) (List.mem_map.2 ⟨s, h, rfl⟩)
  · have h2 := valQ_lag (x.take n) s.1 hv1.plq
    rw [ftV_iff.1 hf s h] at h2
    have h3 := Int.dvd_neg.2 h2
    rwa [Int.neg_sub] at h3
/-- what fits, and has enough of a polynomial, is all of it -/
theorem fit_hor {x : List (Nat × Nat)} (hv : Vld x) {n : Nat} (hn : 1 ≤ n) (hf : ftV x n = true) (cs : List Nat) (hc : cs.length ≤ n) (z : List (Nat × Nat)) (hz : z.Sublist x) (hzl : n ≤ z.length) (hy : ∀ s ∈ z, s.2 = hor cs s.1) : ∀ s ∈ x, s.2 = hor cs s.1 := by
  intro s hs
  have hp := hv.at' s hs
  have hall := fit_all hv hn hf
  have hD : ∀ t, ev (addp (lagP wQ [] (sN (x.take n))) (scp (-1) (ni cs))) t = lag wQ (sN (x.take n)) t - ev (ni cs) t := fun t => by rw [ev_addp, ev_scp, lag]; grind
  have h2 := roots prmQ ((sN z).map (·.1)) (addp (lagP wQ [] (sN (x.take n))) (scp (-1) (ni cs))) (by
    have h3 := lagP_length wQ (sN (x.take n)) []
    rw [sN_length, List.length_take] at h3
    rw [addp_length, scp_length, List.length_map, ni_length, sN_length]
    simp only [List.length_nil, Nat.zero_add] at h3
    omega) (List.pairwise_map.2 (hv.sep.sublist (hz.map _))) (fun r hr => by
    obtain ⟨t, ht, rfl⟩ := List.mem_map.1 hr
    obtain ⟨u, hu, rfl⟩ := List.mem_map.1 ht
    rw [hD]
    have h4 := hall u (hz.subset hu)
    have h5 := hor_ev u.1 cs
    rw [← hy u hu] at h5
    obtain ⟨k4, h4⟩ := h4
    obtain ⟨k5, h5⟩ := h5
    show Qi ∣ lag wQ (sN (x.take n)) (u.1 : Int) - ev (ni cs) (u.1 : Int)
    exact ⟨k4 + k5, by
      generalize lag wQ (sN (x.take n)) (u.1 : Int) = A at *
      generalize ev (ni cs) (u.1 : Int) = E at *
      generalize (u.2 : Int) = Y at *
      generalize Qi = q at *
      grind⟩) (s.1 : Int)
  rw [hD] at h2
  refine eq_of_dvd hp.2.2 (hor_lt _ _) ?_
  obtain ⟨k1, h1⟩ := hall s hs
  obtain ⟨k2, h2⟩ := h2
  obtain ⟨k3, h3⟩ := hor_ev s.1 cs
  exact ⟨k2 - k1 - k3, by
    generalize lag wQ (sN (x.take n)) (s.1 : Int) = A at *
    generalize ev (ni cs) (s.1 : Int) = E at *
    generalize (s.2 : Int) = Y at *
    generalize ((hor cs s.1 : Nat) : Int) = H at *
    generalize Qi = q at *
    grind⟩
theorem mulQa (a b : Nat) : a % 2305843009213688669 * b % 2305843009213688669 = a * b % 2305843009213688669 := by rw [Nat.mul_mod, Nat.mod_mod, ← Nat.mul_mod]
theorem mulQb (a b : Nat) : a * (b % 2305843009213688669) % 2305843009213688669 = a * b % 2305843009213688669 := by rw [Nat.mul_mod, Nat.mod_mod, ← Nat.mul_mod]
/-- a value that depends on the last share -/
theorem pl_snoc (L : List (Nat × Nat)) (A y : Nat) : pl (L ++ [(A, y)]) = pl L ++ [A] := by unfold pl; rw [List.map_append]; rfl
theorem accQ_last (L : List (Nat × Nat)) (A y y' x : Nat) : ∀ i, i ≤ L.length → accQ (L ++ [(A, y)]) x i = accQ (L ++ [(A, y')]) x i
  | 0, _ => rfl
  | i + 1, h => by
    have e : ∀ y, ((L ++ [(A, y)]).getD i (0, 0)) = L.getD i (0, 0) := fun y => by
      rw [List.getD_eq_getElem?_getD, List.getElem?_append_left (by omega), ← List.getD_eq_getElem?_getD]
    rw [accQ, accQ, accQ_last L A y y' x i (by omega), pl_snoc, pl_snoc, e, e]
theorem Vld.last {L : List (Nat × Nat)} {A y0 : Nat} (hv : Vld (L ++ [(A, y0)])) {y : Nat} (hy : y < 2305843009213688669) : Vld (L ++ [(A, y)]) where
  le := by have := hv.le; simpa using this
  pos := by simp
  at' s hs := by
    rcases List.mem_append.1 hs with h | h
    · exact hv.at' s (List.mem_append_left _ h)
    · rw [List.mem_singleton.1 h]
      have := hv.at' (A, y0) (List.mem_append_right _ (.head _))
      exact ⟨this.1, this.2.1, hy⟩
  up := by
    have h := hv.up
    rw [List.pairwise_append] at h ⊢
    refine ⟨h.1, List.pairwise_singleton _ _, fun s hs t ht => ?_⟩
    rw [List.mem_singleton.1 ht]
    exact h.2.2 s hs (A, y0) (.head _)
theorem hide_aff {L : List (Nat × Nat)} {A y0 : Nat} (hv : Vld (L ++ [(A, y0)])) : ∃ c b, c < 2305843009213688669 ∧ 0 < b ∧ b < 2305843009213688669 ∧ ∀ y, valQ (L ++ [(A, y)]) 0 = (c + b * y % 2305843009213688669) % 2305843009213688669 := by
  have e1 : (pl L ++ [A]).getD L.length 0 = A := by
    rw [List.getD_eq_getElem?_getD, List.getElem?_append_right (by rw [pl_length]; exact Nat.le_refl _), pl_length, Nat.sub_self]; rfl
  have hup := hv.up_pos L.length (by rw [pl_length, List.length_append]; exact Nat.lt_succ_self _)
  rw [pl_snoc, e1] at hup
  have hup0 : 0 < upQ ((pl L ++ [A]).eraseIdx L.length) 0 := upQ_pos _ _ fun b hb => by
    have h1 := List.mem_of_mem_eraseIdx hb
    rw [← pl_snoc L A y0] at h1
    obtain ⟨s, hs, rfl⟩ := List.mem_map.1 h1
    have := hv.at' s hs
    exact subQ_pos (by decide) this.2.1 (by omega)
  have hq : 0 < qq (upQ ((pl L ++ [A]).eraseIdx L.length) A) 2305843009213688667 := by
    rcases Nat.eq_zero_or_pos (qq (upQ ((pl L ++ [A]).eraseIdx L.length) A) 2305843009213688667) with h1 | h1
    · have := qq_inv hup (upQ_lt _ _)
      rw [h1, Nat.mul_zero] at this
      exact absurd this (by decide)
    · exact h1
  refine ⟨accQ (L ++ [(A, 0)]) 0 L.length, basQ ((pl L ++ [A]).eraseIdx L.length) A 0, accQ_lt _ _ _, mul_pos hup0 (upQ_lt _ _) hq (qq_lt _ _), basQ_lt _ _ _, fun y => ?_⟩
  have e2 : ((L ++ [(A, y)]).getD L.length (0, 0)) = (A, y) := by
    rw [List.getD_eq_getElem?_getD, List.getElem?_append_right (Nat.le_refl _), Nat.sub_self]; rfl
  rw [valQ, List.length_append, List.length_singleton, accQ, accQ_last L A y 0 0 L.length (Nat.le_refl _), pl_snoc, e1, e2]
theorem hide_nat {c b : Nat} (hc : c < 2305843009213688669) (hb0 : 0 < b) (hb : b < 2305843009213688669) {s : Nat} (hs : s < 2305843009213688669) (o : Nat) (ho : o < 2305843009213688669) :
    ((c + b * 1 % 2305843009213688669) % 2305843009213688669 + (2305843009213688669 - (c + b * 0 % 2305843009213688669) % 2305843009213688669)) % 2305843009213688669 = b ∧
    (c + b * ((s + (2305843009213688669 - (c + b * 0 % 2305843009213688669) % 2305843009213688669)) % 2305843009213688669 * qq b 2305843009213688667 % 2305843009213688669) % 2305843009213688669) % 2305843009213688669 = s ∧
    ((c + b * o % 2305843009213688669) % 2305843009213688669 = s ↔ o = (s + (2305843009213688669 - (c + b * 0 % 2305843009213688669) % 2305843009213688669)) % 2305843009213688669 * qq b 2305843009213688667 % 2305843009213688669) := by
  have hi := qq_inv hb0 hb
  generalize qq b 2305843009213688667 = v at hi ⊢
  have e0 : (c + b * 0 % 2305843009213688669) % 2305843009213688669 = c := by rw [Nat.mul_zero, Nat.zero_mod, Nat.add_zero, Nat.mod_eq_of_lt hc]
  rw [e0]
  refine ⟨by omega, ?_, ?_⟩
  · rw [mulQb, show b * ((s + (2305843009213688669 - c)) % 2305843009213688669 * v) = b * v * ((s + (2305843009213688669 - c)) % 2305843009213688669) by ac_rfl, ← mulQa, hi]
    omega
  · constructor
    · intro h
      have h2 : b * o % 2305843009213688669 = (s + (2305843009213688669 - c)) % 2305843009213688669 := by
        have := Nat.mod_lt (b * o) (show 2305843009213688669 > 0 by decide)
        generalize b * o % 2305843009213688669 = z at *
        omega
      rw [← h2, mulQa, show b * o * v = b * v * o by ac_rfl, ← mulQa, hi, Nat.one_mul, Nat.mod_eq_of_lt ho]
    · rintro rfl
      rw [mulQb, show b * ((s + (2305843009213688669 - c)) % 2305843009213688669 * v) = b * v * ((s + (2305843009213688669 - c)) % 2305843009213688669) by ac_rfl, ← mulQa, hi]
      omega
/-- sums of shares -/
def smS (a b : List (Nat × Nat)) : List (Nat × Nat) := List.zipWith (fun s t => (s.1, (s.2 + t.2) % 2305843009213688669)) a b
theorem pl_len {a b : List (Nat × Nat)} (h : pl a = pl b) : a.length = b.length := by rw [← pl_length a, h, pl_length]
theorem smS_length {a b : List (Nat × Nat)} (h : pl a = pl b) : (smS a b).length = a.length := by
  unfold smS; rw [List.length_zipWith, pl_len h, Nat.min_self]
theorem smS_cons (s t : Nat × Nat) (a b : List (Nat × Nat)) : smS (s :: a) (t :: b) = (s.1, (s.2 + t.2) % 2305843009213688669) :: smS a b := rfl
theorem smS_pl : ∀ {a b : List (Nat × Nat)}, pl a = pl b → pl (smS a b) = pl a
  | [], _, _ => rfl
  | s :: a, [], h => by cases h
  | s :: a, t :: b, h => by
    have h1 : pl a = pl b := (List.cons.inj h).2
    rw [smS_cons]
    show s.1 :: pl (smS a b) = s.1 :: pl a
    rw [smS_pl h1]
theorem smS_at {a b : List (Nat × Nat)} (h : pl a = pl b) (i : Nat) (hi : i < a.length) : (smS a b).getD i (0, 0) = ((a.getD i (0, 0)).1, ((a.getD i (0, 0)).2 + (b.getD i (0, 0)).2) % 2305843009213688669) := by
  have hb : i < b.length := by rw [← pl_len h]; exact hi
  have hs : i < (smS a b).length := by rw [smS_length h]; exact hi
  rw [List.getD_eq_getElem?_getD, List.getD_eq_getElem?_getD, List.getD_eq_getElem?_getD, List.getElem?_eq_getElem hi, List.getElem?_eq_getElem hb, List.getElem?_eq_getElem hs]
  simp only [smS, List.getElem_zipWith, Option.getD_some]
theorem Vld.sum {a b : List (Nat × Nat)} (ha : Vld a) (h : pl a = pl b) : Vld (smS a b) where
  le := by rw [smS_length h]; exact ha.le
  pos := by rw [smS_length h]; exact ha.pos
  at' s hs := by
    obtain ⟨i, hi, rfl⟩ := List.mem_iff_getElem.1 hs
    have hi' : i < a.length := by rw [← smS_length h]; exact hi
    have h1 := ha.at' a[i] (List.getElem_mem hi')
    simp only [smS, List.getElem_zipWith]
    exact ⟨h1.1, h1.2.1, Nat.mod_lt _ (by decide)⟩
  up := by
    have h1 : (pl (smS a b)).Pairwise (· < ·) := by rw [smS_pl h]; exact List.pairwise_map.2 ha.up
    exact List.pairwise_map.1 h1
theorem sum_step {A B v y z : Nat} : ((A + B) % 2305843009213688669 + v * ((y + z) % 2305843009213688669) % 2305843009213688669) % 2305843009213688669 = ((A + v * y % 2305843009213688669) % 2305843009213688669 + (B + v * z % 2305843009213688669) % 2305843009213688669) % 2305843009213688669 := by
  rw [mulQb, Nat.mul_add]
  generalize v * y = p
  generalize v * z = q
  omega
theorem accQ_sum {a b : List (Nat × Nat)} (h : pl a = pl b) (x : Nat) : ∀ i, i ≤ a.length → accQ (smS a b) x i = (accQ a x i + accQ b x i) % 2305843009213688669
  | 0, _ => rfl
  | i + 1, hi => by
    rw [accQ, accQ, accQ, accQ_sum h x i (by omega), smS_pl h, ← h, smS_at h i (by omega)]
    exact sum_step
theorem valQ_sum {a b : List (Nat × Nat)} (h : pl a = pl b) (x : Nat) : valQ (smS a b) x = (valQ a x + valQ b x) % 2305843009213688669 := by
  rw [valQ, smS_length h, accQ_sum h x _ (Nat.le_refl _), valQ, valQ, pl_len h]
theorem pl_take (a : List (Nat × Nat)) (n : Nat) : pl (a.take n) = (pl a).take n := by unfold pl; rw [List.map_take]
theorem pl_drop (a : List (Nat × Nat)) (n : Nat) : pl (a.drop n) = (pl a).drop n := by unfold pl; rw [List.map_drop]
theorem ftV_sum {a b : List (Nat × Nat)} (h : pl a = pl b) {n : Nat} (ha : ftV a n = true) (hb : ftV b n = true) : ftV (smS a b) n = true := ftV_iff.2 fun s hs => by
  have e1 : (smS a b).take n = smS (a.take n) (b.take n) := by unfold smS; rw [List.take_zipWith]
  have e2 : (smS a b).drop n = smS (a.drop n) (b.drop n) := by unfold smS; rw [List.drop_zipWith]
  have h1 : pl (a.take n) = pl (b.take n) := by rw [pl_take, pl_take, h]
  have h2 : pl (a.drop n) = pl (b.drop n) := by rw [pl_drop, pl_drop, h]
  rw [e2] at hs
  obtain ⟨i, hi, rfl⟩ := List.mem_iff_getElem.1 hs
  have hia : i < (a.drop n).length := by rw [← smS_length h2]; exact hi
  have hib : i < (b.drop n).length := by rw [← pl_len h2]; exact hia
  have h3 : (a.drop n)[i].1 = (b.drop n)[i].1 := by
    have h4 : (pl (a.drop n))[i]'(by rw [pl_length]; exact hia) = (pl (b.drop n))[i]'(by rw [pl_length]; exact hib) := by simp only [h2]
    simpa only [pl, List.getElem_map] using h4
  have h5 := ftV_iff.1 ha _ (List.getElem_mem hia)
  have h6 := ftV_iff.1 hb _ (List.getElem_mem hib)
  rw [← h3] at h6
  simp only [smS, List.getElem_zipWith]
  show valQ ((smS a b).take n) (a.drop n)[i].1 = _
  rw [e1, valQ_sum h1, h5, h6]
end Gf
