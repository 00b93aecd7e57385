/- Shares of secrets: what valid shares are; Join. -/
import Derived.Test.YtnmaegbobfngeaaDoorShF
namespace Gf
open Go Eng
theorem mul_pos {x y : Nat} (hx0 : 0 < x) (hx : x < 2305843009213688669) (hy0 : 0 < y) (hy : y < 2305843009213688669) : 0 < x * y % 2305843009213688669 := by
  have hq : Num.Q = 2305843009213688669 := Qeq
  have nd : ∀ {a : Nat}, 0 < a → a < 2305843009213688669 → ¬ Num.Q ∣ a := fun h0 h hd => by
    have := Nat.le_of_dvd h0 hd
    rw [hq] at this; omega
  rcases Nat.eq_zero_or_pos (x * y % 2305843009213688669) with h | h
  · have hd : Num.Q ∣ x * y := Nat.dvd_of_mod_eq_zero (by rw [hq]; exact h)
    rcases Num.prime_Q.dvd_mul hd with h1 | h1
    · exact absurd h1 (nd hx0 hx)
    · exact absurd h1 (nd hy0 hy)
  · exact h
theorem upQ_pos (a : Nat) : ∀ ot : List Nat, (∀ b ∈ ot, 0 < subQ a b) → 0 < upQ ot a := by
  refine rev_ind (fun _ => Nat.zero_lt_one) fun d b ih h => ?_
  rw [upQ_snoc]
  exact mul_pos (ih fun c hc => h c (List.mem_append_left _ hc)) (upQ_lt _ _) (h b (List.mem_append_right _ (.head _))) (subQ_lt _ _)
theorem subQ_pos {a b : Nat} (ha : a ≤ 64) (hb : b ≤ 64) (h : a ≠ b) : 0 < subQ a b := by unfold subQ; omega
/-- valid shares -/
structure Vld (l : List (Nat × Nat)) : Prop where
  le : l.length ≤ 64
  pos : 1 ≤ l.length
  at' : ∀ s ∈ l, 1 ≤ s.1 ∧ s.1 ≤ 64 ∧ s.2 < 2305843009213688669
  up : l.Pairwise fun s t => s.1 < t.1
def toN (l : List (Int × Int)) : List (Nat × Nat) := l.map fun s => (s.1.toNat, s.2.toNat)
theorem toN_length (l : List (Int × Int)) : (toN l).length = l.length := by unfold toN; exact List.length_map _
theorem okS_nat : ∀ (l : List (Int × Int)) (last : Int), 0 ≤ last → okS last l = true → sN (toN l) = l ∧ (∀ s ∈ toN l, last < s.1 ∧ s.1 ≤ 64 ∧ s.2 < 2305843009213688669) ∧ (toN l).Pairwise fun s t => s.1 < t.1
  | [], _, _, _ => ⟨rfl, fun s hs => by simp [toN] at hs, List.Pairwise.nil⟩
  | s :: l, last, h0, h => by
    rw [okS] at h
    simp only [Bool.and_eq_true, decide_eq_true_eq] at h
    obtain ⟨h1, h2, h3, h4⟩ := h
    obtain ⟨y, hy, hyq⟩ := sc_nat h3
    obtain ⟨i1, i2, i3⟩ := okS_nat l s.1 (by omega) h4
    have e1 : ((s.1.toNat : Nat) : Int) = s.1 := Int.toNat_of_nonneg (by omega)
    have e2 : ((s.2.toNat : Nat) : Int) = s.2 := Int.toNat_of_nonneg (by omega)
    refine ⟨?_, fun t ht => ?_, List.pairwise_cons.2 ⟨fun t ht => ?_, i3⟩⟩
    · unfold sN toN at i1 ⊢
      rw [List.map_cons, List.map_cons, i1]
      show (((s.1.toNat : Nat) : Int), ((s.2.toNat : Nat) : Int)) :: l = s :: l
      rw [e1, e2]
    · rcases List.mem_cons.1 ht with rfl | ht
      · exact ⟨by show last < ((s.1.toNat : Nat) : Int); omega, by show s.1.toNat ≤ 64; omega, by show s.2.toNat < _; omega⟩
      · have := i2 t ht; exact ⟨by omega, this.2⟩
    · have := (i2 t ht).1
      show s.1.toNat < t.1
      omega
theorem chS_vld {l : List (Int × Int)} (h : chS l = 0) : sN (toN l) = l ∧ Vld (toN l) := by
  unfold chS at h
  by_cases h1 : 1 ≤ l.length ∧ l.length ≤ 64 ∧ okS 0 l = true
  · obtain ⟨i1, i2, i3⟩ := okS_nat l 0 (Int.le_refl _) h1.2.2
    exact ⟨i1, by rw [toN_length]; exact h1.2.1, by rw [toN_length]; exact h1.1, fun s hs => ⟨by have := (i2 s hs).1; omega, (i2 s hs).2⟩, i3⟩
  · rw [if_neg h1] at h; cases h
theorem Vld.ps {l : List (Nat × Nat)} (h : Vld l) (i : Nat) : (pl l).getD i 0 ≤ 64 := by
  unfold pl
  rw [List.getD_eq_getElem?_getD, List.getElem?_map]
  rcases Nat.lt_or_ge i l.length with hi | hi
  · rw [List.getElem?_eq_getElem hi]; exact (h.at' _ (List.getElem_mem hi)).2.1
  · rw [List.getElem?_eq_none hi]; exact Nat.zero_le _
theorem Vld.ys {l : List (Nat × Nat)} (h : Vld l) (i : Nat) : (l.getD i (0, 0)).2 < 2305843009213688669 := by
  rw [List.getD_eq_getElem?_getD]
  rcases Nat.lt_or_ge i l.length with hi | hi
  · rw [List.getElem?_eq_getElem hi]; exact (h.at' _ (List.getElem_mem hi)).2.2
  · rw [List.getElem?_eq_none hi]; exact Nat.zero_lt_succ _
theorem Vld.ne {l : List (Nat × Nat)} (h : Vld l) {i k : Nat} (hi : i < l.length) (hk : k < l.length) (hne : k ≠ i) : (pl l).getD i 0 ≠ (pl l).getD k 0 := by
  have hp : (pl l).Pairwise (· < ·) := List.pairwise_map.2 h.up
  have hi' : i < (pl l).length := by rw [pl_length]; exact hi
  have hk' : k < (pl l).length := by rw [pl_length]; exact hk
  rw [List.getD_eq_getElem?_getD, List.getD_eq_getElem?_getD, List.getElem?_eq_getElem hi', List.getElem?_eq_getElem hk']
  show (pl l)[i] ≠ (pl l)[k]
  rcases Nat.lt_or_gt_of_ne hne with h1 | h1
  · have := List.pairwise_iff_getElem.1 hp k i hk' hi' h1; omega
  · have := List.pairwise_iff_getElem.1 hp i k hi' hk' h1; omega
theorem Vld.up_pos {l : List (Nat × Nat)} (h : Vld l) (i : Nat) (hi : i < (pl l).length) : 0 < upQ ((pl l).eraseIdx i) ((pl l).getD i 0) := by
  refine upQ_pos _ _ fun b hb => ?_
  obtain ⟨k, hk, hbk⟩ : ∃ k, k ≠ i ∧ (pl l)[k]? = some b := by
    obtain ⟨j, hj⟩ := List.mem_iff_getElem?.1 hb
    rw [List.getElem?_eraseIdx] at hj
    split at hj
    · exact ⟨j, by omega, hj⟩
    · exact ⟨j + 1, by omega, hj⟩
  have hkl : k < (pl l).length := (List.getElem?_eq_some_iff.1 hbk).1
  have e : (pl l).getD k 0 = b := by rw [List.getD_eq_getElem?_getD, hbk]; rfl
  rw [← e]
  rw [pl_length] at hi hkl
  exact subQ_pos (h.ps i) (h.ps k) (h.ne hi hkl hk)
/-- Join -/
noncomputable def jnV (l : List (Int × Int)) : Int := if chS l = 0 then ((valQ (toN l) 0 : Nat) : Int) else 0
end Gf
namespace Go.Proofs.YtnmaegbobfngeaaDoor
open Go Eng Gf
set_option maxRecDepth 100000
theorem s_valueV (w : World) (a : Option Addr) (c : Nat) (l : List (Nat × Nat)) (x : Nat) (hv : Vld l) (hr : Rd w a (shc (sN l))) (hx : x < 2305843009213688669) : Pure Tryd.prog 31 [.slice a l.length c, I x] w (I (valQ l x : Nat)) :=
  s_value_ok w a c l x hr (by have := hv.le; omega) hx (fun i => by have := hv.ps i; omega) hv.ys hv.up_pos
theorem r8_ValueV (w : World) (a : Option Addr) (c : Nat) (l : List (Nat × Nat)) (x : Nat) (hv : Vld l) (hr : Rd w a (shc (sN l))) (hx : x < 2305843009213688669) : Pure Tryd.prog 32 [.slice a l.length c, I x] w (I (valQ l x : Nat)) :=
  r8_Value_ok w a c l x hr (by have := hv.le; omega) hx (fun i => by have := hv.ps i; omega) hv.ys (fun i k hi hk hne => subQ_pos (hv.ps i) (hv.ps k) (hv.ne hi hk hne))
theorem s_Join_ok (w : World) (a : Option Addr) (c : Nat) (l : List (Int × Int)) (hr : Rd w a (shc l)) (hl : l.length < 1000000000000000000) : Pure Tryd.prog 19 [.slice a l.length c] w (.tuple #[I (jnV l), I (chS l)]) := by
  refine enter Tryd.func19 Tryd.ntmps19 ?_
  refine c_seq <| c_reg <| s_y y_as <| s_y y_as <| s_nil <| q_then <| c_seq <| c_seq <| c_reg <| s_y y_mv <| s_pure (fun w' hw => s_Check_ok w' a c l (hr.st hw) hl) <| s_y y_as <| s_nil <| q_then <| c_seq <| c_reg <| s_y y_mv <| ?_
  by_cases h : chS l = 0
  · obtain ⟨e, hv⟩ := chS_vld h
    rw [jnV, if_pos h, h]
    refine s_nf (y_neq (p := 0) (q := 0)) rfl <| s_nil <| q_then <| c_f <| c_skip <| q_then <| c_seq <| c_reg <| s_y y_mv <| s_pure (fun w' hw => by
      have h9 := s_valueV w' a c (toN l) 0 hv (by rw [e]; exact hr.st hw) (by decide)
      rw [toN_length] at h9
      exact h9) <| s_y y_as <| s_y y_as <| s_nil <| q_then <| c_ret <| ?_
    exact ret2 Tryd.results19 rv_t rv_t fun w' hw => ⟨rfl, hw⟩
  · rw [jnV, if_neg h]
    refine s_nt (y_neq (p := chS l) (q := 0)) h <| s_nil <| q_then <| c_t <| c_seq <| c_reg <| s_y y_mv <| s_y y_as <| s_y y_as <| s_nil <| q_then <| c_ret <| q_ret <| ?_
    exact ret2 Tryd.results19 rv_t rv_t fun w' hw => ⟨rfl, hw⟩
end Go.Proofs.YtnmaegbobfngeaaDoor
