/- Searching: plain facts on lists. -/
namespace Eng

/-- the first place where a list has what is asked for, or -1 -/
def fidx {α : Type} (p : α → Bool) (l : List α) : Int := match l.findIdx? p with | some i => (i : Int) | none => -1

theorem fidx_hit {α : Type} {p : α → Bool} {l : List α} {d : α} {k : Nat} (hk : k < l.length) (h : ∀ i, i < k → p (l.getD i d) = false) (hp : p (l.getD k d) = true) : fidx p l = (k : Int) := by
  have e : l.findIdx? p = some k := by
    rw [List.findIdx?_eq_some_iff_getElem]
    refine ⟨hk, ?_, ?_⟩
    · rw [List.getD_eq_getElem?_getD, List.getElem?_eq_getElem hk] at hp; exact hp
    · intro j hj
      have := h j hj
      rw [List.getD_eq_getElem?_getD, List.getElem?_eq_getElem (by omega)] at this
      simpa using this
  rw [fidx, e]

theorem fidx_none {α : Type} {p : α → Bool} {l : List α} {d : α} (h : ∀ i, i < l.length → p (l.getD i d) = false) : fidx p l = -1 := by
  have e : l.findIdx? p = none := by
    rw [List.findIdx?_eq_none_iff]
    intro x hx
    obtain ⟨i, hi, rfl⟩ := List.getElem_of_mem hx
    have := h i hi
    rw [List.getD_eq_getElem?_getD, List.getElem?_eq_getElem hi] at this
    exact this
  rw [fidx, e]

theorem fidx_any {α : Type} (p : α → Bool) (l : List α) : decide (0 ≤ fidx p l) = l.any p := by
  unfold fidx
  cases e : l.findIdx? p with
  | none =>
    rw [List.findIdx?_eq_none_iff] at e
    have : l.any p = false := by rw [List.any_eq_false]; intro x hx; rw [e x hx]; simp
    rw [this]; rfl
  | some i =>
    rw [List.findIdx?_eq_some_iff_getElem] at e
    obtain ⟨h1, h2, _⟩ := e
    have : l.any p = true := by rw [List.any_eq_true]; exact ⟨l[i], List.getElem_mem h1, h2⟩
    rw [this]; simp

theorem fidx_lt {α : Type} {p : α → Bool} {l : List α} : fidx p l < (l.length : Int) := by
  unfold fidx
  cases e : l.findIdx? p with
  | none => simp; omega
  | some i =>
    rw [List.findIdx?_eq_some_iff_getElem] at e
    obtain ⟨h1, _⟩ := e
    simpa using h1

theorem fidx_ge {α : Type} {p : α → Bool} {l : List α} : -1 ≤ fidx p l := by
  unfold fidx
  cases e : l.findIdx? p with
  | none => simp
  | some i => simp

theorem take_snoc {α : Type} (l : List α) (k : Nat) (d : α) (h : k < l.length) : l.take (k + 1) = l.take k ++ [l.getD k d] := by
  rw [List.take_succ_eq_append_getElem h, List.getD_eq_getElem?_getD, List.getElem?_eq_getElem h]; rfl


theorem set_fill {α : Type} (q : List α) (k L : Nat) (z x d : α) (hk : k < q.length) (hL : k < L) (hx : q.getD k d = x) : (q.take k ++ List.replicate (L - k) z).set k x = q.take (k + 1) ++ List.replicate (L - (k + 1)) z := by
  have e : (q.take k).length = k := by simp; omega
  rw [List.set_append_right _ _ (by omega), e, Nat.sub_self, show L - k = (L - (k + 1)) + 1 by omega, List.replicate_succ, List.set_cons_zero, take_snoc q k d hk, hx]
  simp
end Eng
