/- Reading values, as plain functions; no program in sight. -/
import Derived.Test.YtjfiggbgpplopaaDoorCodX
namespace Cod
open Go Eng
/-- a numeral read: from the i-th byte on, with what has been read -/
def rdNum : Nat → Nat → List UInt8 → Option (Nat × List UInt8)
  | _, _, [] => none
  | i, u, c :: q => if (i = 0 ∨ c.toNat ≠ 0) ∧ (i < 9 ∨ c.toNat ≤ 1) then (if c.toNat < 128 then some (u + c.toNat * 2 ^ (7 * i), q) else rdNum (i + 1) (u + (c.toNat - 128) * 2 ^ (7 * i)) q) else none
def rdLen (q : List UInt8) : Option (Nat × List UInt8) :=
  match rdNum 0 0 q with
  | some (n, q') => if n ≤ q'.length then some (n, q') else none
  | none => none
/-- the int with an unsigned form -/
def sgn (u : Nat) : Int := if u % 2 = 0 then ((u / 2 : Nat) : Int) else -((u / 2 : Nat) : Int) - 1
def rdL (g : List UInt8 → Option (V × List UInt8)) : Nat → List UInt8 → Option (List V × List UInt8)
  | 0, q => some ([], q)
  | n + 1, q => match g q with
    | none => none
    | some (v, q') => match rdL g n q' with
      | none => none
      | some (l, q'') => some (v :: l, q'')
def rdVal : Nat → List UInt8 → Option (V × List UInt8)
  | _, [] => none
  | 0, c :: q => if c.toNat = 1 then (match rdNum 0 0 q with | some (u, q') => some (V.mk 1 (sgn u) [] [], q') | none => none)
      else if c.toNat = 2 then (match rdLen q with | some (n, q') => some (V.mk 2 0 (q'.take n) [], q'.drop n) | none => none)
      else none
  | f + 1, c :: q => if c.toNat = 1 then (match rdNum 0 0 q with | some (u, q') => some (V.mk 1 (sgn u) [] [], q') | none => none)
      else if c.toNat = 2 then (match rdLen q with | some (n, q') => some (V.mk 2 0 (q'.take n) [], q'.drop n) | none => none)
      else if c.toNat = 3 then (match rdLen q with | some (n, q') => (match rdL (rdVal f) n q' with | some (l, q'') => some (V.mk 3 0 [] l, q'') | none => none) | none => none)
      else none
theorem sgn_uns (n : Int) : sgn (uns n) = n := by
  unfold sgn uns
  split <;> split <;> omega
theorem pw7 (i : Nat) : 2 ^ (7 * (i + 1)) = 128 * 2 ^ (7 * i) := by rw [Nat.mul_add, Nat.pow_add, Nat.mul_comm]
theorem rdNum_num (q : List UInt8) : ∀ (x i u : Nat), x < 2 ^ (64 - 7 * i) → i ≤ 9 → (i = 0 ∨ 0 < x) → rdNum i u (num x ++ q) = some (u + x * 2 ^ (7 * i), q) := by
  intro x
  induction x using Nat.strongRecOn with
  | ind x ih =>
    intro i u hx hi h0
    rw [num]
    by_cases h : x < 128
    · rw [if_pos h]
      have e : (UInt8.ofNat x).toNat = x := by rw [UInt8.toNat_ofNat']; omega
      show rdNum i u (UInt8.ofNat x :: q) = _
      have h9 : i < 9 ∨ x ≤ 1 := by
        rcases Nat.lt_or_ge i 9 with h | h
        · exact .inl h
        · have : i = 9 := by omega
          subst this
          have : x < 2 := hx
          exact .inr (by omega)
      have h8 : i = 0 ∨ x ≠ 0 := by omega
      rw [rdNum, e, if_pos ⟨h8, h9⟩, if_pos h]
    · rw [if_neg h]
      have e : (UInt8.ofNat (x % 128 + 128)).toNat = x % 128 + 128 := by rw [UInt8.toNat_ofNat']; omega
      show rdNum i u (UInt8.ofNat (x % 128 + 128) :: (num (x / 128) ++ q)) = _
      have h9 : i < 9 := by
        rcases Nat.lt_or_ge i 9 with h' | h'
        · exact h'
        · have : i = 9 := by omega
          subst this
          have : x < 2 := hx
          omega
      rw [rdNum, e, if_pos ⟨by omega, .inl h9⟩, if_neg (by omega), Nat.add_sub_cancel, ih (x / 128) (by omega) (i + 1) _ ?_ (by omega) (by omega), pw7]
      · congr 2
        have : x = x % 128 + 128 * (x / 128) := (Nat.mod_add_div x 128).symm
        calc u + x % 128 * 2 ^ (7 * i) + x / 128 * (128 * 2 ^ (7 * i)) = u + (x % 128 + 128 * (x / 128)) * 2 ^ (7 * i) := by rw [Nat.add_mul, Nat.add_assoc, ← Nat.mul_assoc, Nat.mul_comm (x / 128) 128]
          _ = u + x * 2 ^ (7 * i) := by rw [← this]
      · have h5 : 2 ^ (64 - 7 * i) = 128 * 2 ^ (64 - 7 * (i + 1)) := by
          rw [show 64 - 7 * i = 7 + (64 - 7 * (i + 1)) by omega, Nat.pow_add]
        rw [h5] at hx
        exact Nat.div_lt_of_lt_mul hx
theorem rdNum_enc {x : Nat} (h : x < 18446744073709551616) (q : List UInt8) : rdNum 0 0 (num x ++ q) = some (x, q) := by
  have := rdNum_num q x 0 0 h (by decide) (.inl rfl)
  simpa using this
theorem rdLen_enc {x : Nat} (h : x < 18446744073709551616) {q : List UInt8} (hq : x ≤ q.length) : rdLen (num x ++ q) = some (x, q) := by
  rw [rdLen, rdNum_enc h]; exact if_pos hq
theorem enc_pos (v : V) : 0 < v.enc.length := by
  obtain ⟨k, n, s, l⟩ := v
  rw [V.enc]; split
  · simp
  · split <;> simp
theorem encL_long (l : List V) : l.length ≤ (encL l).length := by
  induction l with
  | nil => simp
  | cons x r ih => rw [encL, List.length_append, List.length_cons]; have := enc_pos x; omega
/-- what was written is read -/
theorem rdVal_enc (w : World) (v : V) : ∀ (val : Value) (f : Nat) (q : List UInt8), Vv w v val → v.ok = true → v.dep ≤ f → rdVal f (v.enc ++ q) = some (v, q) := by
  induction v using V.ind with
  | h k n s l ih =>
    intro val f q hv hok hd
    rw [Vv] at hv
    obtain ⟨a, c, cells, h1, h2, ⟨h6, h7⟩, h3, h4, h5⟩ := hv
    rw [V.ok] at hok
    simp only [Bool.or_eq_true, Bool.and_eq_true, beq_iff_eq] at hok
    have hu : uns n < 18446744073709551616 := by unfold uns; unfold R64 at h2; split <;> omega
    rcases hok with (⟨rfl, rfl, hl⟩ | ⟨rfl, rfl, hl⟩) | ⟨⟨rfl, rfl, rfl⟩, hl⟩
    · obtain rfl : l = [] := List.length_eq_zero_iff.1 hl
      rw [V.enc, if_pos rfl]
      cases f with
      | zero => simp only [List.cons_append, rdVal]; rw [if_pos (by decide), rdNum_enc hu]; simp only [sgn_uns]
      | succ f => simp only [List.cons_append, rdVal]; rw [if_pos (by decide), rdNum_enc hu]; simp only [sgn_uns]
    · obtain rfl : l = [] := List.length_eq_zero_iff.1 hl
      rw [V.enc, if_neg (by decide), if_pos rfl]
      have e := rdLen_enc (x := s.length) (by omega) (q := s ++ q) (by rw [List.length_append]; omega)
      cases f with
      | zero => simp only [List.cons_append, List.append_assoc, rdVal]; rw [if_neg (by decide), if_pos (by decide), e]; simp
      | succ f => simp only [List.cons_append, List.append_assoc, rdVal]; rw [if_neg (by decide), if_pos (by decide), e]; simp
    · rw [V.enc, if_neg (by decide), if_neg (by decide)]
      rw [V.dep, if_pos rfl] at hd
      cases f with
      | zero => omega
      | succ f =>
        have e := rdLen_enc (x := l.length) (by omega) (q := encL l ++ q) (by rw [List.length_append]; have := encL_long l; omega)
        have key : ∀ (m : List V), (∀ x ∈ m, ∀ q, rdVal f (x.enc ++ q) = some (x, q)) → rdL (rdVal f) m.length (encL m ++ q) = some (m, q) := by
          intro m
          induction m with
          | nil => intro _; simp [rdL, encL]
          | cons x r ihm =>
            intro hm
            rw [List.length_cons, rdL, encL, List.append_assoc, hm x (.head _)]
            simp only []
            rw [ihm fun y hy => hm y (.tail _ hy)]
        have hk := key l fun x hx q => by
          obtain ⟨i, hi, rfl⟩ := List.getElem_of_mem hx
          exact ih i hi _ f q (h5 ⟨i, hi⟩) (okL_get hl i hi) (by have := dep_le i hi; omega)
        simp only [List.cons_append, List.append_assoc, rdVal]
        rw [if_neg (by decide), if_neg (by decide), if_pos (by decide), e]
        simp only [hk]
end Cod
