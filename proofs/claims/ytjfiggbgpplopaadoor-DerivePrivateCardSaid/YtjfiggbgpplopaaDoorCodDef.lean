/- Values and their encodings as plain functions; no program in sight. -/
import Derived.Test.YtjfiggbgpplopaaDoorBorrow
import Derived.Test.YtjfiggbgpplopaaDoorFind
namespace Cod
open Go Eng

inductive V where
  | mk (k n : Int) (s : List UInt8) (l : List V)
def V.k : V → Int | .mk k _ _ _ => k
def V.n : V → Int | .mk _ n _ _ => n
def V.s : V → List UInt8 | .mk _ _ s _ => s
def V.l : V → List V | .mk _ _ _ l => l

mutual
/-- is it well-formed? -/
def V.ok : V → Bool
  | .mk k n s l => (k == 1 && (s == [] && l.length == 0)) || (k == 2 && (n == 0 && l.length == 0)) || (k == 3 && (n == 0 && s == []) && okL l)
def okL : List V → Bool
  | [] => true
  | x :: r => V.ok x && okL r
end
mutual
/-- the depth of lists -/
def V.dep : V → Nat
  | .mk k _ _ l => if k = 3 then depL l + 1 else 0
def depL : List V → Nat
  | [] => 0
  | x :: r => max (V.dep x) (depL r)
end
/-- a numeral -/
def num (u : Nat) : List UInt8 := if u < 128 then [UInt8.ofNat u] else UInt8.ofNat (u % 128 + 128) :: num (u / 128)
termination_by u
decreasing_by omega
/-- the unsigned form of an int -/
def uns (n : Int) : Nat := if 0 ≤ n then (2 * n).toNat else (2 * (-(n + 1)) + 1).toNat
mutual
def V.enc : V → List UInt8
  | .mk k n s l => if k = 1 then 1 :: num (uns n) else if k = 2 then 2 :: (num s.length ++ s) else 3 :: (num l.length ++ encL l)
def encL : List V → List UInt8
  | [] => []
  | x :: r => V.enc x ++ encL r
end
/-- Check, Encode -/
def V.chk (v : V) : Int := if v.ok = true then (if 16 < v.dep then 2 else 0) else 1
def V.encd (v : V) : List UInt8 := if v.chk = 0 then v.enc else []

theorem okL_all (l : List V) : okL l = l.all V.ok := by
  induction l with
  | nil => rfl
  | cons x r ih => simp [okL, ih]
theorem okL_take (l : List V) (k : Nat) (h : k < l.length) : okL (l.take (k + 1)) = (okL (l.take k) && (l[k]).ok) := by
  simp only [okL_all]
  rw [List.take_add_one, List.getElem?_eq_getElem h, List.all_append]
  simp
theorem okL_get {l : List V} (h : okL l = true) (k : Nat) (hk : k < l.length) : (l[k]).ok = true := by
  rw [okL_all, List.all_eq_true] at h
  exact h _ (List.getElem_mem hk)
theorem okL_not {l : List V} (k : Nat) (hk : k < l.length) (h : (l[k]).ok = false) : okL l = false := by
  rw [okL_all, List.all_eq_false]
  exact ⟨_, List.getElem_mem hk, by rw [h]; decide⟩
theorem depL_app (a b : List V) : depL (a ++ b) = max (depL a) (depL b) := by
  induction a with
  | nil => simp [depL]
  | cons x r ih => simp [depL, ih]
theorem depL_take (l : List V) (k : Nat) (h : k < l.length) : depL (l.take (k + 1)) = max (depL (l.take k)) (l[k]).dep := by
  rw [List.take_add_one, List.getElem?_eq_getElem h, depL_app]
  exact congrArg _ (Nat.max_zero _)
theorem encL_app (a b : List V) : encL (a ++ b) = encL a ++ encL b := by
  induction a with
  | nil => simp [encL]
  | cons x r ih => simp [encL, ih]
theorem encL_take (l : List V) (k : Nat) (h : k < l.length) : encL (l.take (k + 1)) = encL (l.take k) ++ (l[k]).enc := by
  rw [List.take_add_one, List.getElem?_eq_getElem h, encL_app]
  simp [encL]
theorem encL_le (l : List V) (k : Nat) : (encL (l.take k)).length ≤ (encL l).length := by
  have : encL l = encL (l.take k) ++ encL (l.drop k) := by rw [← encL_app, List.take_append_drop]
  rw [this, List.length_append]; omega
theorem encL_ge (l : List V) (k : Nat) (h : k < l.length) : (encL (l.take k)).length + (l[k]).enc.length ≤ (encL l).length := by
  have := encL_le l (k + 1)
  rw [encL_take l k h, List.length_append] at this
  exact this
theorem dep_le {l : List V} (k : Nat) (h : k < l.length) : (l[k]).dep ≤ depL l := by
  have : depL l = max (depL (l.take (k + 1))) (depL (l.drop (k + 1))) := by rw [← depL_app, List.take_append_drop]
  rw [this, depL_take l k h]; omega
theorem size_lt {k n : Int} {s : List UInt8} {l : List V} (i : Nat) (h : i < l.length) : sizeOf (l[i]) < sizeOf (V.mk k n s l) := by
  have := List.sizeOf_lt_of_mem (List.getElem_mem h)
  simp only [V.mk.sizeOf_spec]; omega
theorem V.ind {M : V → Prop} (h : ∀ k n s l, (∀ i (hi : i < l.length), M l[i]) → M (.mk k n s l)) (v : V) : M v := by
  have key : ∀ m, ∀ v : V, sizeOf v < m → M v := by
    intro m
    induction m with
    | zero => intro v hv; omega
    | succ m ih =>
      intro v hv
      obtain ⟨k, n, s, l⟩ := v
      exact h k n s l fun i hi => ih _ (by have := size_lt (k := k) (n := n) (s := s) i hi; omega)
  exact key _ v (Nat.lt_succ_self _)

/-- a value in memory -/
def Vv (w : World) : V → Value → Prop
  | .mk k n s l, val => ∃ a c cells, val = .agg #[I k, I n, .string (sb s), .slice a l.length c] ∧ R64 n ∧ (s.length < 1152921504606846976 ∧ l.length < 1152921504606846976) ∧ Rd w a cells ∧ cells.length = l.length * 4 ∧ ∀ (i : Fin l.length), Vv w l[i] (.agg ((cells.drop (i.val * 4)).take 4).toArray)
termination_by v => sizeOf v
decreasing_by exact size_lt _ i.isLt

theorem Vv.congr {w w' : World} (hw : ∀ a xs, Rd w a xs → Rd w' a xs) : ∀ (v : V) (val : Value), Vv w v val → Vv w' v val :=
  V.ind fun k n s l ih val h => by
    rw [Vv] at h ⊢
    obtain ⟨a, c, cells, h1, h2, h6, h3, h4, h5⟩ := h
    exact ⟨a, c, cells, h1, h2, h6, hw _ _ h3, h4, fun i => ih i.val i.isLt _ (h5 i)⟩
theorem Vv.st {W w : World} {l : SH} {v : V} {val : Value} (h : Vv W v val) (hs : St W [] w l) : Vv w v val := h.congr fun _ _ hr => hr.st hs
end Cod
