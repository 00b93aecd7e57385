/- Polynomials modulo a prime, as lists of coefficients; no program in sight. -/
namespace Poly
/-- what is needed of a prime -/
structure Prm (p : Int) : Prop where
  mul : ∀ a b : Int, p ∣ a * b → p ∣ a ∨ p ∣ b
  one : ¬ p ∣ 1
/-- the value at x -/
def ev : List Int → Int → Int
  | [], _ => 0
  | a :: c, x => a + x * ev c x
/-- the quotient by x - r -/
def qt : List Int → Int → List Int
  | [], _ => []
  | [_], _ => []
  | _ :: b :: c, r => ev (b :: c) r :: qt (b :: c) r
theorem qt_length : ∀ (c : List Int) (r : Int), (qt c r).length = c.length - 1
  | [], _ => rfl
  | [_], _ => rfl
  | _ :: b :: c, r => by rw [qt, List.length_cons, qt_length (b :: c) r]; simp
theorem ev_qt : ∀ (c : List Int) (r x : Int), ev c x = ev c r + (x - r) * ev (qt c r) x
  | [], r, x => by simp [ev, qt]
  | [a], r, x => by simp [ev, qt]
  | a :: b :: c, r, x => by
    have h := ev_qt (b :: c) r x
    rw [qt]
    show a + x * ev (b :: c) x = a + r * ev (b :: c) r + (x - r) * (ev (b :: c) r + x * ev (qt (b :: c) r) x)
    rw [h]
    grind
/-- a polynomial with as many roots as coefficients is zero everywhere -/
theorem roots {p : Int} (hp : Prm p) : ∀ (rs : List Int) (c : List Int), c.length ≤ rs.length → rs.Pairwise (fun a b => ¬ p ∣ b - a) → (∀ r ∈ rs, p ∣ ev c r) → ∀ x, p ∣ ev c x
  | [], c, hl, _, _, x => by
    obtain rfl : c = [] := List.length_eq_zero_iff.1 (Nat.le_zero.1 hl)
    exact ⟨0, by simp [ev]⟩
  | r :: rs, c, hl, hd, hr, x => by
    have h1 : ∀ y, p ∣ ev (qt c r) y := by
      refine roots hp rs (qt c r) (by rw [qt_length]; rw [List.length_cons] at hl; omega) (List.pairwise_cons.1 hd).2 fun s hs => ?_
      have h2 := ev_qt c r s
      have h3 : p ∣ (s - r) * ev (qt c r) s := by
        have h4 := Int.dvd_sub (hr s (.tail _ hs)) (hr r (.head _))
        have e : ev c s - ev c r = (s - r) * ev (qt c r) s := by rw [h2]; grind
        rwa [e] at h4
      exact (hp.mul _ _ h3).resolve_left ((List.pairwise_cons.1 hd).1 s hs)
    rw [ev_qt c r x]
    exact Int.dvd_add (hr r (.head _)) (Int.dvd_trans (h1 x) (Int.dvd_mul_left _ _))
/-- sum, multiple, product with x - a -/
def addp : List Int → List Int → List Int
  | [], d => d
  | c, [] => c
  | a :: c, b :: d => (a + b) :: addp c d
def scp (k : Int) (c : List Int) : List Int := c.map (k * ·)
def mlp (a : Int) (c : List Int) : List Int := addp (0 :: c) (scp (-a) c)
theorem ev_addp : ∀ (c d : List Int) (x : Int), ev (addp c d) x = ev c x + ev d x
  | [], d, x => by simp [addp, ev]
  | a :: c, [], x => by simp [addp, ev]
  | a :: c, b :: d, x => by
    rw [addp, ev, ev, ev, ev_addp c d x]; grind
theorem ev_scp (k : Int) : ∀ (c : List Int) (x : Int), ev (scp k c) x = k * ev c x
  | [], x => by simp [scp, ev]
  | a :: c, x => by
    have := ev_scp k c x
    simp only [scp, List.map_cons] at this ⊢
    rw [ev, ev, this]; grind
theorem ev_mlp (a : Int) (c : List Int) (x : Int) : ev (mlp a c) x = (x - a) * ev c x := by
  rw [mlp, ev_addp, ev_scp, ev]; grind
theorem addp_length : ∀ (c d : List Int), (addp c d).length = max c.length d.length
  | [], d => by simp [addp]
  | a :: c, [] => by simp [addp]
  | a :: c, b :: d => by rw [addp, List.length_cons, addp_length c d, List.length_cons, List.length_cons]; omega
theorem scp_length (k : Int) (c : List Int) : (scp k c).length = c.length := List.length_map _
theorem mlp_length (a : Int) (c : List Int) : (mlp a c).length = c.length + 1 := by rw [mlp, addp_length, scp_length, List.length_cons]; omega
/-- the product of all x - a -/
def prods : List Int → Int → Int
  | [], _ => 1
  | a :: as, x => (x - a) * prods as x
def prodP : List Int → List Int
  | [] => [1]
  | a :: as => mlp a (prodP as)
theorem ev_prodP : ∀ (as : List Int) (x : Int), ev (prodP as) x = prods as x
  | [], x => by simp [prodP, prods, ev]
  | a :: as, x => by rw [prodP, prods, ev_mlp, ev_prodP as x]
theorem prodP_length : ∀ as : List Int, (prodP as).length = as.length + 1
  | [] => rfl
  | a :: as => by rw [prodP, mlp_length, prodP_length as, List.length_cons]
theorem prods_zero : ∀ {as : List Int} {x : Int}, x ∈ as → prods as x = 0
  | a :: as, x, h => by
    rw [prods]
    rcases List.mem_cons.1 h with rfl | h
    · grind
    · rw [prods_zero h]; grind
theorem prods_ne {p : Int} (hp : Prm p) : ∀ {as : List Int} {x : Int}, (∀ a ∈ as, ¬ p ∣ x - a) → ¬ p ∣ prods as x
  | [], x, _ => hp.one
  | a :: as, x, h => fun hd => by
    rw [prods] at hd
    rcases hp.mul _ _ hd with h1 | h1
    · exact h a (.head _) h1
    · exact prods_ne hp (fun b hb => h b (.tail _ hb)) h1
/-- the interpolation: l with the places before, and what is left; w finds inverses -/
def lagP (w : Int → Int) (bef : List Int) : List (Int × Int) → List Int
  | [] => []
  | (a, y) :: l => addp (scp (y * w (prods (bef ++ l.map (·.1)) a)) (prodP (bef ++ l.map (·.1)))) (lagP w (bef ++ [a]) l)
def lag (w : Int → Int) (l : List (Int × Int)) (x : Int) : Int := ev (lagP w [] l) x
theorem lagP_length (w : Int → Int) : ∀ (l : List (Int × Int)) (bef : List Int), (lagP w bef l).length ≤ bef.length + l.length
  | [], bef => by simp [lagP]
  | (a, y) :: l, bef => by
    have h := lagP_length w l (bef ++ [a])
    rw [lagP, addp_length, scp_length, prodP_length]
    rw [List.length_append, List.length_singleton] at h
    rw [List.length_append, List.length_map, List.length_cons]
    omega
/-- at places before, nothing -/
theorem lagP_bef (w : Int → Int) : ∀ (l : List (Int × Int)) (bef : List Int) (x : Int), x ∈ bef → ev (lagP w bef l) x = 0
  | [], bef, x, _ => by simp [lagP, ev]
  | (a, y) :: l, bef, x, h => by
    rw [lagP, ev_addp, ev_scp, ev_prodP, prods_zero (List.mem_append_left _ h), lagP_bef w l _ x (List.mem_append_left _ h)]
    grind
theorem lagP_at {p : Int} (hp : Prm p) (w : Int → Int) (hw : ∀ d, ¬ p ∣ d → p ∣ d * w d - 1) : ∀ (l : List (Int × Int)) (bef : List Int), (∀ b ∈ bef, ∀ s ∈ l, ¬ p ∣ s.1 - b) → l.Pairwise (fun s t => ¬ p ∣ t.1 - s.1) → ∀ s ∈ l, p ∣ ev (lagP w bef l) s.1 - s.2
  | (a, y) :: l, bef, hb, hd, s, hs => by
    rw [lagP, ev_addp, ev_scp, ev_prodP]
    rcases List.mem_cons.1 hs with rfl | hs
    · rw [lagP_bef w l (bef ++ [a]) a (List.mem_append_right _ (.head _))]
      have h1 : ¬ p ∣ prods (bef ++ l.map (·.1)) a := prods_ne hp fun b hbm => by
        rcases List.mem_append.1 hbm with h | h
        · exact hb b h (a, y) (.head _)
        · obtain ⟨t, ht, rfl⟩ := List.mem_map.1 h
          intro h2
          have h3 := (List.pairwise_cons.1 hd).1 t ht
          exact h3 (by have := Int.dvd_neg.2 h2; rwa [Int.neg_sub] at this)
      obtain ⟨k, hk⟩ := hw _ h1
      exact ⟨y * k, by show y * w _ * prods _ a + 0 - y = p * (y * k); grind⟩
    · rw [prods_zero (List.mem_append_right _ (List.mem_map.2 ⟨s, hs, rfl⟩))]
      have h2 := lagP_at hp w hw l (bef ++ [a]) (fun b hbm t ht => by
        rcases List.mem_append.1 hbm with h | h
        · exact hb b h t (.tail _ ht)
        · rw [List.mem_singleton.1 h]; exact (List.pairwise_cons.1 hd).1 t ht) (List.pairwise_cons.1 hd).2 s hs
      rw [Int.mul_zero, Int.zero_add]
      exact h2
/-- the interpolation finds every polynomial with at most so many coefficients -/
theorem lag_of {p : Int} (hp : Prm p) (w : Int → Int) (hw : ∀ d, ¬ p ∣ d → p ∣ d * w d - 1) (l : List (Int × Int)) (hd : l.Pairwise (fun s t => ¬ p ∣ t.1 - s.1)) (c : List Int) (hc : c.length ≤ l.length) (hl : ∀ s ∈ l, p ∣ ev c s.1 - s.2) (x : Int) : p ∣ lag w l x - ev c x := by
  have h1 : ∀ x, ev (addp (lagP w [] l) (scp (-1) c)) x = lag w l x - ev c x := fun x => by rw [ev_addp, ev_scp, lag]; grind
  have h2 := roots hp (l.map (·.1)) (addp (lagP w [] l) (scp (-1) c)) (by
    have := lagP_length w l []
    rw [addp_length, scp_length, List.length_map]
    simp only [List.length_nil, Nat.zero_add] at this
    omega) (List.pairwise_map.2 hd) (fun r hr => by
    obtain ⟨s, hs, rfl⟩ := List.mem_map.1 hr
    rw [h1]
    have h3 := lagP_at hp w hw l [] (fun b hb => by cases hb) hd s hs
    have h4 := Int.dvd_sub h3 (hl s hs)
    have e : lag w l s.1 - ev c s.1 = ev (lagP w [] l) s.1 - s.2 - (ev c s.1 - s.2) := by rw [lag]; grind
    rw [e]; exact h4)
  rw [← h1]
  exact h2 x
end Poly
