/- Plain arithmetic: the group of the units modulo a prime with a known primitive root. -/
namespace Num

def IsPrime (n : Nat) : Prop := 2 ≤ n ∧ ∀ d, d ∣ n → d = 1 ∨ d = n

theorem exists_prime : ∀ k : Nat, 2 ≤ k → ∃ q, IsPrime q ∧ q ∣ k := by
  intro k
  induction k using Nat.strongRecOn with
  | ind k ih =>
    intro hk
    by_cases h : ∀ d, d ∣ k → d = 1 ∨ d = k
    · exact ⟨k, ⟨hk, h⟩, Nat.dvd_refl k⟩
    · have h' : ∃ d, d ∣ k ∧ d ≠ 1 ∧ d ≠ k := by
        apply Classical.byContradiction
        intro hn
        apply h
        intro d hd
        apply Classical.byContradiction
        intro hc
        exact hn ⟨d, hd, fun e => hc (.inl e), fun e => hc (.inr e)⟩
      obtain ⟨d, hd, h1, h2⟩ := h'
      have hle := Nat.le_of_dvd (by omega) hd
      have hpos : d ≠ 0 := by rintro rfl; have := Nat.eq_zero_of_zero_dvd hd; omega
      obtain ⟨q, hq, hqd⟩ := ih d (by omega) (by omega)
      exact ⟨q, hq, Nat.dvd_trans hqd hd⟩

theorem IsPrime.dvd_mul {q a b : Nat} (hq : IsPrime q) (h : q ∣ a * b) : q ∣ a ∨ q ∣ b := by
  by_cases ha : q ∣ a
  · exact .inl ha
  · refine .inr ?_
    have hg : Nat.gcd q a = 1 := by
      rcases hq.2 _ (Nat.gcd_dvd_left q a) with h1 | h1
      · exact h1
      · exact absurd (h1 ▸ Nat.gcd_dvd_right q a) ha
    exact Nat.Coprime.dvd_of_dvd_mul_left hg h

theorem IsPrime.eq_of_dvd {q p : Nat} (hq : IsPrime q) (hp : IsPrime p) (h : q ∣ p) : q = p := by
  rcases hp.2 q h with h1 | h1
  · have := hq.1; omega
  · exact h1

/-- powers by squaring: for the kernel -/
def pwGo (m : Nat) : Nat → Nat → Nat → Nat → Nat
  | 0, _, _, c => c
  | f + 1, a, n, c => pwGo m f (a * a % m) (n / 2) (if n % 2 = 1 then c * a % m else c)
def pw (a n m : Nat) : Nat := pwGo m 64 (a % m) n (1 % m)

theorem pwGo_eq (m : Nat) : ∀ (f a n c : Nat), n < 2 ^ f → pwGo m f a n c % m = c * a ^ n % m := by
  intro f
  induction f with
  | zero => intro a n c h; have : n = 0 := by simpa using h
            subst this; simp [pwGo]
  | succ f ih =>
    intro a n c h
    rw [pwGo, ih _ _ _ (by rw [Nat.pow_succ] at h; omega)]
    have hn : n = 2 * (n / 2) + n % 2 := by omega
    have hs : (a * a % m) ^ (n / 2) % m = a ^ (2 * (n / 2)) % m := by
      rw [Nat.pow_mul, ← Nat.pow_mod, Nat.pow_two]
    split
    · rename_i h1
      rw [Nat.mul_mod, hs, Nat.mod_mod, ← Nat.mul_mod]
      conv => rhs; rw [hn, h1, Nat.pow_succ]
      rw [Nat.mul_assoc, Nat.mul_comm a]
    · rename_i h1
      rw [Nat.mul_mod, hs, ← Nat.mul_mod]
      conv => rhs; rw [hn]
      have : n % 2 = 0 := by omega
      rw [this]; simp

theorem pwGo_lt (m : Nat) (hm : 0 < m) : ∀ (f a n c : Nat), c < m → pwGo m f a n c < m := by
  intro f
  induction f with
  | zero => intro a n c h; exact h
  | succ f ih =>
    intro a n c h
    rw [pwGo]
    apply ih
    split
    · exact Nat.mod_lt _ hm
    · exact h

theorem pw_eq (a n m : Nat) (hm : 0 < m) (hn : n < 2 ^ 64) : a ^ n % m = pw a n m := by
  have h := pwGo_eq m 64 (a % m) n (1 % m) hn
  rw [Nat.mod_eq_of_lt (pwGo_lt m hm _ _ _ _ (Nat.mod_lt _ hm))] at h
  rw [pw, h, Nat.mul_mod, Nat.mod_mod, ← Nat.mul_mod, Nat.one_mul, ← Nat.pow_mod]

theorem pow_add_mod (g a b n : Nat) : g ^ (a + b) % n = (g ^ a % n) * (g ^ b % n) % n := by
  rw [Nat.pow_add, Nat.mul_mod]

theorem pow_mul_one {g o n : Nat} (h : g ^ o % n = 1 % n) (k : Nat) : g ^ (o * k) % n = 1 % n := by
  rw [Nat.pow_mul, Nat.pow_mod, h, ← Nat.pow_mod, Nat.one_pow]

/-- every exponent that gives 1 is a multiple of the least one -/
theorem order_dvd {g n o N : Nat} (ho : g ^ o % n = 1 % n) (hpos : 0 < o) (hmin : ∀ i, 0 < i → i < o → g ^ i % n ≠ 1 % n)
    (hN : g ^ N % n = 1 % n) : o ∣ N := by
  have h1 : N = o * (N / o) + N % o := (Nat.div_add_mod N o).symm
  have h2 : g ^ (N % o) % n = 1 % n := by
    rw [h1, Nat.pow_add, Nat.mul_mod, pow_mul_one ho, ← Nat.mul_mod, Nat.one_mul] at hN
    exact hN
  by_cases h0 : N % o = 0
  · exact Nat.dvd_of_mod_eq_zero h0
  · exact absurd h2 (hmin _ (by omega) (Nat.mod_lt _ hpos))

theorem exists_order {g n N : Nat} (hN : 0 < N) (h : g ^ N % n = 1 % n) :
    ∃ o, 0 < o ∧ g ^ o % n = 1 % n ∧ ∀ i, 0 < i → i < o → g ^ i % n ≠ 1 % n := by
  induction N using Nat.strongRecOn with
  | ind N ih =>
    by_cases hm : ∀ i, 0 < i → i < N → g ^ i % n ≠ 1 % n
    · exact ⟨N, hN, h, hm⟩
    · have : ∃ i, 0 < i ∧ i < N ∧ g ^ i % n = 1 % n := by
        apply Classical.byContradiction
        intro hc
        apply hm
        intro i h1 h2 h3
        exact hc ⟨i, h1, h2, h3⟩
      obtain ⟨i, h1, h2, h3⟩ := this
      exact ih i h2 h1 h3

/-- the order is N if no N/q gives 1, for the primes q that divide N -/
theorem order_full {g n N : Nat} (hN : 0 < N) (h : g ^ N % n = 1 % n)
    (hq : ∀ q, IsPrime q → q ∣ N → g ^ (N / q) % n ≠ 1 % n) : ∀ i, 0 < i → i < N → g ^ i % n ≠ 1 % n := by
  obtain ⟨o, ho, h1, hmin⟩ := exists_order hN h
  have hd := order_dvd h1 ho hmin h
  obtain ⟨k, rfl⟩ := hd
  by_cases hk : k = 1
  · subst hk; rw [Nat.mul_one]; exact hmin
  · have hk0 : k ≠ 0 := by rintro rfl; simp at hN
    obtain ⟨q, hqp, c, rfl⟩ := exists_prime k (by omega)
    have := hq q hqp ⟨o * c, by rw [Nat.mul_left_comm]⟩
    rw [show o * (q * c) / q = o * c by rw [Nat.mul_left_comm, Nat.mul_div_cancel_left _ (by have := hqp.1; omega)]] at this
    exact absurd (pow_mul_one h1 c) this

theorem pow_coprime {g n N : Nat} (hn : 2 ≤ n) (hN : 0 < N) (h : g ^ N % n = 1 % n) (i : Nat) : Nat.Coprime (g ^ i % n) n := by
  have hg : Nat.Coprime (g ^ i) n := by
    have h1 : Nat.Coprime (g ^ N) n := by
      unfold Nat.Coprime
      rw [Nat.gcd_comm, Nat.gcd_rec, h, Nat.mod_eq_of_lt (by omega)]
      exact Nat.gcd_one_left n
    have h2 : Nat.Coprime g n := by
      have h3 : g ∣ g ^ N := by
        obtain ⟨m, rfl⟩ : ∃ m, N = m + 1 := ⟨N - 1, by omega⟩
        exact ⟨g ^ m, by rw [Nat.pow_succ, Nat.mul_comm]⟩
      exact Nat.Coprime.coprime_dvd_left h3 h1
    exact Nat.Coprime.pow_left i h2
  unfold Nat.Coprime at *
  rw [← Nat.gcd_rec, Nat.gcd_comm]
  exact hg

theorem pow_inj {g n N : Nat} (h : g ^ N % n = 1 % n) (hmin : ∀ i, 0 < i → i < N → g ^ i % n ≠ 1 % n)
    {i j : Nat} (hi : i < N) (hj : j < N) (e : g ^ i % n = g ^ j % n) : i = j := by
  have key : ∀ i j : Nat, i < j → j < N → g ^ i % n = g ^ j % n → False := by
    intro i j hij hj e
    have e1 : g ^ (j - i + (N - j) + i) % n = 1 % n := by rw [show j - i + (N - j) + i = N by omega]; exact h
    have e2 : g ^ (i + (N - j)) % n = 1 % n := by
      rw [Nat.pow_add, Nat.mul_mod, e, ← Nat.mul_mod, ← Nat.pow_add, show j + (N - j) = N by omega]; exact h
    exact hmin (i + (N - j)) (by omega) (by omega) e2
  rcases Nat.lt_trichotomy i j with h1 | h1 | h1
  · exact (key i j h1 hj e).elim
  · exact h1
  · exact (key j i h1 hi e.symm).elim

/-- pigeonhole: a list of different numbers below n, of length n - 1 without 0, has all of them -/
theorem pigeon (n : Nat) : ∀ (l : List Nat), l.Nodup → (∀ x ∈ l, x < n) → l.length ≤ n := by
  induction n with
  | zero =>
    intro l _ hx
    cases l with
    | nil => simp
    | cons a l => exact absurd (hx a (by simp)) (by omega)
  | succ n ih =>
    intro l hl hx
    have h1 : (l.filter (· != n)).length ≤ n := ih _ (hl.sublist List.filter_sublist) (by
      intro x hxm
      rw [List.mem_filter] at hxm
      have := hx x hxm.1
      have h2 : x ≠ n := by simpa using hxm.2
      omega)
    have h2 : (l.filter (· == n)).length ≤ 1 := by
      have := List.nodup_iff_count.1 hl n
      rw [List.count_eq_length_filter] at this
      exact this
    have h3 : ∀ (l : List Nat), l.length = (l.filter (· == n)).length + (l.filter (· != n)).length := by
      intro l
      induction l with
      | nil => rfl
      | cons a l ih =>
        by_cases h : a = n
        · subst h; simp; omega
        · simp [h]; omega
    rw [h3 l]; omega

theorem surj {g n : Nat} (hn : 2 ≤ n) (h : g ^ (n - 1) % n = 1 % n) (hmin : ∀ i, 0 < i → i < n - 1 → g ^ i % n ≠ 1 % n)
    {a : Nat} (ha : 0 < a) (han : a < n) : ∃ i, i < n - 1 ∧ g ^ i % n = a := by
  apply Classical.byContradiction
  intro hc
  have hne : ∀ i, i < n - 1 → g ^ i % n ≠ a := fun i hi e => hc ⟨i, hi, e⟩
  let l := (List.range (n - 1)).map (fun i => g ^ i % n)
  have hnd : l.Nodup := by
    rw [List.nodup_iff_pairwise_ne, List.pairwise_map]
    refine List.Pairwise.imp_of_mem ?_ (List.nodup_range (n := n - 1))
    intro i j hi hj hij e
    rw [List.mem_range] at hi hj
    exact hij (pow_inj h hmin hi hj e)
  have hall : ∀ x ∈ a :: 0 :: l, x < n := by
    intro x hx
    simp only [List.mem_cons] at hx
    rcases hx with rfl | rfl | hx
    · exact han
    · omega
    · obtain ⟨i, _, rfl⟩ := List.mem_map.1 hx
      exact Nat.mod_lt _ (by omega)
  have hnd2 : (a :: 0 :: l).Nodup := by
    rw [List.nodup_cons, List.nodup_cons]
    refine ⟨?_, ?_, hnd⟩
    · intro hx
      rcases List.mem_cons.1 hx with rfl | hx
      · omega
      · obtain ⟨i, hi, e⟩ := List.mem_map.1 hx
        exact hne i (List.mem_range.1 hi) e
    · intro hx
      obtain ⟨i, hi, e⟩ := List.mem_map.1 hx
      have := pow_coprime hn (by omega) h i
      rw [e] at this
      unfold Nat.Coprime at this
      rw [Nat.gcd_zero_left] at this
      omega
  have := pigeon n _ hnd2 hall
  simp [l] at this
  omega

theorem prime_of_root {g n : Nat} (hn : 2 ≤ n) (h : g ^ (n - 1) % n = 1 % n) (hmin : ∀ i, 0 < i → i < n - 1 → g ^ i % n ≠ 1 % n) : IsPrime n := by
  refine ⟨hn, fun d hd => ?_⟩
  by_cases e : d = n
  · exact .inr e
  · have hle := Nat.le_of_dvd (by omega) hd
    have h0 : d ≠ 0 := by rintro rfl; have := Nat.eq_zero_of_zero_dvd hd; omega
    obtain ⟨i, _, hi⟩ := surj hn h hmin (a := d) (by omega) (by omega)
    have := pow_coprime hn (by omega) h i
    rw [hi] at this
    unfold Nat.Coprime at this
    rw [Nat.gcd_eq_left hd] at this
    exact .inl this

theorem fermat_of_root {g n : Nat} (hn : 2 ≤ n) (h : g ^ (n - 1) % n = 1 % n) (hmin : ∀ i, 0 < i → i < n - 1 → g ^ i % n ≠ 1 % n)
    {a : Nat} (ha : a % n ≠ 0) : a ^ (n - 1) % n = 1 := by
  obtain ⟨i, _, hi⟩ := surj hn h hmin (a := a % n) (by omega) (Nat.mod_lt _ (by omega))
  rw [Nat.pow_mod, ← hi, ← Nat.pow_mod, ← Nat.pow_mul, Nat.mul_comm, Nat.pow_mul, Nat.pow_mod, h, ← Nat.pow_mod, Nat.one_pow, Nat.mod_eq_of_lt (by omega)]

/-- a number without divisors below a bound whose square is greater is prime -/
def noDiv (n : Nat) : Nat → Nat → Bool
  | 0, _ => true
  | f + 1, d => n % d != 0 && noDiv n f (d + 1)

theorem noDiv_spec (n : Nat) : ∀ f d, noDiv n f d = true → ∀ x, d ≤ x → x < d + f → ¬ x ∣ n := by
  intro f
  induction f with
  | zero => intro d _ x h1 h2; omega
  | succ f ih =>
    intro d h x h1 h2
    rw [noDiv, Bool.and_eq_true] at h
    by_cases e : x = d
    · subst e
      intro hd
      have := Nat.mod_eq_zero_of_dvd hd
      simp [this] at h
    · exact ih (d + 1) h.2 x (by omega) (by omega)

theorem prime_of_noDiv {n f : Nat} (hn : 2 ≤ n) (h : noDiv n f 2 = true) (hf : n < (f + 2) * (f + 2)) : IsPrime n := by
  refine ⟨hn, fun d hd => ?_⟩
  obtain ⟨c, rfl⟩ := hd
  have hd0 : 0 < d := Nat.pos_of_ne_zero (by rintro rfl; simp at hn)
  have hc0 : 0 < c := Nat.pos_of_ne_zero (by rintro rfl; simp at hn)
  by_cases h1 : d = 1
  · exact .inl h1
  by_cases h2 : c = 1
  · subst h2; exact .inr (by omega)
  exfalso
  by_cases h3 : d < f + 2
  · exact noDiv_spec _ _ _ h d (by omega) (by omega) ⟨c, rfl⟩
  by_cases h4 : c < f + 2
  · exact noDiv_spec _ _ _ h c (by omega) (by omega) ⟨d, by rw [Nat.mul_comm]⟩
  have := Nat.mul_le_mul (Nat.le_of_not_lt h3) (Nat.le_of_not_lt h4)
  omega

theorem prime_2 : IsPrime 2 := prime_of_noDiv (f := 0) (by omega) (by decide) (by omega)
theorem prime_3 : IsPrime 3 := prime_of_noDiv (f := 0) (by omega) (by decide) (by omega)
theorem prime_73 : IsPrime 73 := prime_of_noDiv (f := 10) (by omega) (by decide +kernel) (by omega)
theorem prime_2311 : IsPrime 2311 := prime_of_noDiv (f := 50) (by omega) (by decide +kernel) (by omega)


theorem prime_11 : IsPrime 11 := prime_of_noDiv (f := 2) (by omega) (by decide) (by omega)
theorem prime_17 : IsPrime 17 := prime_of_noDiv (f := 3) (by omega) (by decide) (by omega)
theorem prime_7930907 : IsPrime 7930907 := prime_of_noDiv (f := 2900) (by omega) (by decide +kernel) (by omega)

theorem root_of_pw {g n N : Nat} (hn : 2 ≤ n) (hN : 0 < N) (hl : N < 2 ^ 64) (h : pw g N n = 1) (hq : ∀ q, IsPrime q → q ∣ N → pw g (N / q) n ≠ 1) :
    g ^ N % n = 1 % n ∧ ∀ i, 0 < i → i < N → g ^ i % n ≠ 1 % n := by
  have h1 : g ^ N % n = 1 % n := by rw [pw_eq _ _ _ (by omega) hl, h, Nat.mod_eq_of_lt (by omega)]
  refine ⟨h1, order_full hN h1 fun q hp hd => ?_⟩
  rw [pw_eq _ _ _ (by omega) (Nat.lt_of_le_of_lt (Nat.div_le_self _ _) hl), Nat.mod_eq_of_lt (a := 1) (by omega)]
  exact hq q hp hd

theorem prime_of_pw {g n : Nat} (hn : 2 ≤ n) (hl : n - 1 < 2 ^ 64) (h : pw g (n - 1) n = 1) (hq : ∀ q, IsPrime q → q ∣ n - 1 → pw g ((n - 1) / q) n ≠ 1) : IsPrime n :=
  have r := root_of_pw hn (by omega) hl h hq
  prime_of_root hn r.1 r.2

theorem prime_11864636873 : IsPrime 11864636873 := by
  refine prime_of_pw (g := 5) (by decide) (by decide) (by decide +kernel) ?_
  intro q hq hd
  have hd' : q ∣ 2 * (2 * (2 * (11 * (17 * 7930907)))) := hd
  have hc : q = 2 ∨ q = 11 ∨ q = 17 ∨ q = 7930907 := by
    have h2 : ∀ x, q ∣ 2 * x → q = 2 ∨ q ∣ x := fun x hx => (hq.dvd_mul hx).imp (hq.eq_of_dvd prime_2) id
    have h11 : ∀ x, q ∣ 11 * x → q = 11 ∨ q ∣ x := fun x hx => (hq.dvd_mul hx).imp (hq.eq_of_dvd prime_11) id
    have h17 : ∀ x, q ∣ 17 * x → q = 17 ∨ q ∣ x := fun x hx => (hq.dvd_mul hx).imp (hq.eq_of_dvd prime_17) id
    rcases h2 _ hd' with h1 | h1
    · exact .inl h1
    rcases h2 _ h1 with h1 | h1
    · exact .inl h1
    rcases h2 _ h1 with h1 | h1
    · exact .inl h1
    rcases h11 _ h1 with h1 | h1
    · exact .inr (.inl h1)
    rcases h17 _ h1 with h1 | h1
    · exact .inr (.inr (.inl h1))
    exact .inr (.inr (.inr (hq.eq_of_dvd prime_7930907 h1)))
  rcases hc with rfl | rfl | rfl | rfl <;> decide +kernel

theorem prime_1732236983459 : IsPrime 1732236983459 := by
  refine prime_of_pw (g := 2) (by decide) (by decide) (by decide +kernel) ?_
  intro q hq hd
  have hd' : q ∣ 2 * (73 * 11864636873) := hd
  have hc : q = 2 ∨ q = 73 ∨ q = 11864636873 := by
    have h2 : ∀ x, q ∣ 2 * x → q = 2 ∨ q ∣ x := fun x hx => (hq.dvd_mul hx).imp (hq.eq_of_dvd prime_2) id
    have h73 : ∀ x, q ∣ 73 * x → q = 73 ∨ q ∣ x := fun x hx => (hq.dvd_mul hx).imp (hq.eq_of_dvd prime_73) id
    rcases h2 _ hd' with h1 | h1
    · exact .inl h1
    rcases h73 _ h1 with h1 | h1
    · exact .inr (.inl h1)
    exact .inr (.inr (hq.eq_of_dvd prime_11864636873 h1))
  rcases hc with rfl | rfl | rfl <;> decide +kernel

theorem prime_249442125618097 : IsPrime 249442125618097 := by
  refine prime_of_pw (g := 5) (by decide) (by decide) (by decide +kernel) ?_
  intro q hq hd
  have hd' : q ∣ 2 * (2 * (2 * (2 * (3 * (3 * 1732236983459))))) := hd
  have hc : q = 2 ∨ q = 3 ∨ q = 1732236983459 := by
    have h2 : ∀ x, q ∣ 2 * x → q = 2 ∨ q ∣ x := fun x hx => (hq.dvd_mul hx).imp (hq.eq_of_dvd prime_2) id
    have h3 : ∀ x, q ∣ 3 * x → q = 3 ∨ q ∣ x := fun x hx => (hq.dvd_mul hx).imp (hq.eq_of_dvd prime_3) id
    rcases h2 _ hd' with h1 | h1
    · exact .inl h1
    rcases h2 _ h1 with h1 | h1
    · exact .inl h1
    rcases h2 _ h1 with h1 | h1
    · exact .inl h1
    rcases h2 _ h1 with h1 | h1
    · exact .inl h1
    rcases h3 _ h1 with h1 | h1
    · exact .inr (.inl h1)
    rcases h3 _ h1 with h1 | h1
    · exact .inr (.inl h1)
    exact .inr (.inr (hq.eq_of_dvd prime_1732236983459 h1))
  rcases hc with rfl | rfl | rfl <;> decide +kernel

/-- the order of the group -/
def Q : Nat := 2305843009213688669
/-- the modulus of the group -/
def P : Nat := 4611686018427377339

theorem root_Q : 2 ^ (Q - 1) % Q = 1 % Q ∧ ∀ i, 0 < i → i < Q - 1 → 2 ^ i % Q ≠ 1 % Q := by
  refine root_of_pw (by decide) (by decide) (by decide) (by decide +kernel) ?_
  intro q hq hd
  have hd' : q ∣ 2 * (2 * (2311 * 249442125618097)) := hd
  have hc : q = 2 ∨ q = 2311 ∨ q = 249442125618097 := by
    have h2 : ∀ x, q ∣ 2 * x → q = 2 ∨ q ∣ x := fun x hx => (hq.dvd_mul hx).imp (hq.eq_of_dvd prime_2) id
    have h2311 : ∀ x, q ∣ 2311 * x → q = 2311 ∨ q ∣ x := fun x hx => (hq.dvd_mul hx).imp (hq.eq_of_dvd prime_2311) id
    rcases h2 _ hd' with h1 | h1
    · exact .inl h1
    rcases h2 _ h1 with h1 | h1
    · exact .inl h1
    rcases h2311 _ h1 with h1 | h1
    · exact .inr (.inl h1)
    exact .inr (.inr (hq.eq_of_dvd prime_249442125618097 h1))
  rcases hc with rfl | rfl | rfl <;> decide +kernel

theorem prime_Q : IsPrime Q := prime_of_root (g := 2) (by decide) root_Q.1 root_Q.2

theorem fermat_Q {a : Nat} (ha : a % Q ≠ 0) : a ^ (Q - 1) % Q = 1 := fermat_of_root (by decide) root_Q.1 root_Q.2 ha

/-- Q is the order of 4 modulo P -/
theorem four : 4 ^ Q % P = 1 % P ∧ ∀ i, 0 < i → i < Q → 4 ^ i % P ≠ 1 % P := by
  refine root_of_pw (by decide) (by decide) (by decide) (by decide +kernel) ?_
  intro q hq hd
  have e := hq.eq_of_dvd prime_Q hd
  subst e
  decide +kernel

end Num
