/- The laws on shares, for any arguments. -/
import Derived.Test.YtnmaegbobfngeaaDoorLawC08
import Derived.Test.YtnmaegbobfngeaaDoorLawD08
namespace Gf
open Go Eng Go.Proofs.YtnmaegbobfngeaaDoor
theorem spl_at (cs : List Nat) (m : Nat) {i : Nat} (h : i < m) : (spl cs m).getD i (0, 0) = (i + 1, hor cs (i + 1)) := by
  unfold spl
  rw [List.getD_eq_getElem?_getD, List.getElem?_map, List.getElem?_range h]; rfl
theorem spl_get (cs : List Nat) (m : Nat) {i : Nat} (h : i < (spl cs m).length) : (spl cs m)[i] = (i + 1, hor cs (i + 1)) := by
  have h2 := spl_at cs m (i := i) (by rw [spl_length] at h; exact h)
  rwa [List.getD_eq_getElem?_getD, List.getElem?_eq_getElem h] at h2
theorem shc_set : ∀ (L : List (Nat × Nat)) (i A y : Nat), (L.getD i (0, 0)).1 = A → i < L.length → (shc (sN L)).set (i * 2 + 1) (I (y : Int)) = shc (sN (L.set i (A, y)))
  | s :: L, 0, A, y, h, _ => by
    have h : s.1 = A := h
    subst h; rfl
  | s :: L, i + 1, A, y, h, hi => by
    have ih := shc_set L i A y h (Nat.lt_of_succ_lt_succ hi)
    show (I (s.1 : Int) :: I (s.2 : Int) :: shc (sN L)).set ((i + 1) * 2 + 1) (I (y : Int)) = I (s.1 : Int) :: I (s.2 : Int) :: shc (sN (L.set i (A, y)))
    rw [show (i + 1) * 2 + 1 = (i * 2 + 1) + 1 + 1 by omega, List.set_cons_succ, List.set_cons_succ, ih]
/-- a share is changed -/
theorem ftV_set {cs : List Nat} {m i y n : Nat} (hc : cs.length = n + 1) (h : n + 1 < m) (h64 : m ≤ 64) (hi : i < m) (hy : y < 2305843009213688669) :
    Vld ((spl cs m).set i (i + 1, y)) ∧ ftV ((spl cs m).set i (i + 1, y)) (n + 1) = decide (y = hor cs (i + 1)) := by
  have hv := spl_vld cs (m := m) (by omega) h64
  have hl := spl_length cs m
  have hil : i < (spl cs m).length := by omega
  have hpl : pl ((spl cs m).set i (i + 1, y)) = pl (spl cs m) := by
    unfold pl
    rw [List.map_set]
    have e : ((spl cs m).map (·.1))[i]'(by rw [List.length_map]; exact hil) = i + 1 := by rw [List.getElem_map, spl_get]
    conv => lhs; arg 3; rw [← e]
    exact List.set_getElem_self _
  have hv2 : Vld ((spl cs m).set i (i + 1, y)) := {
    le := by rw [List.length_set]; exact hv.le
    pos := by rw [List.length_set]; exact hv.pos
    at' := fun s hs => by
      rcases List.mem_or_eq_of_mem_set hs with h1 | rfl
      · exact hv.at' s h1
      · exact ⟨by show 1 ≤ i + 1; omega, by show i + 1 ≤ 64; omega, hy⟩
    up := by
      have h1 : (pl ((spl cs m).set i (i + 1, y))).Pairwise (· < ·) := by rw [hpl]; exact List.pairwise_map.2 hv.up
      exact List.pairwise_map.1 h1 }
  refine ⟨hv2, ?_⟩
  by_cases he : y = hor cs (i + 1)
  · rw [decide_eq_true he]
    have e : (spl cs m).set i (i + 1, y) = spl cs m := by
      rw [he, ← spl_get cs m hil]
      exact List.set_getElem_self _
    rw [e]
    exact ftV_hor hv (by omega) cs (by rw [hc]; exact Nat.le_refl _) (spl_hor _ _)
  · rw [decide_eq_false he]
    cases hf : ftV ((spl cs m).set i (i + 1, y)) (n + 1) with
    | false => rfl
    | true =>
      have h1 := fit_hor hv2 (by omega) hf cs (by rw [hc]; exact Nat.le_refl _) (((spl cs m).set i (i + 1, y)).eraseIdx i) (List.eraseIdx_sublist _ _) (by rw [List.length_eraseIdx_of_lt (by rw [List.length_set]; exact hil), List.length_set]; omega) (fun s hs => by
        rw [List.eraseIdx_set_eq] at hs
        exact spl_hor cs m s (List.mem_of_mem_eraseIdx hs)) (i + 1, y) (List.mem_set hil _)
      exact absurd h1 he
theorem vld_snoc {p : List (Int × Int)} {a : Int} (h : chS (p ++ [(a, 0)]) = 0) : ∃ (L : List (Nat × Nat)) (A : Nat), p = sN L ∧ a = (A : Int) ∧ Vld (L ++ [(A, 0)]) := by
  obtain ⟨e, hv⟩ := chS_vld h
  have e2 : toN (p ++ [(a, 0)]) = toN p ++ [(a.toNat, 0)] := by unfold toN; rw [List.map_append]; rfl
  rw [e2] at e hv
  have e3 : sN (toN p) ++ [((a.toNat : Int), 0)] = p ++ [(a, 0)] := by rw [← e, sN_append']; rfl
  obtain ⟨h1, h2⟩ := List.append_inj' e3 rfl
  refine ⟨toN p, a.toNat, h1.symm, ?_, hv⟩
  have := (List.cons.inj h2).1
  exact (Prod.mk.inj this).1.symm
end Gf
namespace Go.Proofs.YtnmaegbobfngeaaDoor
open Go Eng Gf Cod Sha
set_option maxRecDepth 100000
theorem law_ShamirFitsSpec_ok (w : World) (a b : Option Addr) (c c' : Nat) (p q : List (Int × Int)) (n : Int) (hg : LS w) (hr : Rd w a (shc p)) (hr' : Rd w b (shc q)) (hc : p.length ≤ c) :
    Pure Tryd.prog 3 [.slice a p.length c, .slice b q.length c', I n] w (.bool true) := by
  cases hf : fewS p.length with
  | false => exact law_FitsSpec_no1 w a b c c' p q n hg hr hr' hf
  | true =>
    cases hf' : fewS q.length with
    | false => exact law_FitsSpec_no2 w a b c c' p q n hg hr hr' hf hf'
    | true =>
      have hl : p.length < 1000000000000000000 := by have := few_le hf; omega
      have hl' : q.length < 1000000000000000000 := by have := few_le hf'; omega
      cases hfb : ftB p n with
      | true => exact law_FitsSpec_true w a b c c' p q n hg hr hr' hf hf' hc hl hl' (smL_lt p q) hfb
      | false => exact law_FitsSpec_false w a b c c' p q n hg hr hr' hf hf' hc hl hl' (smL_lt p q) hfb
theorem law_ShamirSums_ok (w : World) (a b : Option Addr) (c c' : Nat) (p q : List (Int × Int)) (n : Int) (hg : LS w) (hr : Rd w a (shc p)) (hr' : Rd w b (shc q)) (hc : p.length ≤ c) (hc' : q.length ≤ c') :
    Pure Tryd.prog 7 [.slice a p.length c, .slice b q.length c', I n] w (.bool true) := by
  cases hf : fewS p.length with
  | false => exact law_Sums_no1 w a b c c' p q n hg hr hr' hf
  | true =>
    cases hf' : fewS q.length with
    | false => exact law_Sums_no2 w a b c c' p q n hg hr hr' hf hf'
    | true =>
      have hl : p.length < 1000000000000000000 := by have := few_le hf; omega
      have hl' : q.length < 1000000000000000000 := by have := few_le hf'; omega
      by_cases hne : smE p q = 0
      · have hp0 : chS p = 0 := by
          rcases Decidable.em (chS p = 0) with h | h
          · exact h
          · rw [(smE_a h).1] at hne; exact hne
        have hq0 : chS q = 0 := by
          rcases Decidable.em (chS q = 0) with h | h
          · exact h
          · rw [(smE_b hp0 h).1] at hne; exact hne
        have hm : p.map (·.1) = q.map (·.1) := by
          rcases Decidable.em (p.map (·.1) = q.map (·.1)) with h | h
          · exact h
          · rw [(smE_c hp0 hq0 h).1] at hne; exact absurd hne (by decide)
        obtain ⟨eA, hvA⟩ := chS_vld hp0
        obtain ⟨eB, hvB⟩ := chS_vld hq0
        obtain ⟨A, hA⟩ : ∃ A, toN p = A := ⟨_, rfl⟩
        obtain ⟨B, hB⟩ : ∃ B, toN q = B := ⟨_, rfl⟩
        rw [hA] at eA hvA
        rw [hB] at eB hvB
        subst eA eB
        rw [sN_length] at hf hf' hc hc' ⊢
        rw [sN_length]
        have hpl := pl_of_map hm
        by_cases hn : 1 ≤ n ∧ n ≤ 64
        · obtain ⟨k, rfl⟩ : ∃ k : Nat, n = (k : Int) := ⟨n.toNat, by omega⟩
          have h1 : 1 ≤ k := by omega
          have h2 : k ≤ 64 := by omega
          cases hx : ftV A k with
          | false =>
            cases hy : ftV B k with
            | false =>
              cases hz : ftV (smS A B) k with
              | false => exact law_Sums_fff w a b c c' A B k hg hr hr' hf hf' hc hc' hvA hvB hpl h1 h2 hx hy hz
              | true => exact law_Sums_fft w a b c c' A B k hg hr hr' hf hf' hc hc' hvA hvB hpl h1 h2 hx hy hz
            | true =>
              cases hz : ftV (smS A B) k with
              | false => exact law_Sums_ftf w a b c c' A B k hg hr hr' hf hf' hc hc' hvA hvB hpl h1 h2 hx hy hz
              | true => exact law_Sums_ftt w a b c c' A B k hg hr hr' hf hf' hc hc' hvA hvB hpl h1 h2 hx hy hz
          | true =>
            cases hy : ftV B k with
            | false =>
              cases hz : ftV (smS A B) k with
              | false => exact law_Sums_tff w a b c c' A B k hg hr hr' hf hf' hc hc' hvA hvB hpl h1 h2 hx hy hz
              | true => exact law_Sums_tft w a b c c' A B k hg hr hr' hf hf' hc hc' hvA hvB hpl h1 h2 hx hy hz
            | true => exact law_Sums_ttt w a b c c' A B k hg hr hr' hf hf' hc hc' hvA hvB hpl h1 h2 hx hy (ftV_sum hpl hx hy)
        · exact law_Sums_out w a b c c' A B n hg hr hr' hf hf' hc hc' hvA hvB hpl hn
      · exact law_Sums_no3 w a b c c' p q n hg hr hr' hf hf' hl hl' hne
/-- what is split, or is not -/
theorem split_cases (a n m : Int) (h0 : ¬ (12 < m ∧ m ≤ 64)) (h : ¬ (sc a = false ∨ n < 1 ∨ m < n ∨ 64 < m)) : ∃ x k j : Nat, a = (x : Int) ∧ n = ((k + 1 : Nat) : Int) ∧ m = (j : Int) ∧ x < 2305843009213688669 ∧ k + 1 ≤ j ∧ j ≤ 12 := by
  have hs : sc a = true := by
    cases hs : sc a with
    | true => rfl
    | false => exact absurd (.inl hs) h
  obtain ⟨x, rfl, hx⟩ := sc_nat hs
  have h1 : ¬ n < 1 := fun h1 => h (.inr (.inl h1))
  have h2 : ¬ m < n := fun h1 => h (.inr (.inr (.inl h1)))
  have h3 : ¬ 64 < m := fun h1 => h (.inr (.inr (.inr h1)))
  exact ⟨x, (n - 1).toNat, m.toNat, rfl, by omega, by omega, hx, by omega, by omega⟩
theorem law_ShamirRestores_ok (w : World) (a n m : Int) (k : List UInt8) (ta : Option Addr) (tc : Nat) (t : List Bool) (hg : LS w) (hk : k.length = 32) (hrt : Rd w ta (t.map Value.bool)) :
    Pure Tryd.prog 4 [I a, I n, I m, .agg (bs k).toArray, .slice ta t.length tc] w (.bool true) := by
  by_cases h0 : 12 < m ∧ m ≤ 64
  · exact law_Restores_skip w a n m k ta tc t hg hk h0.1 h0.2
  by_cases h : sc a = false ∨ n < 1 ∨ m < n ∨ 64 < m
  · exact law_Restores_no w a n m k ta tc t hg hk h0 h
  obtain ⟨x, i, j, rfl, rfl, rfl, hx, h1, h2⟩ := split_cases a n m h0 h
  rcases Nat.lt_or_ge (chN (spl (cof k x i) j) t).length (i + 1) with h3 | h3
  · exact law_Restores_few w x i j k _ ta tc t _ hg hk hx h1 h2 rfl hrt rfl h3
  · exact law_Restores_yes w x i j k _ ta tc t _ hg hk hx h1 h2 rfl hrt rfl h3
theorem law_Notices_yes (w : World) (x n m : Nat) (k : List UInt8) (cs : List Nat) (at' y : Nat) (hg : LS w) (hk : k.length = 32) (hx : x < 2305843009213688669) (hn : n + 1 < m) (hm : m ≤ 12) (hcs : cof k x n = cs) (hy : y < 2305843009213688669) (ha : at' < 18446744073709551616) : Pure Tryd.prog 6 [I x, I (n + 1 : Nat), I m, .agg (bs k).toArray, U at', I y] w (.bool true) := by
  obtain ⟨L, hL⟩ : ∃ L, spl cs m = L := ⟨_, rfl⟩
  have hlen : L.length = m := by rw [← hL]; exact spl_length _ _
  have hv : Vld L := by rw [← hL]; exact spl_vld _ (by omega) (by omega)
  obtain ⟨i, hi⟩ : ∃ i, at' % m = i := ⟨_, rfl⟩
  have him : i < m := by rw [← hi]; exact Nat.mod_lt _ (by omega)
  have hset := ftV_set (cs := cs) (m := m) (i := i) (y := y) (n := n) (by rw [← hcs]; exact cof_length _ _ _) hn (by omega) him hy
  have hat := spl_at cs m him
  rw [hL] at hset hat
  obtain ⟨hv2, hf2⟩ := hset
  have hcell := shc_set L i (i + 1) y (by rw [hat]) (by omega)
  have hj := shc_j L (i := i) (by omega) 1 _ rfl
  rw [hat] at hj
  obtain ⟨z, hz⟩ : ∃ z, hor cs (i + 1) = z := ⟨_, rfl⟩
  have hj : (shc (sN L))[i * 2 + 1]? = some (I (z : Int)) := by rw [← hz]; exact hj
  rw [hz] at hf2
  obtain ⟨L2, hL2⟩ : ∃ L2, L.set i (i + 1, y) = L2 := ⟨_, rfl⟩
  have hlen2 : L2.length = 0 + m := by rw [← hL2, List.length_set, hlen, Nat.zero_add]
  rw [hL2] at hv2 hf2 hcell
  have hsl : (shc (sN L)).length = m * 2 := shc_slen L hlen
  refine enter Tryd.func6 Tryd.ntmps6 ?_
  refine c_seq <| c_reg <| s_box rfl fun b9 => s_y y_as <| s_nil <| q_then <| c_seq <| c_seq <| c_reg <| s_pure (fun w' hw => sane08_ok w' (hg.st hw)) <| s_y (v := .bool false) (y_not (b := true)) <| s_nil <| q_then <| c_f <| c_skip <| q_then <| c_seq <| c_seq <| c_reg <| s_y y_mv <| s_kf (y_gtr (p := m) (q := 12)) (by omega) <| s_y y_mv <| s_no <| s_no <| s_y y_pk <| s_nil <| q_then <| c_f <| c_skip <| q_then <| c_seq <| c_reg <| s_y y_mv <| s_y y_mv <| s_y y_mv <| s_y (y_lda (b := b9) (cs := (bs k).toArray) (hl := (hz32 hk))) <| s_gives (fun w' hw => s_Split_yes w' x n m k hk (hg.st hw) hx (by omega) (by omega)) fun x32 _ => ?_
  rw [hcs, hL]
  refine s_y y_mv <| s_y y_ext <| s_y y_ext <| s_y y_as <| s_y y_as <| s_nil <| q_then <| c_seq <| c_seq <| c_reg <| s_y y_mv <| s_nf (y_neq (p := 0) (q := 0)) (by omega) <| s_y y_mv <| s_y y_mv <| s_y y_mv <| s_kf (y_leq (p := m) (q := ((n + 1 : Nat) : Int))) (by omega) <| s_y y_pk <| s_y y_mv <| s_y y_mv <| s_kf (y_lss (p := y) (q := 0)) (by omega) <| s_y y_pk <| s_y y_mv <| s_y y_mv <| s_kf (y_geq (p := y) (q := 2305843009213688669)) (by omega) <| s_y y_pk <| s_nil <| q_then <| c_f <| c_skip <| q_then <| ?_
  refine c_seq <| c_seq <| c_reg <| s_y y_mv <| s_y y_len <| s_y y_mv <| s_nf (y_neq (p := m) (q := m)) rfl <| s_y y_mv <| s_y y_mv <| s_kf (y_lss (p := m) (q := 1)) (by omega) <| s_y y_pk <| s_nil <| q_then <| c_f <| c_skip <| q_then <| ?_
  refine c_seq <| c_reg <| s_bsl0 fun b65 => s_y y_mv <| s_app (m := m) (fun w' hw => Src.slice (rdR (.tail _ (.head _)) w' hw) hsl) (h1 := shc_one _) (hm := .head _) (hrep := fun _ _ => .head _) fun a67 c67 h67 => ?_
  rw [List.nil_append]
  refine s_row (fun hk67 _ => ?_) (hm := .head _)
  refine s_y y_as <| s_nil <| q_then <| c_seq <| c_reg <| s_y y_mv <| s_y y_mv <| s_y (y_cvn (k := .u64) (p := ((m : Nat) : Int)) (hw := wrap_u64 (by omega) (by omega))) <| s_y (y_rem64 (p := at') (q := m)) <| ?_
  rw [hi]
  refine s_y (y_cvn (k := .i64) (p := ((i : Nat) : Int)) (hw := wrap_i64 (by unfold R64; omega))) <| s_y y_as <| s_nil <| q_then <| c_seq <| c_reg <| s_y y_mv <| s_y y_mv <| s_y y_mv <| s_y (y_ixs (xs := shc (sN L)) (i := ((i : Nat) : Int)) (hr := rdR (.head _)) (hl := by rw [hsl]; omega)) <| s_y y_far <| s_strS (i := i * 2 + 1) (hi := by rw [hsl]; omega) ?_
  rw [hcell]
  refine s_nil <| q_then <| c_seq <| c_reg <| s_y y_mv <| s_y y_mv <| s_pure (fun w' hw => (by have h9 := ftW w' a67 c67 (0 + m) L2 hv2 hlen2 (rdR (.head _) w' hw) hk67 (n + 1) (by omega) (by omega); rw [hf2] at h9; exact h9)) <| s_y y_mv <| s_y y_ext <| s_y y_ext <| s_y y_as <| s_y y_as <| s_nil <| q_then <| ?_
  refine c_seq <| c_reg <| s_y y_mv <| s_kt (y_eql (p := 0) (q := 0)) rfl <| s_y y_mv <| s_y y_mv <| s_y y_mv <| s_y y_mv <| s_y y_mv <| s_y (y_ixs (xs := shc (sN L)) (i := ((i : Nat) : Int)) (hr := rdR (.tail _ (.head _))) (hl := by rw [hsl]; omega)) <| s_y y_far <| s_y (y_ldr (i := i * 2 + 1) hj rfl (rdR (.tail _ (.head _)))) <| ?_
  by_cases he : y = z
  · rw [decide_eq_true he]
    refine s_kt (y_eql (p := y) (q := z)) (by omega) <| s_y (v := .bool true) (y_eqlb (a := true) (b := true)) <| s_y y_pk <| s_y y_as <| s_nil <| q_then <| c_ret <| ?_
    exact ret1 Tryd.results6 rv_t fun w' hw => ⟨rfl, hw.sub (List.nil_sublist _)⟩
  · rw [decide_eq_false he]
    refine s_kf (y_eql (p := y) (q := z)) (by omega) <| s_y (v := .bool true) (y_eqlb (a := false) (b := false)) <| s_y y_pk <| s_y y_as <| s_nil <| q_then <| c_ret <| ?_
    exact ret1 Tryd.results6 rv_t fun w' hw => ⟨rfl, hw.sub (List.nil_sublist _)⟩
theorem law_ShamirNotices_ok (w : World) (a n m : Int) (k : List UInt8) (at' : Nat) (y : Int) (hg : LS w) (hk : k.length = 32) (ha : at' < 18446744073709551616) :
    Pure Tryd.prog 6 [I a, I n, I m, .agg (bs k).toArray, U at', I y] w (.bool true) := by
  by_cases h0 : 12 < m ∧ m ≤ 64
  · exact law_Notices_skip w a n m k at' y hg hk h0.1 h0.2
  by_cases h : sc a = false ∨ n < 1 ∨ m < n ∨ 64 < m
  · exact law_Notices_no w a n m k at' y hg hk h0 h
  obtain ⟨x, i, j, rfl, rfl, rfl, hx, h1, h2⟩ := split_cases a n m h0 h
  by_cases h3 : j ≤ i + 1 ∨ y < 0 ∨ 2305843009213688669 ≤ y
  · exact law_Notices_out w x i j k _ at' y hg hk hx h1 h2 rfl h3
  · obtain ⟨z, rfl⟩ : ∃ z : Nat, y = (z : Int) := ⟨y.toNat, by omega⟩
    exact law_Notices_yes w x i j k _ at' z hg hk hx (by omega) h2 rfl (by omega) ha
theorem law_Values_yes (w : World) (x n m : Nat) (k : List UInt8) (hg : LS w) (hk : k.length = 32) (hx : x < 2305843009213688669) (hn : n + 1 ≤ m) (hm : m ≤ 12) : Pure Tryd.prog 8 [I x, I (n + 1 : Nat), I m, .agg (bs k).toArray] w (.bool true) := by
  obtain ⟨L, hL⟩ : ∃ L, spl (cof k x n) m = L := ⟨_, rfl⟩
  have hlen : L.length = m := by rw [← hL]; exact spl_length _ _
  have hsl : (shc (sN L)).length = m * 2 := shc_slen L hlen
  refine enter Tryd.func8 Tryd.ntmps8 ?_
  refine c_seq <| c_reg <| s_box rfl fun b7 => s_y y_as <| s_nil <| q_then <| c_seq <| c_seq <| c_reg <| s_pure (fun w' hw => sane08_ok w' (hg.st hw)) <| s_y (v := .bool false) (y_not (b := true)) <| s_nil <| q_then <| c_f <| c_skip <| q_then <| c_seq <| c_seq <| c_reg <| s_y y_mv <| s_kf (y_gtr (p := m) (q := 12)) (by omega) <| s_y y_mv <| s_no <| s_no <| s_y y_pk <| s_nil <| q_then <| c_f <| c_skip <| q_then <| c_seq <| c_reg <| s_y y_mv <| s_y y_mv <| s_y y_mv <| s_y (y_lda (b := b7) (cs := (bs k).toArray) (hl := (hz32 hk))) <| s_gives (fun w' hw => s_Split_yes w' x n m k hk (hg.st hw) hx hn (by omega)) fun x29 _ => ?_
  rw [hL]
  obtain ⟨la, lc⟩ := x29
  refine s_y y_mv <| s_y y_ext <| s_y y_ext <| s_y y_as <| s_y y_as <| s_nil <| q_then <| c_seq <| c_seq <| c_reg <| s_y y_mv <| s_nf (y_neq (p := 0) (q := 0)) (by omega) <| s_nil <| q_then <| c_f <| c_skip <| q_then <| ?_
  refine c_seq <| c_seq <| c_reg <| s_y y_mv <| s_y y_len <| s_y y_mv <| s_nf (y_neq (p := m) (q := m)) rfl <| s_y y_mv <| s_y y_mv <| s_y y_mv <| s_kf (y_gtr (p := ((n + 1 : Nat) : Int)) (q := m)) (by omega) <| s_y y_pk <| s_nil <| q_then <| c_f <| c_skip <| q_then <| ?_
  refine c_seq <| c_reg <| s_y y_mv <| s_bslr (cs := is (ni (cof k x 0))) fun b47 => s_y y_as <| s_nil <| q_then <| c_seq <| c_seq <| c_reg <| s_y y_as <| s_nil <| q_then <| c_block <| ?_
  refine c_loop3 (fun (j : Nat) (a' : Option Addr) (c' : Nat) => [(1, I (n + 1 : Nat)), (7, .pointer (some ⟨b7, 0, none⟩)), (9, .slice la m lc), (11, .slice a' (j + 1) c'), (12, I (j + 1 : Nat))]) (fun j a' c' => [.row a' c' 3 1 (j + 1) (is (ni (cof k x j))), .row la lc 42 2 m (shc (sN L)), .blk b7 (.cells (bs k).toArray 33 (0, 0))]) (fun j _ _ => j ≤ n) (fun j _ _ => n - j) 0 (some ⟨b47, 0, none⟩) 1 (Nat.zero_le _) ⟨rfl, rfl, rfl, rfl, rfl, trivial⟩ (.refl _) ?_
  intro j a' c' hj
  by_cases hjn : j < n
  · refine c_seq <| c_seq <| c_reg <| s_y y_mv <| s_y y_mv <| s_kt (y_lss (p := ((j + 1 : Nat) : Int)) (q := ((n + 1 : Nat) : Int))) (by omega) <| s_nil <| q_then <| c_t <| c_skip <| q_then <| c_seq <| c_block <| c_reg <| s_y y_mv <| s_y (y_lda (b := b7) (cs := (bs k).toArray) (hl := hz32 hk)) <| s_y y_mv <| s_bslr (cs := is [((j + 1 : Nat) : Int)]) fun b56 => s_pure (fun w' hw => derive_Expand_ok w' k lbShare (some ⟨b56, 0, none⟩) 1 [((j + 1 : Nat) : Int)] (hg.st hw) hk (rdR (.head _) w' hw) (by intro z hz; rw [List.mem_singleton.1 hz]; unfold R64; omega) (by decide) (by simp)) <| s_pure (fun w' hw => derive_Scalar_ok w' (expand k lbShare [((j + 1 : Nat) : Int)]) lbShare (hg.st hw) (expand_length _ _ _) (by decide)) <| s_bslr (cs := is (ni [dscal (expand k lbShare [((j + 1 : Nat) : Int)]) lbShare])) fun b59 => s_app (m := 1) (fun w' hw => Src.slice (rdR (.head _) w' hw) rfl) (h1 := fun v hv => by simp [is, ni] at hv; subst hv; rfl) (hm := .tail _ (.tail _ (.head _))) (hrep := fun _ _ => .tail _ (.tail _ (.head _))) fun a60 c60 h60 => ?_
    rw [← Eng.is_append, ← ni_append, ← cof_succ]
    refine s_y y_as <| s_nil <| q_nb <| q_then <| c_reg <| s_y y_mv <| s_y (y_add (p := ((j + 1 : Nat) : Int)) (q := 1)) <| s_y y_as <| s_nil <| ?_
    rw [show ((j + 1 : Nat) : Int) + 1 = ((j + 1 + 1 : Nat) : Int) by omega]
    exact q_round3 (x := j) (y := a') (z := c') (j + 1) a60 c60 hjn (by omega) ⟨rfl, rfl, rfl, rfl, rfl, trivial⟩ (.cons _ (.cons _ (.refl _)))
  obtain rfl : j = n := by omega
  refine c_seq <| c_seq <| c_reg <| s_y y_mv <| s_y y_mv <| s_kf (y_lss (p := ((j + 1 : Nat) : Int)) (q := ((j + 1 : Nat) : Int))) (by omega) <| s_nil <| q_then <| c_f <| c_exit <| q_ex <| q_ex <| q_exb <| q_then <| ?_
  refine c_seq <| c_seq <| c_reg <| s_y y_as <| s_nil <| q_then <| c_block <| ?_
  refine c_loop (fun (i : Nat) => [(9, .slice la m lc), (11, .slice a' (j + 1) c'), (13, I i)]) (fun i => [.row a' c' 3 1 (j + 1) (is (ni (cof k x j))), .row la lc 42 2 m (shc (sN L))]) (fun i => i ≤ m) (fun i => m - i) 0 (Nat.zero_le _) ⟨rfl, rfl, rfl, trivial⟩ (.cons_cons _ (.cons_cons _ (List.nil_sublist _))) ?_
  intro i hi
  by_cases him : i < m
  · have hcl := cof_length k x j
    have hat := spl_at (cof k x j) m him
    rw [hL] at hat
    have hjj := shc_j L (i := i) (by omega)
    rw [hat] at hjj
    have hj0 : (shc (sN L))[i * 2 + 0]? = some (I ((i + 1 : Nat) : Int)) := hjj 0 _ rfl
    have hj1 : (shc (sN L))[i * 2 + 1]? = some (I ((hor (cof k x j) (i + 1) : Nat) : Int)) := hjj 1 _ rfl
    refine c_seq <| c_seq <| c_reg <| s_y y_mv <| s_y y_mv <| s_y y_len <| s_kt (y_lss (p := ((i : Nat) : Int)) (q := ((m : Nat) : Int))) (by omega) <| s_nil <| q_then <| c_t <| c_skip <| q_then <| c_seq <| c_block <| c_seq <| c_reg <| s_y y_mv <| s_y y_mv <| s_y (y_add (p := ((i : Nat) : Int)) (q := 1)) <| ?_
    rw [show ((i : Nat) : Int) + 1 = ((i + 1 : Nat) : Int) by omega]
    refine s_pure (fun w' hw => by
      have h9 := f_Eval_yes w' a' c' (cof k x j) (i + 1) (rdR (.head _) w' hw) (by rw [hcl]; omega) (cof_lt k hx j) (by omega)
      rw [hcl] at h9
      exact h9) <| s_y y_mv <| s_y y_ext <| s_y y_ext <| s_y y_as <| s_y y_as <| s_nil <| q_then <| ?_
    refine c_seq <| c_reg <| s_y y_mv <| s_nf (y_neq (p := 0) (q := 0)) rfl <| s_y y_mv <| s_y y_mv <| s_y y_mv <| s_y (y_ixs (xs := shc (sN L)) (i := ((i : Nat) : Int)) (hr := rdR (.tail _ (.head _))) (hl := by rw [hsl]; omega)) <| s_y y_far <| s_y (y_ldr (i := i * 2 + 0) hj0 rfl (rdR (.tail _ (.head _)))) <| s_y y_mv <| s_y (y_add (p := ((i : Nat) : Int)) (q := 1)) <| ?_
    rw [show ((i : Nat) : Int) + 1 = ((i + 1 : Nat) : Int) by omega]
    refine s_nf (y_neq (p := ((i + 1 : Nat) : Int)) (q := ((i + 1 : Nat) : Int))) rfl <| s_y y_pk <| s_y y_mv <| s_y y_mv <| s_y y_mv <| s_y (y_ixs (xs := shc (sN L)) (i := ((i : Nat) : Int)) (hr := rdR (.tail _ (.head _))) (hl := by rw [hsl]; omega)) <| s_y y_far <| s_y (y_ldr (i := i * 2 + 1) hj1 rfl (rdR (.tail _ (.head _)))) <| s_y y_mv <| s_nf (y_neq (p := ((hor (cof k x j) (i + 1) : Nat) : Int)) (q := ((hor (cof k x j) (i + 1) : Nat) : Int))) rfl <| s_y y_pk <| s_nil <| q_then <| c_f <| c_skip <| q_nb <| q_then <| c_reg <| s_y y_mv <| s_y (y_add (p := ((i : Nat) : Int)) (q := 1)) <| s_y y_as <| s_nil <| ?_
    rw [show ((i : Nat) : Int) + 1 = ((i + 1 : Nat) : Int) by omega]
    exact q_round (i + 1) (by omega) (by omega) ⟨rfl, rfl, rfl, trivial⟩ (.refl _)
  · obtain rfl : i = m := by omega
    refine c_seq <| c_seq <| c_reg <| s_y y_mv <| s_y y_mv <| s_y y_len <| s_kf (y_lss (p := ((i : Nat) : Int)) (q := ((i : Nat) : Int))) (by omega) <| s_nil <| q_then <| c_f <| c_exit <| q_ex <| q_ex <| q_exb <| q_then <| c_seq <| c_reg <| s_y y_as <| s_nil <| q_then <| c_ret <| ?_
    exact ret1 Tryd.results8 rv_t fun w' hw => ⟨rfl, hw.sub (List.nil_sublist _)⟩
theorem law_ShamirValues_ok (w : World) (a n m : Int) (k : List UInt8) (hg : LS w) (hk : k.length = 32) :
    Pure Tryd.prog 8 [I a, I n, I m, .agg (bs k).toArray] w (.bool true) := by
  by_cases h0 : 12 < m ∧ m ≤ 64
  · exact law_Values_skip w a n m k hg hk h0.1 h0.2
  by_cases h : sc a = false ∨ n < 1 ∨ m < n ∨ 64 < m
  · exact law_Values_no w a n m k hg hk h0 h
  obtain ⟨x, i, j, rfl, rfl, rfl, hx, h1, h2⟩ := split_cases a n m h0 h
  exact law_Values_yes w x i j k hg hk hx h1 h2
theorem law_Hides_long (w : World) (a : Option Addr) (c : Nat) (p : List (Int × Int)) (A s o : Int) (hg : LS w) (h : 11 < p.length) : Pure Tryd.prog 5 [.slice a p.length c, I A, I s, I o] w (.bool true) := by
  refine enter Tryd.func5 Tryd.ntmps5 ?_
  refine c_seq <| c_reg <| s_y y_as <| s_nil <| q_then <| c_seq <| c_seq <| c_reg <| s_pure (fun w' hw => sane08_ok w' (hg.st hw)) <| s_y (v := .bool false) (y_not (b := true)) <| s_nil <| q_then <| c_f <| c_skip <| q_then <| c_seq <| c_seq <| c_reg <| s_y y_mv <| s_y y_len <| s_kt (y_gtr (p := p.length) (q := 11)) (by omega) <| s_y y_mv <| s_no <| s_no <| s_no <| s_no <| s_no <| s_no <| s_no <| s_no <| s_no <| s_y y_pk <| s_y y_mv <| s_no <| s_no <| s_y y_pk <| s_y y_mv <| s_no <| s_no <| s_y y_pk <| s_y y_mv <| s_no <| s_no <| s_y y_pk <| s_y y_mv <| s_no <| s_no <| s_y y_pk <| s_nil <| q_then <| c_t <| c_seq <| c_reg <| s_y y_as <| s_nil <| q_then <| c_ret <| q_ret <| ?_
  exact ret1 Tryd.results5 rv_t fun w' hw => ⟨rfl, hw.sub (List.nil_sublist _)⟩
theorem law_Hides_bad (w : World) (a : Option Addr) (c : Nat) (p : List (Int × Int)) (A s o : Int) (hg : LS w) (hr : Rd w a (shc p)) (hlen : p.length ≤ 11) (h : chS (p ++ [(A, 0)]) ≠ 0) : Pure Tryd.prog 5 [.slice a p.length c, I A, I s, I o] w (.bool true) := by
  refine enter Tryd.func5 Tryd.ntmps5 ?_
  refine c_seq <| c_reg <| s_y y_as <| s_nil <| q_then <| c_seq <| c_seq <| c_reg <| s_pure (fun w' hw => sane08_ok w' (hg.st hw)) <| s_y (v := .bool false) (y_not (b := true)) <| s_nil <| q_then <| c_f <| c_skip <| q_then <| c_seq <| c_seq <| c_reg <| s_y y_mv <| s_y y_len <| s_kf (y_gtr (p := p.length) (q := 11)) (by omega) <| s_y y_mv <| s_bsl0 fun b31 => s_y y_mv <| s_app (m := p.length) (fun w' hw => Src.slice (hr.st hw) (shc_length p)) (h1 := shc_one _) (hm := .head _) (hrep := fun _ _ => .head _) fun a33 c33 h33 => ?_
  rw [List.nil_append]
  refine s_y y_mv <| s_y (y_bshr (cs := [I A, I 0])) <| s_bslr (cs := shc [(A, 0)]) fun b36 => s_app (m := 1) (fun w' hw => Src.slice (rdR (.head _) w' hw) (shc_length [(A, 0)])) (h1 := shc_one _) (hm := .tail _ (.head _)) (hrep := fun _ _ => .tail _ (.head _)) fun a37 c37 h37 => ?_
  rw [← shc_append]
  refine s_pure (fun w' hw => (by
    have h9 := r8_Check_ok w' a37 c37 (p ++ [(A, 0)]) (rdR (.tail _ (.head _)) w' hw) (by rw [List.length_append, List.length_singleton]; omega)
    rw [show (p ++ [(A, (0 : Int))]).length = 0 + p.length + 1 by rw [List.length_append, List.length_singleton]; omega] at h9
    exact h9)) <| s_nt (y_neq (p := chS (p ++ [(A, 0)])) (q := 0)) h <| s_y y_pk <| s_y y_mv <| s_no <| s_no <| s_y y_pk <| s_y y_mv <| s_no <| s_no <| s_y y_pk <| s_y y_mv <| s_no <| s_no <| s_y y_pk <| s_y y_mv <| s_no <| s_no <| s_y y_pk <| s_nil <| q_then <| c_t <| c_seq <| c_reg <| s_y y_as <| s_nil <| q_then <| c_ret <| q_ret <| ?_
  exact ret1 Tryd.results5 rv_t fun w' hw => ⟨rfl, hw.sub (List.nil_sublist _)⟩
theorem law_ShamirHides_ok (w : World) (a : Option Addr) (c : Nat) (p : List (Int × Int)) (A s o : Int) (hg : LS w) (hr : Rd w a (shc p)) : Pure Tryd.prog 5 [.slice a p.length c, I A, I s, I o] w (.bool true) := by
  by_cases hlen : p.length ≤ 11
  · by_cases h : chS (p ++ [(A, 0)]) = 0
    · obtain ⟨L, N, rfl, rfl, hv⟩ := vld_snoc h
      rw [sN_length] at hlen ⊢
      by_cases h2 : s < 0 ∨ 2305843009213688669 ≤ s ∨ o < 0 ∨ 2305843009213688669 ≤ o
      · exact law_Hides_out w a c N L s o hg hr hlen hv h2
      · obtain ⟨s', rfl⟩ : ∃ z : Nat, s = (z : Int) := ⟨s.toNat, by omega⟩
        obtain ⟨o', rfl⟩ : ∃ z : Nat, o = (z : Int) := ⟨o.toNat, by omega⟩
        have hs : s' < 2305843009213688669 := by omega
        have ho : o' < 2305843009213688669 := by omega
        obtain ⟨c0, b, hc0, hb0, hb, hV⟩ := hide_aff hv
        obtain ⟨h5, h6, h7⟩ := hide_nat hc0 hb0 hb hs o' ho
        have hVq : ∀ y, (fun y => (c0 + b * y % 2305843009213688669) % 2305843009213688669) y < 2305843009213688669 := fun y => Nat.mod_lt _ (by decide)
        have hRq : (s' + (2305843009213688669 - (fun y => (c0 + b * y % 2305843009213688669) % 2305843009213688669) 0)) % 2305843009213688669 < 2305843009213688669 := Nat.mod_lt _ (by decide)
        have hyq : (s' + (2305843009213688669 - (fun y => (c0 + b * y % 2305843009213688669) % 2305843009213688669) 0)) % 2305843009213688669 * qq b 2305843009213688667 % 2305843009213688669 < 2305843009213688669 := Nat.mod_lt _ (by decide)
        by_cases he : o' = (s' + (2305843009213688669 - (c0 + b * 0 % 2305843009213688669) % 2305843009213688669)) % 2305843009213688669 * qq b 2305843009213688667 % 2305843009213688669
        · exact law_Hides_same w a c N L s' o' b _ _ (fun y => (c0 + b * y % 2305843009213688669) % 2305843009213688669) hg hr hlen hv hs ho hV hVq hb0 hb h5 rfl hRq rfl hyq h6 he (h7.2 he)
        · exact law_Hides_other w a c N L s' o' b _ _ (fun y => (c0 + b * y % 2305843009213688669) % 2305843009213688669) hg hr hlen hv hs ho hV hVq hb0 hb h5 rfl hRq rfl hyq h6 he (fun h8 => he (h7.1 h8))
    · exact law_Hides_bad w a c p A s o hg hr hlen h
  · exact law_Hides_long w a c p A s o hg (by omega)
end Go.Proofs.YtnmaegbobfngeaaDoor
