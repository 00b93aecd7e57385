/- Sums of shares, in both programs. -/
import Derived.Test.YtnmaegbobfngeaaDoorShR
import Derived.Test.YtnmaegbobfngeaaDoorShH
namespace Gf
open Go Eng
def smE (a b : List (Int × Int)) : Int := if chS a = 0 then (if chS b = 0 then (if a.map (·.1) = b.map (·.1) then 0 else 80) else chS b) else chS a
def smL (a b : List (Int × Int)) : List (Nat × Nat) := if smE a b = 0 then smS (toN a) (toN b) else []
theorem chS_01 (l : List (Int × Int)) : chS l = 0 ∨ chS l = 80 := by unfold chS; split <;> simp
theorem chS_len {l : List (Int × Int)} (h : chS l = 0) : 1 ≤ l.length ∧ l.length ≤ 64 := by
  unfold chS at h
  by_cases h1 : 1 ≤ l.length ∧ l.length ≤ 64 ∧ okS 0 l = true
  · exact ⟨h1.1, h1.2.1⟩
  · rw [if_neg h1] at h; cases h
theorem smE_a {a b : List (Int × Int)} (h : chS a ≠ 0) : smE a b = chS a ∧ smL a b = [] := by
  have e : smE a b = chS a := by rw [smE, if_neg h]
  exact ⟨e, by rw [smL, e, if_neg h]⟩
theorem smE_b {a b : List (Int × Int)} (h : chS a = 0) (h2 : chS b ≠ 0) : smE a b = chS b ∧ smL a b = [] := by
  have e : smE a b = chS b := by rw [smE, if_pos h, if_neg h2]
  exact ⟨e, by rw [smL, e, if_neg h2]⟩
theorem smE_c {a b : List (Int × Int)} (h : chS a = 0) (h2 : chS b = 0) (h3 : ¬ a.map (·.1) = b.map (·.1)) : smE a b = 80 ∧ smL a b = [] := by
  have e : smE a b = 80 := by rw [smE, if_pos h, if_pos h2, if_neg h3]
  exact ⟨e, by rw [smL, e, if_neg (by decide)]⟩
theorem smE_y {a b : List (Int × Int)} (h : chS a = 0) (h2 : chS b = 0) (h3 : a.map (·.1) = b.map (·.1)) : smE a b = 0 ∧ smL a b = smS (toN a) (toN b) := by
  have e : smE a b = 0 := by rw [smE, if_pos h, if_pos h2, if_pos h3]
  exact ⟨e, by rw [smL, if_pos e]⟩
theorem ni_inj {p q : List Nat} (h : ni p = ni q) : p = q := by
  unfold ni at h
  exact (List.map_inj_right fun x y hxy => Int.ofNat.inj hxy).1 h
theorem pl_of_map {A B : List (Nat × Nat)} (h : (sN A).map (·.1) = (sN B).map (·.1)) : pl A = pl B := ni_inj (by rw [← sN_pl, ← sN_pl]; exact h)
theorem shc_j (A : List (Nat × Nat)) {i : Nat} (h : i < A.length) : ∀ j v, [I ((A.getD i (0, 0)).1 : Nat), I ((A.getD i (0, 0)).2 : Nat)][j]? = some v → (shc (sN A))[i * 2 + j]? = some v := fun j v hv =>
  shc_at (sN A) i (by rw [sN_length]; exact h) j v (by rw [sN_getD]; exact hv)
theorem pl_getD {A B : List (Nat × Nat)} (h : pl A = pl B) (i : Nat) : (A.getD i (0, 0)).1 = (B.getD i (0, 0)).1 := by
  have e : ∀ A : List (Nat × Nat), (A.getD i (0, 0)).1 = (pl A).getD i 0 := fun A => by
    unfold pl
    rw [List.getD_eq_getElem?_getD, List.getD_eq_getElem?_getD, List.getElem?_map]
    cases A[i]? <;> rfl
  rw [e, e, h]
theorem pl_ext {A B : List (Nat × Nat)} (h : A.length = B.length) (hj : ∀ j, j < A.length → (A.getD j (0, 0)).1 = (B.getD j (0, 0)).1) : pl A = pl B := by
  refine List.ext_getElem (by rw [pl_length, pl_length, h]) fun j h1 h2 => ?_
  rw [pl_length] at h1 h2
  have := hj j h1
  rw [List.getD_eq_getElem?_getD, List.getD_eq_getElem?_getD, List.getElem?_eq_getElem h1, List.getElem?_eq_getElem h2] at this
  simp only [pl, List.getElem_map]
  exact this
theorem sN_append' (a b : List (Nat × Nat)) : sN (a ++ b) = sN a ++ sN b := by unfold sN; exact List.map_append
theorem smS_at' {a b : List (Nat × Nat)} (i : Nat) (hi : i < a.length) (hb : i < b.length) : (smS a b).getD i (0, 0) = ((a.getD i (0, 0)).1, ((a.getD i (0, 0)).2 + (b.getD i (0, 0)).2) % 2305843009213688669) := by
  have hs : i < (smS a b).length := by unfold smS; rw [List.length_zipWith]; omega
  rw [List.getD_eq_getElem?_getD, List.getD_eq_getElem?_getD, List.getD_eq_getElem?_getD, List.getElem?_eq_getElem hi, List.getElem?_eq_getElem hb, List.getElem?_eq_getElem hs]
  simp only [smS, List.getElem_zipWith, Option.getD_some]
/-- one more of the sum -/
theorem smS_step {A B : List (Nat × Nat)} {i : Nat} (hi : i < A.length) (hb : i < B.length) : shc (sN ((smS A B).take i)) ++ shc (sN [((A.getD i (0, 0)).1, ((A.getD i (0, 0)).2 + (B.getD i (0, 0)).2) % 2305843009213688669)]) = shc (sN ((smS A B).take (i + 1))) := by
  have hs : i < (smS A B).length := by unfold smS; rw [List.length_zipWith]; omega
  have e : (smS A B).take (i + 1) = (smS A B).take i ++ [(smS A B).getD i (0, 0)] := by
    rw [List.take_succ_eq_append_getElem hs, List.getD_eq_getElem?_getD, List.getElem?_eq_getElem hs]; rfl
  rw [e, ← smS_at' i hi hb, sN_append', shc_append]
end Gf
namespace Go.Proofs.YtnmaegbobfngeaaDoor
open Go Eng Gf
set_option maxRecDepth 100000
theorem s_Sum_ok (w : World) (a b : Option Addr) (c c' : Nat) (p q : List (Int × Int)) (hr : Rd w a (shc p)) (hr' : Rd w b (shc q)) (hl : p.length < 1000000000000000000) (hl' : q.length < 1000000000000000000) :
    Gives Tryd.prog 13 [.slice a p.length c, .slice b q.length c'] w [] (fun y : Option Addr × Nat => .tuple #[.slice y.1 (smL p q).length y.2, I (smE p q)]) (fun y => [.row y.1 y.2 42 2 (smL p q).length (shc (sN (smL p q)))]) (fun _ => True) := by
  have bad : ∀ {n : Nat} {F : List (Nat × Value)} {l2 : SH} {e : Int}, smE p q = e ∧ smL p q = [] → lkO F 4 = some (.slice none 0 0) → lkO F 5 = some (I e) →
      QP n [] w [] (bodyPost Tryd.prog Tryd.f13 fun e w' => ∃ y : Option Addr × Nat, True ∧ e = .returned (.tuple #[.slice y.1 (smL p q).length y.2, I (smE p q)]) ∧ St w [] w' [.row y.1 y.2 42 2 (smL p q).length (shc (sN (smL p q)))]) .ret F l2 := by
    intro n F l2 e h1 h2 h3
    rw [h1.1, h1.2]
    exact ret2 Tryd.results13 (rv_t h2) (rv_t h3) fun w' hw => ⟨(none, 0), trivial, rfl, (hw.sub (List.nil_sublist _)).nilRow _ _⟩
  refine enter Tryd.func13 Tryd.ntmps13 ?_
  refine c_seq <| c_reg <| s_y y_as <| s_y y_as <| s_nil <| q_then <| c_seq <| c_seq <| c_reg <| s_y y_mv <| s_y y_mv <| s_y (y_blda (cs := [.slice a p.length c, .slice b q.length c'])) <| s_y y_mv <| s_nil <| q_then <| c_block <| ?_
  refine c_loop (fun i : Nat => [(0, .slice a p.length c), (1, .slice b q.length c'), (4, .slice none 0 0), (15, .agg #[.slice a p.length c, .slice b q.length c']), (16, I i)]) (fun _ => []) (fun i => i ≤ 2 ∧ (1 ≤ i → chS p = 0) ∧ (2 ≤ i → chS q = 0)) (fun i => 2 - i) 0 ⟨by omega, fun h => by omega, fun h => by omega⟩ ⟨rfl, rfl, rfl, rfl, rfl, trivial⟩ (List.nil_sublist _) ?_
  intro i ⟨hi, hp, hq⟩
  by_cases h0 : i = 0
  · subst h0
    refine c_seq <| c_reg <| s_kt (y_lss (p := ((0 : Nat) : Int)) (q := 2)) (by omega) <| s_nil <| q_then <| c_seq <| c_t <| c_skip <| q_then <| c_seq <| c_block <| c_seq <| c_reg <| s_y (y_ixv (v := .slice a p.length c) 0 rfl) <| s_y y_as <| s_nil <| q_then <| c_seq <| c_reg <| s_y y_mv <| s_pure (fun w' hw => s_Check_ok w' a c p (hr.st hw) hl) <| s_y y_as <| s_nil <| q_then <| c_seq <| c_reg <| s_y y_mv <| ?_
    by_cases h : chS p = 0
    · refine s_nf (y_neq (p := chS p) (q := 0)) h <| s_nil <| q_then <| c_f <| c_skip <| q_nb <| q_then <| c_reg <| s_y (y_add (p := ((0 : Nat) : Int)) (q := 1)) <| s_y y_mv <| s_nil <| ?_
      exact q_round 1 ⟨by omega, fun _ => h, fun h => by omega⟩ (by omega) ⟨rfl, rfl, rfl, rfl, rfl, trivial⟩ (List.nil_sublist _)
    · refine s_nt (y_neq (p := chS p) (q := 0)) h <| s_nil <| q_then <| c_t <| c_seq <| c_reg <| s_y y_mv <| s_y y_as <| s_y y_as <| s_nil <| q_then <| c_ret <| q_retb <| q_ret <| q_ret <| q_retb <| q_ret <| ?_
      exact bad (smE_a h) rfl rfl
  by_cases h1 : i = 1
  · subst h1
    have hp := hp (by omega)
    refine c_seq <| c_reg <| s_kt (y_lss (p := ((1 : Nat) : Int)) (q := 2)) (by omega) <| s_nil <| q_then <| c_seq <| c_t <| c_skip <| q_then <| c_seq <| c_block <| c_seq <| c_reg <| s_y (y_ixv (v := .slice b q.length c') 1 rfl) <| s_y y_as <| s_nil <| q_then <| c_seq <| c_reg <| s_y y_mv <| s_pure (fun w' hw => s_Check_ok w' b c' q (hr'.st hw) hl') <| s_y y_as <| s_nil <| q_then <| c_seq <| c_reg <| s_y y_mv <| ?_
    by_cases h : chS q = 0
    · refine s_nf (y_neq (p := chS q) (q := 0)) h <| s_nil <| q_then <| c_f <| c_skip <| q_nb <| q_then <| c_reg <| s_y (y_add (p := ((1 : Nat) : Int)) (q := 1)) <| s_y y_mv <| s_nil <| ?_
      exact q_round 2 ⟨by omega, fun _ => hp, fun _ => h⟩ (by omega) ⟨rfl, rfl, rfl, rfl, rfl, trivial⟩ (List.nil_sublist _)
    · refine s_nt (y_neq (p := chS q) (q := 0)) h <| s_nil <| q_then <| c_t <| c_seq <| c_reg <| s_y y_mv <| s_y y_as <| s_y y_as <| s_nil <| q_then <| c_ret <| q_retb <| q_ret <| q_ret <| q_retb <| q_ret <| ?_
      exact bad (smE_b hp h) rfl rfl
  obtain rfl : i = 2 := by omega
  have hp := hp (by omega)
  have hq := hq (by omega)
  obtain ⟨eA, hvA⟩ := chS_vld hp
  obtain ⟨eB, hvB⟩ := chS_vld hq
  have hlp := (chS_len hp).2
  have hlq := (chS_len hq).2
  refine c_seq <| c_reg <| s_kf (y_lss (p := ((2 : Nat) : Int)) (q := 2)) (by omega) <| s_nil <| q_then <| c_seq <| c_f <| c_exit <| q_ex <| q_ex <| q_exb <| q_then <| ?_
  refine c_seq <| c_seq <| c_reg <| s_y y_mv <| s_gives (fun w' hw => collect_ok w' a c p (hr.st hw) (by omega)) (fun y _ => ?_)
  obtain ⟨pa, pc⟩ := y
  refine s_y y_mv <| s_gives (fun w' hw => collect_ok w' b c' q (hr'.st hw) (by omega)) (fun y _ => ?_)
  obtain ⟨pb, pd⟩ := y
  refine s_pure (fun w' hw => by
    have h9 := EqualI_ok w' pa pb pc pd (p.map (·.1)) (q.map (·.1)) (rdR (.tail _ (.head _)) w' hw) (rdR (.head _) w' hw) (by rw [List.length_map]; exact hl)
    rw [List.length_map, List.length_map] at h9
    exact h9) <| ?_
  by_cases hm : p.map (·.1) = q.map (·.1)
  · rw [decide_eq_true hm]
    obtain ⟨r1, r2⟩ := smE_y hp hq hm
    rw [r1, r2]
    have hpl : pl (toN p) = pl (toN q) := pl_of_map (by rw [eA, eB]; exact hm)
    have lA := toN_length p
    have lB := toN_length q
    have lAB := pl_len hpl
    have hsl := smS_length hpl
    have hrA : Rd w a (shc (sN (toN p))) := by rw [eA]; exact hr
    have hrB : Rd w b (shc (sN (toN q))) := by rw [eB]; exact hr'
    rw [hsl]
    refine s_y (v := .bool false) (y_not (b := true)) <| s_nil <| q_then <| c_f <| c_skip <| q_then <| c_seq <| c_seq <| c_reg <| s_y y_mv <| s_y y_len <| s_y y_mv <| s_nil <| q_then <| c_nilrow 42 2 <| c_block <| ?_
    refine c_loop3 (fun (i : Nat) (a2 : Option Addr) (c2 : Nat) => [(1, .slice b q.length c'), (4, .slice a2 i c2), (31, .slice a p.length c), (32, I p.length), (33, I i)]) (fun i a2 c2 => [.row a2 c2 42 2 i (shc (sN ((smS (toN p) (toN q)).take i)))]) (fun i _ _ => i ≤ p.length) (fun i _ _ => p.length - i) 0 none 0 (Nat.zero_le _) ⟨rfl, rfl, rfl, rfl, rfl, trivial⟩ (.cons_cons _ (List.nil_sublist _)) ?_
    intro i a2 c2 hi
    by_cases hil : i < p.length
    · have hiA : i < (toN p).length := by omega
      have hiB : i < (toN q).length := by omega
      have hA := shc_j (toN p) hiA
      have hB := shc_j (toN q) hiB
      have hyA := hvA.ys i
      have hyB := hvB.ys i
      have hst := smS_step hiA hiB
      have hlA : p.length ≤ (shc (sN (toN p))).length := by rw [shc_length, sN_length]; omega
      have hlB : q.length ≤ (shc (sN (toN q))).length := by rw [shc_length, sN_length]; omega
      obtain ⟨x, hx⟩ : ∃ x, ((toN p).getD i (0, 0)).1 = x := ⟨_, rfl⟩
      obtain ⟨y, hy⟩ : ∃ y, ((toN p).getD i (0, 0)).2 = y := ⟨_, rfl⟩
      obtain ⟨z, hz⟩ : ∃ z, ((toN q).getD i (0, 0)).2 = z := ⟨_, rfl⟩
      rw [hx, hy] at hA hst
      rw [hz] at hB hst hyB
      rw [hy] at hyA
      have hB1 := hB 1 _ rfl
      refine c_seq <| c_reg <| s_kt (y_lss (p := ((i : Nat) : Int)) (q := ((p.length : Nat) : Int))) (by omega) <| s_nil <| q_then <| c_seq <| c_t <| c_skip <| q_then <| c_seq <| c_block <| c_seq <| c_reg <| s_y y_mv <| s_y (y_ixs (xs := shc (sN (toN p))) (i := ((i : Nat) : Int)) (hr := rdW0 hrA) (hl := hlA)) <| s_y (y_ldra (i := i * 2) (cs := [I (x : Nat), I (y : Nat)]) (rdW0 hrA) rfl hA) <| s_alloc fun b10 => s_y y_as <| s_sta (b := b10) (vs := #[I (x : Nat), I (y : Nat)]) (cs := #[I 0, I 0]) (h1 := by intro u hu; simp at hu; rcases hu with rfl | rfl <;> rfl) (hl := rfl) (hs1 := rfl) ?_
      refine s_nil <| q_then <| c_seq <| c_regd <| d_y y_fa <| d_y (y_ld (b := b10) (v := I (y : Nat))) <| d_y y_mv <| d_y y_mv <| d_y (y_ixs (xs := shc (sN (toN q))) (i := ((i : Nat) : Int)) (hr := rdW0 hrB) (hl := hlB) (h1 := by omega)) <| d_y y_far <| d_y (y_ldr (i := i * 2 + 1) hB1 rfl (rdW0 hrB)) <| d_pure (fun w' hw => f_Add_yes w' y z hyA hyB) <| d_y y_mv <| d_y y_ext <| d_y y_ext <| d_y y_as <| d_y y_as <| d_nil <| q_then <| ?_
      refine c_reg <| s_y y_mv <| s_y y_fa <| s_y (y_ld (b := b10) (v := I (x : Nat))) <| s_y y_mv <| s_y (y_bshr (cs := [I (x : Nat), I ((y + z) % 2305843009213688669 : Nat)])) <| s_bslr (cs := shc (sN [(x, (y + z) % 2305843009213688669)])) fun b54 => s_app (m := 1) (fun w' hw => Src.slice (rdR (.head _) w' hw) rfl) (h1 := fun v hv => by simp [shc, sN] at hv; rcases hv with rfl | rfl <;> rfl) (hm := .tail _ (.tail _ (.head _))) (hrep := fun _ _ => .tail _ (.tail _ (.head _))) fun a55 c55 h55 => ?_
      rw [hst]
      refine s_y y_as <| s_nil <| q_nb <| q_then <| c_reg <| s_y (y_add (p := ((i : Nat) : Int)) (q := 1)) <| s_y y_mv <| s_nil <| ?_
      rw [show ((i : Nat) : Int) + 1 = ((i + 1 : Nat) : Int) by omega]
      exact q_round3 (x := i) (y := a2) (z := c2) (i + 1) a55 c55 (by omega) (by omega) ⟨rfl, rfl, rfl, rfl, rfl, trivial⟩ (.cons _ (.cons _ (.refl _)))
    · obtain rfl : i = p.length := by omega
      rw [List.take_of_length_le (show (smS (toN p) (toN q)).length ≤ p.length by omega), lA]
      refine c_seq <| c_reg <| s_kf (y_lss (p := ((p.length : Nat) : Int)) (q := ((p.length : Nat) : Int))) (by omega) <| s_nil <| q_then <| c_seq <| c_f <| c_exit <| q_ex <| q_ex <| q_exb <| q_then <| c_seq <| c_reg <| s_y y_mv <| s_y y_as <| s_y y_as <| s_nil <| q_then <| c_ret <| ?_
      exact ret2 Tryd.results13 rv_t rv_t fun w' hw => ⟨(a2, c2), trivial, rfl, hw⟩
  · rw [decide_eq_false hm]
    refine s_y (v := .bool true) (y_not (b := false)) <| s_nil <| q_then <| c_t <| c_seq <| c_reg <| s_y y_as <| s_y y_as <| s_nil <| q_then <| c_ret <| q_ret <| ?_
    exact bad (smE_c hp hq hm) rfl rfl
theorem r8_Sum_ok (w : World) (a b : Option Addr) (c c' : Nat) (p q : List (Int × Int)) (hr : Rd w a (shc p)) (hr' : Rd w b (shc q)) (hl : p.length < 1000000000000000000) (hl' : q.length < 1000000000000000000) :
    Gives Tryd.prog 14 [.slice a p.length c, .slice b q.length c'] w [] (fun y : Option Addr × Nat => .tuple #[.slice y.1 (smL p q).length y.2, I (smE p q)]) (fun y => [.row y.1 y.2 42 2 (smL p q).length (shc (sN (smL p q)))]) (fun _ => True) := by
  have bad : ∀ {n : Nat} {F : List (Nat × Value)} {l2 : SH} {e : Int}, smE p q = e ∧ smL p q = [] → lkO F 4 = some (.slice none 0 0) → lkO F 5 = some (I e) →
      QP n [] w [] (bodyPost Tryd.prog Tryd.f14 fun e w' => ∃ y : Option Addr × Nat, True ∧ e = .returned (.tuple #[.slice y.1 (smL p q).length y.2, I (smE p q)]) ∧ St w [] w' [.row y.1 y.2 42 2 (smL p q).length (shc (sN (smL p q)))]) .ret F l2 := by
    intro n F l2 e h1 h2 h3
    rw [h1.1, h1.2]
    exact ret2 Tryd.results14 (rv_t h2) (rv_t h3) fun w' hw => ⟨(none, 0), trivial, rfl, (hw.sub (List.nil_sublist _)).nilRow _ _⟩
  refine enter Tryd.func14 Tryd.ntmps14 ?_
  refine c_seq <| c_reg <| s_y y_as <| s_y y_as <| s_nil <| q_then <| c_seq <| c_reg <| s_y y_mv <| s_pure (fun w' hw => r8_Check_ok w' a c p (hr.st hw) hl) <| s_y y_as <| s_nil <| q_then <| c_seq <| c_seq <| c_reg <| s_y y_mv <| ?_
  by_cases hp : chS p = 0
  · rw [hp]
    refine s_kt (y_eql (p := 0) (q := 0)) rfl <| s_nil <| q_then <| c_t <| c_reg <| s_y y_mv <| s_pure (fun w' hw => r8_Check_ok w' b c' q (hr'.st hw) hl') <| s_y y_as <| s_nil <| q_then <| c_seq <| c_seq <| c_reg <| s_y y_mv <| ?_
    by_cases hq : chS q = 0
    · rw [hq]
      obtain ⟨eA, hvA⟩ := chS_vld hp
      obtain ⟨eB, hvB⟩ := chS_vld hq
      have hlp := (chS_len hp).2
      have hlq := (chS_len hq).2
      have lA := toN_length p
      have lB := toN_length q
      have hrA : Rd w a (shc (sN (toN p))) := by rw [eA]; exact hr
      have hrB : Rd w b (shc (sN (toN q))) := by rw [eB]; exact hr'
      refine s_nf (y_neq (p := 0) (q := 0)) rfl <| s_nil <| q_then <| c_f <| c_skip <| q_then <| c_seq <| c_seq <| c_reg <| s_y y_mv <| s_y y_len <| s_y y_mv <| s_y y_len <| ?_
      by_cases hpq : p.length = q.length
      · refine s_nf (y_neq (p := ((p.length : Nat) : Int)) (q := ((q.length : Nat) : Int))) (by rw [hpq]) <| s_nil <| q_then <| c_f <| c_skip <| q_then <| c_seq <| c_reg <| s_y y_as <| s_nil <| q_then <| c_seq <| c_seq <| c_reg <| s_y y_as <| s_nil <| q_then <| c_nilrow 42 2 <| c_block <| ?_
        refine c_loop3 (fun (i : Nat) (a2 : Option Addr) (c2 : Nat) => [(0, .slice a p.length c), (1, .slice b q.length c'), (7, .slice a2 i c2), (8, I i)]) (fun i a2 c2 => [.row a2 c2 42 2 i (shc (sN ((smS (toN p) (toN q)).take i)))]) (fun i _ _ => i ≤ p.length ∧ ∀ j, j < i → ((toN p).getD j (0, 0)).1 = ((toN q).getD j (0, 0)).1) (fun i _ _ => p.length - i) 0 none 0 ⟨Nat.zero_le _, fun _ h => by omega⟩ ⟨rfl, rfl, rfl, rfl, trivial⟩ (.cons_cons _ (List.nil_sublist _)) ?_
        intro i a2 c2 ⟨hi, hj⟩
        by_cases hil : i < p.length
        · have hiA : i < (toN p).length := by omega
          have hiB : i < (toN q).length := by omega
          have hA := shc_j (toN p) hiA
          have hB := shc_j (toN q) hiB
          have hyA := hvA.ys i
          have hyB := hvB.ys i
          have hlA : p.length ≤ (shc (sN (toN p))).length := by rw [shc_length, sN_length]; omega
          have hlB : q.length ≤ (shc (sN (toN q))).length := by rw [shc_length, sN_length]; omega
          have hA0 := hA 0 _ rfl
          have hA1 := hA 1 _ rfl
          have hB0 := hB 0 _ rfl
          have hB1 := hB 1 _ rfl
          refine c_seq <| c_seq <| c_reg <| s_y y_mv <| s_y y_mv <| s_y y_len <| s_kt (y_lss (p := ((i : Nat) : Int)) (q := ((p.length : Nat) : Int))) (by omega) <| s_nil <| q_then <| c_t <| c_skip <| q_then <| c_seq <| c_block <| c_seq <| c_seq <| c_regd <| d_y y_mv <| d_y y_mv <| d_y (y_ixs (xs := shc (sN (toN p))) (i := ((i : Nat) : Int)) (hr := rdW0 hrA) (hl := hlA)) <| d_y y_far <| d_y (y_ldr (i := i * 2 + 0) hA0 rfl (rdW0 hrA)) <| d_y y_mv <| d_y y_mv <| d_y (y_ixs (xs := shc (sN (toN q))) (i := ((i : Nat) : Int)) (hr := rdW0 hrB) (hl := hlB) (h1 := by omega)) <| d_y y_far <| d_y (y_ldr (i := i * 2 + 0) hB0 rfl (rdW0 hrB)) <| ?_
          by_cases hxy : ((toN p).getD i (0, 0)).1 = ((toN q).getD i (0, 0)).1
          · refine d_nf (y_neq (p := ((((toN p).getD i (0, 0)).1 : Nat) : Int)) (q := ((((toN q).getD i (0, 0)).1 : Nat) : Int))) (by rw [hxy]) <| d_nil <| q_then <| c_f <| c_skip <| q_then <| c_seq <| c_regd <| d_y y_mv <| d_y y_mv <| d_y (y_ixs (xs := shc (sN (toN p))) (i := ((i : Nat) : Int)) (hr := rdW0 hrA) (hl := hlA)) <| d_y y_far <| d_y (y_ldr (i := i * 2 + 1) hA1 rfl (rdW0 hrA)) <| d_y y_mv <| d_y y_mv <| d_y (y_ixs (xs := shc (sN (toN q))) (i := ((i : Nat) : Int)) (hr := rdW0 hrB) (hl := hlB) (h1 := by omega)) <| d_y y_far <| d_y (y_ldr (i := i * 2 + 1) hB1 rfl (rdW0 hrB)) <| d_pure (fun w' hw => r3_Add_yes w' _ _ hyA hyB) <| d_y y_mv <| d_y y_ext <| d_y y_ext <| d_y y_as <| d_y y_as <| d_nil <| q_then <| ?_
            refine c_reg <| s_y y_mv <| s_y y_mv <| s_y y_mv <| s_y (y_ixs (xs := shc (sN (toN p))) (i := ((i : Nat) : Int)) (hr := rdW0 hrA) (hl := hlA)) <| s_y y_far <| s_y (y_ldr (i := i * 2 + 0) hA0 rfl (rdW0 hrA)) <| s_y y_mv <| s_y (y_bshr (cs := [I (((toN p).getD i (0, 0)).1 : Nat), I ((((toN p).getD i (0, 0)).2 + ((toN q).getD i (0, 0)).2) % 2305843009213688669 : Nat)])) <| s_bslr (cs := shc (sN [(((toN p).getD i (0, 0)).1, (((toN p).getD i (0, 0)).2 + ((toN q).getD i (0, 0)).2) % 2305843009213688669)])) fun b64 => s_app (m := 1) (fun w' hw => Src.slice (rdR (.head _) w' hw) rfl) (h1 := fun v hv => by simp [shc, sN] at hv; rcases hv with rfl | rfl <;> rfl) (hm := .tail _ (.head _)) (hrep := fun _ _ => .tail _ (.head _)) fun a65 c65 h65 => ?_
            rw [smS_step hiA hiB]
            refine s_y y_as <| s_nil <| q_nb <| q_then <| c_reg <| s_y y_mv <| s_y (y_add (p := ((i : Nat) : Int)) (q := 1)) <| s_y y_as <| s_nil <| ?_
            rw [show ((i : Nat) : Int) + 1 = ((i + 1 : Nat) : Int) by omega]
            exact q_round3 (x := i) (y := a2) (z := c2) (i + 1) a65 c65 ⟨by omega, fun j h => (Nat.lt_or_ge j i).elim (hj j) fun h8 => by obtain rfl : j = i := (by omega); exact hxy⟩ (by omega) ⟨rfl, rfl, rfl, rfl, trivial⟩ (.cons _ (.refl _))
          · have hm : ¬ p.map (·.1) = q.map (·.1) := fun h => hxy (pl_getD (pl_of_map (by rw [eA, eB]; exact h)) i)
            refine d_nt (y_neq (p := ((((toN p).getD i (0, 0)).1 : Nat) : Int)) (q := ((((toN q).getD i (0, 0)).1 : Nat) : Int))) (by omega) <| d_nil <| q_then <| c_t <| c_seq <| c_reg <| s_y y_as <| s_y y_as <| s_nil <| q_then <| c_ret <| q_ret <| q_retb <| q_ret <| q_ret <| q_retb <| q_ret <| ?_
            exact bad (smE_c hp hq hm) rfl rfl
        · obtain rfl : i = p.length := by omega
          have hpl : pl (toN p) = pl (toN q) := pl_ext (by omega) fun j h => hj j (by omega)
          have hm : p.map (·.1) = q.map (·.1) := by rw [← eA, ← eB, sN_pl, sN_pl, hpl]
          obtain ⟨r1, r2⟩ := smE_y hp hq hm
          have hsl := smS_length hpl
          rw [r1, r2, List.take_of_length_le (show (smS (toN p) (toN q)).length ≤ p.length by omega), hsl, lA]
          refine c_seq <| c_seq <| c_reg <| s_y y_mv <| s_y y_mv <| s_y y_len <| s_kf (y_lss (p := ((p.length : Nat) : Int)) (q := ((p.length : Nat) : Int))) (by omega) <| s_nil <| q_then <| c_f <| c_exit <| q_ex <| q_ex <| q_exb <| q_then <| c_seq <| c_reg <| s_y y_mv <| s_y y_as <| s_y y_as <| s_nil <| q_then <| c_ret <| ?_
          exact ret2 Tryd.results14 rv_t rv_t fun w' hw => ⟨(a2, c2), trivial, rfl, hw⟩
      · have hm : ¬ p.map (·.1) = q.map (·.1) := fun h => hpq (by have := congrArg List.length h; simpa using this)
        refine s_nt (y_neq (p := ((p.length : Nat) : Int)) (q := ((q.length : Nat) : Int))) (by omega) <| s_nil <| q_then <| c_t <| c_seq <| c_reg <| s_y y_as <| s_y y_as <| s_nil <| q_then <| c_ret <| q_ret <| ?_
        exact bad (smE_c hp hq hm) rfl rfl
    · refine s_nt (y_neq (p := chS q) (q := 0)) hq <| s_nil <| q_then <| c_t <| c_seq <| c_reg <| s_y y_mv <| s_y y_as <| s_y y_as <| s_nil <| q_then <| c_ret <| q_ret <| ?_
      exact bad (smE_b hp hq) rfl rfl
  · refine s_kf (y_eql (p := chS p) (q := 0)) hp <| s_nil <| q_then <| c_f <| c_skip <| q_then <| c_seq <| c_seq <| c_reg <| s_y y_mv <| s_nt (y_neq (p := chS p) (q := 0)) hp <| s_nil <| q_then <| c_t <| c_seq <| c_reg <| s_y y_mv <| s_y y_as <| s_y y_as <| s_nil <| q_then <| c_ret <| q_ret <| ?_
    exact bad (smE_a hp) rfl rfl
end Go.Proofs.YtnmaegbobfngeaaDoor
