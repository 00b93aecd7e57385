/- Shares of secrets: the value, in the reference. -/
import Derived.Test.YtnmaegbobfngeaaDoorShD
namespace Gf
open Go Eng
theorem mq (a b : Nat) : a % 2305843009213688669 * b % 2305843009213688669 = a * b % 2305843009213688669 := by rw [Nat.mul_mod, Nat.mod_mod, ← Nat.mul_mod]
theorem mq' (a b : Nat) : a * (b % 2305843009213688669) % 2305843009213688669 = a * b % 2305843009213688669 := by rw [Nat.mul_mod, Nat.mod_mod, ← Nat.mul_mod]
theorem qq_mulm (u v k : Nat) : qq (u * v % 2305843009213688669) k = qq u k * qq v k % 2305843009213688669 := by
  rw [qq_def, qq_def, qq_def, ← Nat.pow_mod, Nat.mul_pow, Nat.mul_mod]
theorem qq_onek (k : Nat) : qq 1 k = 1 := by rw [qq_def, Nat.one_pow]
noncomputable def rvF (e : Nat) (ot : List Nat) (a x y : Nat) : Nat := ot.foldl (fun y b => y * subQ x b % 2305843009213688669 * qq (subQ a b) e % 2305843009213688669) y
theorem rvF_snoc (e : Nat) (ot : List Nat) (b a x y : Nat) : rvF e (ot ++ [b]) a x y = rvF e ot a x y * subQ x b % 2305843009213688669 * qq (subQ a b) e % 2305843009213688669 := by unfold rvF; rw [List.foldl_append]; rfl
theorem rev_ind {P : List Nat → Prop} (h0 : P []) (h1 : ∀ d b, P d → P (d ++ [b])) : ∀ l, P l := by
  intro l
  have key : ∀ n (l : List Nat), l.length = n → P l := by
    intro n
    induction n with
    | zero => intro l h; rw [List.length_eq_zero_iff.1 h]; exact h0
    | succ n ih =>
      intro l h
      rcases List.eq_nil_or_concat l with rfl | ⟨d, b, rfl⟩
      · cases h
      · rw [List.concat_eq_append] at h ⊢
        exact h1 d b (ih d (by simpa using h))
  exact key _ l rfl
theorem rvF_prod (e a x y : Nat) (hy : y < 2305843009213688669) : ∀ ot : List Nat, rvF e ot a x y = y * upQ ot x * qq (upQ ot a) e % 2305843009213688669 := by
  refine rev_ind ?_ ?_
  · show y = y * 1 * qq 1 e % 2305843009213688669
    rw [qq_onek, Nat.mul_one, Nat.mul_one, Nat.mod_eq_of_lt hy]
  · intro d b ih
    rw [rvF_snoc, ih, upQ_snoc, upQ_snoc, qq_mulm]
    generalize upQ d x = U
    generalize qq (upQ d a) e = V
    generalize subQ x b = s
    generalize qq (subQ a b) e = t
    rw [mq, Nat.mul_assoc (_ % _) s t, mq, mq', show y * (U * s % 2305843009213688669) * (V * t) = (U * s % 2305843009213688669) * (y * (V * t)) by ac_rfl, mq]
    congr 1
    ac_rfl
theorem rvF_bas (ot : List Nat) (a x y : Nat) (hy : y < 2305843009213688669) : rvF 2305843009213688667 ot a x y = basQ ot a x * y % 2305843009213688669 := by
  rw [rvF_prod _ _ _ _ hy, basQ, mq]
  congr 1
  ac_rfl
theorem rvF_lt (e : Nat) (ot : List Nat) (a x y : Nat) (hy : y < 2305843009213688669) : rvF e ot a x y < 2305843009213688669 := by rw [rvF_prod _ _ _ _ hy]; exact Nat.mod_lt _ (by decide)
theorem shc_x (l : List (Nat × Nat)) (i : Nat) (h : i < l.length) : (shc (sN l))[i * 2 + 0]? = some (I ((pl l).getD i 0 : Nat)) := by
  have e : l = l.take i ++ l.getD i (0, 0) :: l.drop (i + 1) := by
    rw [List.getD_eq_getElem?_getD, List.getElem?_eq_getElem h]
    simp
  have e2 : sN l = sN (l.take i) ++ (((l.getD i (0, 0)).1 : Int), ((l.getD i (0, 0)).2 : Int)) :: sN (l.drop (i + 1)) := by
    conv => lhs; rw [e]
    unfold sN; rw [List.map_append, List.map_cons]
  have hl : (sN (l.take i)).length = i := by rw [sN_length, List.length_take]; omega
  have := shc_mid (sN (l.take i)) (((l.getD i (0, 0)).1 : Int), ((l.getD i (0, 0)).2 : Int)) (sN (l.drop (i + 1))) 0 _ rfl
  rw [hl, ← e2] at this
  rw [this]
  congr 3
  unfold pl
  rw [List.getD_eq_getElem?_getD, List.getD_eq_getElem?_getD, List.getElem?_map, List.getElem?_eq_getElem h]; rfl
end Gf
namespace Go.Proofs.YtnmaegbobfngeaaDoor
open Go Eng Gf
set_option maxRecDepth 100000
theorem r8_Value_ok (w : World) (a0 : Option Addr) (c : Nat) (l : List (Nat × Nat)) (x : Nat) (hr : Rd w a0 (shc (sN l))) (hl : l.length ≤ 1000000) (hx : x < 2305843009213688669) (hps : ∀ i, (pl l).getD i 0 < 2305843009213688669) (hys : ∀ i, (l.getD i (0, 0)).2 < 2305843009213688669)
    (hne : ∀ i k, i < l.length → k < l.length → k ≠ i → 0 < subQ ((pl l).getD i 0) ((pl l).getD k 0)) :
    Pure Tryd.prog 32 [.slice a0 l.length c, I x] w (I (valQ l x : Nat)) := by
  have hcl : l.length ≤ (shc (sN l)).length := by rw [shc_length, sN_length]; omega
  have hpl := pl_length l
  refine enter Tryd.func32 Tryd.ntmps32 ?_
  refine c_seq <| c_reg <| s_y y_as <| s_nil <| q_then <| c_seq <| c_reg <| s_y y_as <| s_nil <| q_then <| c_seq <| c_seq <| c_reg <| s_y y_as <| s_nil <| q_then <| c_block <| ?_
  refine c_loop (fun i : Nat => [(0, .slice a0 l.length c), (1, I x), (5, I (accQ l x i : Nat)), (6, I i)]) (fun _ => []) (fun i => i ≤ l.length) (fun i => l.length - i) 0 (Nat.zero_le _) ⟨rfl, rfl, rfl, rfl, trivial⟩ (.refl _) ?_
  intro i hi
  by_cases hil : i < l.length
  · obtain ⟨a, ha⟩ : ∃ a, (pl l).getD i 0 = a := ⟨_, rfl⟩
    obtain ⟨y0, hy0⟩ : ∃ y, (l.getD i (0, 0)).2 = y := ⟨_, rfl⟩
    have hyi := shc_y l i hil
    have hxi := shc_x l i hil
    have hyq := hys i
    have haq := hps i
    rw [hy0] at hyi hyq
    rw [ha] at hxi haq
    refine c_seq <| c_seq <| c_reg <| s_y y_mv <| s_y y_mv <| s_y y_len <| s_kt (y_lss (p := ((i : Nat) : Int)) (q := ((l.length : Nat) : Int))) (by omega) <| s_nil <| q_then <| c_t <| c_skip <| q_then <| c_seq <| c_block <| c_seq <| c_reg <| s_y y_mv <| s_y y_mv <| s_y (y_ixs (xs := shc (sN l)) (hl := hcl)) <| s_y y_far <| s_y (y_ldr (i := i * 2 + 1) hyi rfl (rdW0 hr)) <| s_y y_as <| s_nil <| q_then <| c_seq <| c_seq <| c_reg <| s_y y_as <| s_nil <| q_then <| c_block <| ?_
    refine c_loop (fun k : Nat => [(0, .slice a0 l.length c), (1, I x), (5, I (accQ l x i : Nat)), (6, I i), (7, I (rvF 2305843009213688667 (((pl l).take k).eraseIdx i) a x y0 : Nat)), (8, I k)]) (fun _ => []) (fun k => k ≤ l.length) (fun k => l.length - k) 0 (Nat.zero_le _) ⟨rfl, rfl, rfl, rfl, rfl, rfl, trivial⟩ (.refl _) ?_
    intro k hk
    by_cases hkl : k < l.length
    · have htk : ((pl l).take k).length = k := by rw [List.length_take]; omega
      refine c_seq <| c_seq <| c_reg <| s_y y_mv <| s_y y_mv <| s_y y_len <| s_kt (y_lss (p := ((k : Nat) : Int)) (q := ((l.length : Nat) : Int))) (by omega) <| s_nil <| q_then <| c_t <| c_skip <| q_then <| c_seq <| c_block <| c_seq <| c_seq <| c_reg <| s_y y_mv <| s_y y_mv <| ?_
      by_cases hki : k = i
      · subst hki
        refine s_kt (y_eql (p := ((k : Nat) : Int)) (q := ((k : Nat) : Int))) rfl <| s_nil <| q_then <| c_t <| c_exit <| q_ex <| q_exb <| q_then <| c_reg <| s_y y_mv <| s_y (y_add (p := ((k : Nat) : Int)) (q := 1)) <| s_y y_as <| s_nil <| ?_
        rw [show ((k : Nat) : Int) + 1 = ((k + 1 : Nat) : Int) by omega]
        have e : ((pl l).take (k + 1)).eraseIdx k = ((pl l).take k).eraseIdx k := by
          rw [Gf.take_snoc (pl l) k (by omega)]
          have := er_eq ((pl l).take k) ((pl l).getD k 0)
          rwa [htk] at this
        rw [← e]
        exact q_round (k + 1) hkl (by omega) ⟨rfl, rfl, rfl, rfl, rfl, rfl, trivial⟩ (.refl _)
      · obtain ⟨b, hb⟩ : ∃ b, (pl l).getD k 0 = b := ⟨_, rfl⟩
        have hxk := shc_x l k hkl
        have hbq := hps k
        have hsp := hne i k hil hkl hki
        rw [ha, hb] at hsp
        rw [hb] at hxk hbq
        have hsx := subQ_lt x b
        have hsa := subQ_lt a b
        have hylt := rvF_lt 2305843009213688667 (((pl l).take k).eraseIdx i) a x y0 hyq
        have e : rvF 2305843009213688667 (((pl l).take (k + 1)).eraseIdx i) a x y0 = rvF 2305843009213688667 (((pl l).take k).eraseIdx i) a x y0 * subQ x b % 2305843009213688669 * qq (subQ a b) 2305843009213688667 % 2305843009213688669 := by
          rw [Gf.take_snoc (pl l) k (by omega), er_ne _ _ _ (by rw [htk]; exact hki), rvF_snoc, hb]
        obtain ⟨Y, hY⟩ : ∃ Y, rvF 2305843009213688667 (((pl l).take k).eraseIdx i) a x y0 = Y := ⟨_, rfl⟩
        rw [hY] at e hylt ⊢
        refine s_kf (y_eql (p := ((k : Nat) : Int)) (q := ((i : Nat) : Int))) (by omega) <| s_nil <| q_then <| c_f <| c_skip <| q_then <| ?_
        refine c_seq <| c_reg <| s_y y_mv <| s_y y_mv <| s_y y_mv <| s_y (y_ixs (xs := shc (sN l)) (hl := hcl)) <| s_y y_far <| s_y (y_ldr (i := k * 2 + 0) hxk rfl (rdW0 hr)) <| s_pure (fun w' hw => r3_Sub_yes w' x b hx hbq) <| s_y y_mv <| s_y y_ext <| s_y y_ext <| s_y y_as <| s_y y_as <| s_nil <| q_then <| ?_
        refine c_seq <| c_regd <| d_y y_mv <| d_y y_mv <| d_y (y_ixs (xs := shc (sN l)) (hl := hcl)) <| d_y y_far <| d_y (y_ldr (i := i * 2 + 0) hxi rfl (rdW0 hr)) <| d_y y_mv <| d_y y_mv <| d_y (y_ixs (xs := shc (sN l)) (hl := hcl)) <| d_y y_far <| d_y (y_ldr (i := k * 2 + 0) hxk rfl (rdW0 hr)) <| d_pure (fun w' hw => r3_Sub_yes w' a b haq hbq) <| d_y y_mv <| d_y y_ext <| d_y y_ext <| d_y y_as <| d_y y_as <| d_nil <| q_then <| ?_
        refine c_seq <| c_reg <| s_y y_mv <| s_pure (fun w' hw => r3_Inv_yes w' (subQ a b) hsp hsa) <| s_y y_mv <| s_y y_ext <| s_y y_ext <| s_y y_as <| s_y y_as <| s_nil <| q_then <| ?_
        refine c_seq <| c_reg <| s_y y_mv <| s_y y_mv <| s_pure (fun w' hw => r3_Mul_yes w' Y (subQ x b) hylt hsx) <| s_y y_mv <| s_y y_ext <| s_y y_ext <| s_y y_as <| s_nil <| q_then <| ?_
        refine c_reg <| s_y y_mv <| s_y y_mv <| s_pure (fun w' hw => r3_Mul_yes w' (Y * subQ x b % 2305843009213688669) (qq (subQ a b) 2305843009213688667) (Nat.mod_lt _ (by decide)) (qq_lt _ _)) <| s_y y_mv <| s_y y_ext <| s_y y_ext <| s_y y_as <| s_nil <| q_nb <| q_then <| ?_
        refine c_reg <| s_y y_mv <| s_y (y_add (p := ((k : Nat) : Int)) (q := 1)) <| s_y y_as <| s_nil <| ?_
        rw [show ((k : Nat) : Int) + 1 = ((k + 1 : Nat) : Int) by omega, ← e]
        exact q_round (k + 1) hkl (by omega) ⟨rfl, rfl, rfl, rfl, rfl, rfl, trivial⟩ (.refl _)
    · obtain rfl : k = l.length := by omega
      have hfin : rvF 2305843009213688667 (((pl l).take l.length).eraseIdx i) a x y0 = basQ ((pl l).eraseIdx i) a x * y0 % 2305843009213688669 := by
        rw [← hpl, List.take_length, rvF_bas _ _ _ _ hyq]
      have hacc : accQ l x (i + 1) = (accQ l x i + basQ ((pl l).eraseIdx i) a x * y0 % 2305843009213688669) % 2305843009213688669 := by rw [accQ, ha, hy0]
      rw [hfin]
      have haq2 := accQ_lt l x i
      refine c_seq <| c_seq <| c_reg <| s_y y_mv <| s_y y_mv <| s_y y_len <| s_kf (y_lss (p := ((l.length : Nat) : Int)) (q := ((l.length : Nat) : Int))) (by omega) <| s_nil <| q_then <| c_f <| c_exit <| q_ex <| q_ex <| q_exb <| q_then <| ?_
      refine c_reg <| s_y y_mv <| s_y y_mv <| s_pure (fun w' hw => r3_Add_yes w' (accQ l x i) (basQ ((pl l).eraseIdx i) a x * y0 % 2305843009213688669) haq2 (Nat.mod_lt _ (by decide))) <| s_y y_mv <| s_y y_ext <| s_y y_ext <| s_y y_as <| s_nil <| q_nb <| q_then <| ?_
      refine c_reg <| s_y y_mv <| s_y (y_add (p := ((i : Nat) : Int)) (q := 1)) <| s_y y_as <| s_nil <| ?_
      rw [show ((i : Nat) : Int) + 1 = ((i + 1 : Nat) : Int) by omega, ← hacc]
      exact q_round (i + 1) hil (by omega) ⟨rfl, rfl, rfl, rfl, trivial⟩ (.refl _)
  · obtain rfl : i = l.length := by omega
    refine c_seq <| c_seq <| c_reg <| s_y y_mv <| s_y y_mv <| s_y y_len <| s_kf (y_lss (p := ((l.length : Nat) : Int)) (q := ((l.length : Nat) : Int))) (by omega) <| s_nil <| q_then <| c_f <| c_exit <| q_ex <| q_ex <| q_exb <| q_then <| c_seq <| c_reg <| s_y y_mv <| s_y y_as <| s_nil <| q_then <| c_ret <| ?_
    exact ret1 Tryd.results32 rv_t fun w' hw => ⟨rfl, hw⟩
end Go.Proofs.YtnmaegbobfngeaaDoor
