/- Shares of secrets: the basis, in the program. -/
import Derived.Test.YtnmaegbobfngeaaDoorShA
import Derived.Test.YtnmaegbobfngeaaDoorRange
namespace Eng
open Go Go.RowKit
section
variable {r : Option Nat} {P : Program} {n : Nat} {D : List Deferred} {W : World} {Bo : List Nat} {F F0 F1 : List (Nat × Value)} {l l' l1 l2 l3 : SH} {e : TypeId}
  {dd : Nat} {ty : TypeId} {ps : String} {af : Array Edge} {g : Option (Nat × Bool)} {Q : Exit → Act → World → Prop} {ops : Array Oper} {rest : List Oper} {c : Code}
/-- a call of yield, of two values -/
theorem s_yield2 {fo : Operand} {ao : Array Operand} {ts : Array TypeId} {L : Nat} {rc : Loop} {v v' : Value} {σ : Type} (val : σ → Value) (lx : σ → SH) (φ : σ → Prop)
    (hm : Res.blk L (.loop rc) ∈ l) (hpz : rc.params.size = 2)
    (hr : ∀ w, St W Bo w l → RoundIn (Fw none) 0 P L rc.fn ((rc.params.zip #[v, v']).foldl (fun tmps (t, a) => tmps.setIfInBounds t a) rc.tmps) rc.assign rc.body w fun e w' => ∃ x, φ x ∧ e = .returned (val x) ∧ St W Bo w' (lx x))
    (h : ∀ x, φ x → LP none P n D W Bo ops Q rest ((dd, val x) :: F) (lx x))
    (hfo : evO F fo = some (.func (.yield L) #[] #[]) := by rfl) (hargs : evL F ao.toList = some [v, v'] := by rfl) (hn : Nat.blt dd n = true := by rfl) (hg : Wn ops F g := by first | exact .none | exact .some rfl rfl) :
    LP none P n D W Bo ops Q (⟨some dd, .call ⟨.value fo, ao, ts⟩, ty, ps, af, g⟩ :: rest) F l := by
  intro a w ha hw
  refine wpListIn_of (hg.wanted rfl ha) ?_
  refine ⟨fun f _ => trivial, ?_⟩
  have hy := run_yield (P := P) (args := #[v, v']) (hw.own _ hm).1 (by simp [hpz])
  have hrun : (execOp a.eval ⟨some dd, .call ⟨.value fo, ao, ts⟩, ty, ps, af, g⟩).run P w = .ok (.round L rc.fn ((rc.params.zip #[v, v']).foldl (fun tmps (t, a) => tmps.setIfInBounds t a) rc.tmps) rc.assign rc.body) w := by
    simp only [execOp, resolve, ha.eval hfo, evs ha hargs, Deferred.ofValue, Sem.run_bind, Sem.run_pure, Result.andThen_ok, invoke]
    simpa using hy
  rw [semAt_eq _ (by simp), hrun]
  refine ⟨by simp [Fw, Fence.wide], (hr w hw).mono ?_⟩
  rintro e w' ⟨x, hx, rfl, hw'⟩
  exact h x hx _ _ (ha.put dd _ hn) hw'
end
end Eng
namespace Gf
open Go Eng
def subQ (x b : Nat) : Nat := (x + (2305843009213688669 - b)) % 2305843009213688669
def upQ (os : List Nat) (x : Nat) : Nat := os.foldl (fun u b => u * subQ x b % 2305843009213688669) 1
noncomputable def basQ (ot : List Nat) (a x : Nat) : Nat := upQ ot x * qq (upQ ot a) 2305843009213688667 % 2305843009213688669
theorem subQ_lt (x b : Nat) : subQ x b < 2305843009213688669 := Nat.mod_lt _ (by decide)
theorem upQ_snoc (os : List Nat) (b x : Nat) : upQ (os ++ [b]) x = upQ os x * subQ x b % 2305843009213688669 := by unfold upQ; rw [List.foldl_append]; rfl
theorem upQ_lt (os : List Nat) (x : Nat) : upQ os x < 2305843009213688669 := by
  rcases List.eq_nil_or_concat os with rfl | ⟨d, b, rfl⟩
  · show (1 : Nat) < 2305843009213688669
    decide
  · rw [List.concat_eq_append, upQ_snoc]; exact Nat.mod_lt _ (by decide)
theorem basQ_lt (ot : List Nat) (a x : Nat) : basQ ot a x < 2305843009213688669 := Nat.mod_lt _ (by decide)
/-- the places as ints -/
def ni (ps : List Nat) : List Int := ps.map fun (p : Nat) => (p : Int)
theorem ni_length (ps : List Nat) : (ni ps).length = ps.length := by unfold ni; exact List.length_map _
theorem ni_get (ps : List Nat) (i : Nat) : (ni ps).getD i 0 = ((ps.getD i 0 : Nat) : Int) := by
  unfold ni
  rw [List.getD_eq_getElem?_getD, List.getD_eq_getElem?_getD, List.getElem?_map]
  cases ps[i]? <;> rfl
theorem take_snoc (ps : List Nat) (k : Nat) (h : k < ps.length) : ps.take (k + 1) = ps.take k ++ [ps.getD k 0] := by
  rw [List.take_add_one, List.getElem?_eq_getElem h, List.getD_eq_getElem?_getD, List.getElem?_eq_getElem h]; rfl
theorem er_ne (d : List Nat) (b i : Nat) (h : d.length ≠ i) : (d ++ [b]).eraseIdx i = d.eraseIdx i ++ [b] := by
  rcases Nat.lt_or_ge i d.length with h1 | h1
  · rw [List.eraseIdx_append_of_lt_length h1]
  · rw [List.eraseIdx_of_length_le (by rw [List.length_append, List.length_singleton]; omega), List.eraseIdx_of_length_le h1]
theorem er_eq (d : List Nat) (b : Nat) : (d ++ [b]).eraseIdx d.length = d.eraseIdx d.length := by
  rw [List.eraseIdx_append_of_length_le (Nat.le_refl _), Nat.sub_self, List.eraseIdx_of_length_le (Nat.le_refl _)]; simp
end Gf
namespace Go.Proofs.YtnmaegbobfngeaaDoor
open Go Eng Gf
set_option maxRecDepth 100000
theorem r3_Sub_yes (w : World) (x y : Nat) (hx : x < 2305843009213688669) (hy : y < 2305843009213688669) : Pure Tryd.prog 50 [I x, I y] w (.tuple #[I (subQ x y : Nat), I 0]) := by
  have hsum : ∀ w' : World, Pure Tryd.prog 54 [I x, I (2305843009213688669 - (y : Int))] w' (I (subQ x y : Nat)) := fun w' => by
    refine enter Tryd.func54 Tryd.ntmps54 ?_
    refine c_seq <| c_reg <| s_y y_as <| s_nil <| q_then <| c_seq <| c_reg <| s_y y_mv <| s_y y_mv <| s_y (y_add (p := (x : Int)) (q := 2305843009213688669 - (y : Int))) <| s_y (y_rem (p := (x : Int) + (2305843009213688669 - (y : Int))) (q := 2305843009213688669)) <| s_y y_as <| s_nil <| q_then <| c_ret <| ?_
    exact ret1 Tryd.results54 rv_t fun w' hw => ⟨by rw [show ((x : Int) + (2305843009213688669 - (y : Int))) % 2305843009213688669 = ((subQ x y : Nat) : Int) by unfold subQ; omega], hw⟩
  refine enter Tryd.func50 Tryd.ntmps50 ?_
  refine c_seq <| c_reg <| s_y y_as <| s_y y_as <| s_nil <| q_then <| c_seq <| c_seq <| c_reg <| s_y y_mv <| s_pure (fun w' hw => r3Scalar_yes w' x hx) <| s_y (v := .bool false) (y_not (b := true)) <| s_y y_mv <| s_y y_mv <| s_pure (fun w' hw => r3Scalar_yes w' y hy) <| s_y (v := .bool false) (y_not (b := true)) <| s_y y_pk <| s_nil <| q_then <| c_f <| c_skip <| q_then <| c_seq <| c_reg <| s_y y_mv <| s_y y_mv <| s_y (y_sub (p := 2305843009213688669) (q := (y : Int))) <| s_pure (fun w' hw => hsum w') <| s_y y_as <| s_y y_as <| s_nil <| q_then <| c_ret <| ?_
  exact ret2 Tryd.results50 rv_t rv_t fun w' hw => ⟨rfl, hw.sub (List.nil_sublist _)⟩
theorem r3_Add_yes (w : World) (x y : Nat) (hx : x < 2305843009213688669) (hy : y < 2305843009213688669) : Pure Tryd.prog 36 [I x, I y] w (.tuple #[I ((x + y) % 2305843009213688669 : Nat), I 0]) := by
  refine enter Tryd.func36 Tryd.ntmps36 ?_
  refine c_seq <| c_reg <| s_y y_as <| s_y y_as <| s_nil <| q_then <| c_seq <| c_seq <| c_reg <| s_y y_mv <| s_pure (fun w' hw => r3Scalar_yes w' x hx) <| s_y (v := .bool false) (y_not (b := true)) <| s_y y_mv <| s_y y_mv <| s_pure (fun w' hw => r3Scalar_yes w' y hy) <| s_y (v := .bool false) (y_not (b := true)) <| s_y y_pk <| s_nil <| q_then <| c_f <| c_skip <| q_then <| c_seq <| c_reg <| s_y y_mv <| s_y y_mv <| s_pure (fun w' hw => r3_sum_ok w' x y hx hy) <| s_y y_as <| s_y y_as <| s_nil <| q_then <| c_ret <| ?_
  exact ret2 Tryd.results36 rv_t rv_t fun w' hw => ⟨rfl, hw.sub (List.nil_sublist _)⟩
theorem basis1_ok (w' : World) (rc : Loop) (Lp b1 b2 : Nat) (pa : Option Addr) (pc : Nat) (ps : List Nat) (x : Nat) (M : Nat → SH) (hs : ∀ q ∈ M 0, q.holds w') (hnd : (keys (M 0)).Nodup) (hpz : rc.params.size = 2)
    (hL : ∀ i, Res.blk Lp (.loop rc) ∈ M i) (h1 : ∀ i, Res.blk b1 (.cells #[.slice pa ps.length pc] 49 (0, 0)) ∈ M i) (h2 : ∀ i, Res.blk b2 (.cells #[I x] 3 (0, 0)) ∈ M i)
    (hrd : ∀ i, RdS w' (keys (M 0)) (M i) pa (is (ni ps))) (hl : ps.length ≤ 1000000) (hx : x < 2305843009213688669) (hps : ∀ i, ps.getD i 0 < 2305843009213688669) (hpos : ∀ i, i < ps.length → 0 < upQ (ps.eraseIdx i) (ps.getD i 0))
    (hround : ∀ (i : Nat) (_ : i < ps.length) (w2 : World), St w' (keys (M 0)) w2 (M i) →
      RoundIn (Fw none) 0 Tryd.prog Lp rc.fn ((rc.params.zip #[I i, I (basQ (ps.eraseIdx i) (ps.getD i 0) x : Nat)]).foldl (fun tmps (t, a) => tmps.setIfInBounds t a) rc.tmps) rc.assign rc.body w2 fun e' w3 => ∃ _ : Unit, True ∧ e' = .returned (.bool true) ∧ St w' (keys (M 0)) w3 (M (i + 1))) :
    Calls Tryd.prog 70 #[.func (.yield Lp) #[] #[], .pointer (some ⟨b1, 0, none⟩), .pointer (some ⟨b2, 0, none⟩)] w' fun e' w2 => (∃ v, e' = .returned v) ∧ St w' (keys (M 0)) w2 (M ps.length) := by
  refine enterL (args := [.func (.yield Lp) #[] #[], .pointer (some ⟨b1, 0, none⟩), .pointer (some ⟨b2, 0, none⟩)]) Tryd.func70 Tryd.ntmps70 hs hnd ?_
  refine c_seq <| c_reg <| s_y (y_ld (b := b1) (hm := h1 0) (v := .slice pa ps.length pc)) <| s_y y_len <| s_y y_mv <| s_nil <| q_then <| c_block <| ?_
  refine c_loop (fun i : Nat => [(0, .func (.yield Lp) #[] #[]), (1, .pointer (some ⟨b1, 0, none⟩)), (2, .pointer (some ⟨b2, 0, none⟩)), (18, .slice pa ps.length pc), (19, I ps.length), (20, I i)]) M (fun i => i ≤ ps.length) (fun i => ps.length - i) 0 (Nat.zero_le _) ⟨rfl, rfl, rfl, rfl, rfl, rfl, trivial⟩ (.refl _) ?_
  intro i hi
  by_cases hil : i < ps.length
  · obtain ⟨a, ha⟩ : ∃ a, ps.getD i 0 = a := ⟨_, rfl⟩
    have haq : a < 2305843009213688669 := by rw [← ha]; exact hps i
    have hpi := hpos i hil
    refine c_seq <| c_reg <| s_kt (y_lss (p := ((i : Nat) : Int)) (q := ((ps.length : Nat) : Int))) (by omega) <| s_nil <| q_then <| c_seq <| c_t <| c_skip <| q_then <| c_seq <| c_block <| c_seq <| c_reg <| s_y y_mv <| s_y (y_ixs1 (xs := is (ni ps)) (hr := hrd i) (hl := by rw [is_length, ni_length]; omega)) <| s_y (y_ldi (i := i) (q := ni ps) (hr := hrd i) (hi := by rw [ni_length]; omega)) <| ?_
    rw [ni_get, ha]
    refine s_y y_as <| s_y y_as <| s_nil <| q_then <| c_seq <| c_reg <| s_y y_as <| s_y y_as <| s_nil <| q_then <| c_seq <| c_seq <| c_reg <| s_y (y_ld (b := b1) (hm := h1 i) (v := .slice pa ps.length pc)) <| s_y y_len <| s_y y_mv <| s_nil <| q_then <| c_block <| ?_
    refine c_loop (fun k : Nat => [(0, .func (.yield Lp) #[] #[]), (1, .pointer (some ⟨b1, 0, none⟩)), (2, .pointer (some ⟨b2, 0, none⟩)), (18, .slice pa ps.length pc), (19, I ps.length), (20, I i), (4, I i), (5, I a), (6, I (upQ ((ps.take k).eraseIdx i) x : Nat)), (7, I (upQ ((ps.take k).eraseIdx i) a : Nat)), (25, .slice pa ps.length pc), (26, I ps.length), (27, I k)]) (fun _ => M i) (fun k => k ≤ ps.length) (fun k => ps.length - k) 0 (Nat.zero_le _) ⟨rfl, rfl, rfl, rfl, rfl, rfl, rfl, rfl, rfl, rfl, rfl, rfl, rfl, trivial⟩ (.refl _) ?_
    intro k hk
    by_cases hkl : k < ps.length
    · have htk : (ps.take k).length = k := by rw [List.length_take]; omega
      refine c_seq <| c_reg <| s_kt (y_lss (p := ((k : Nat) : Int)) (q := ((ps.length : Nat) : Int))) (by omega) <| s_nil <| q_then <| c_seq <| c_t <| c_skip <| q_then <| c_seq <| c_block <| c_seq <| c_reg <| s_y y_mv <| s_y (y_ixs1 (xs := is (ni ps)) (hr := hrd i) (hl := by rw [is_length, ni_length]; omega)) <| s_y (y_ldi (i := k) (q := ni ps) (hr := hrd i) (hi := by rw [ni_length]; omega)) <| ?_
      rw [ni_get]
      obtain ⟨b, hb⟩ : ∃ b, ps.getD k 0 = b := ⟨_, rfl⟩
      have hbq : b < 2305843009213688669 := by rw [← hb]; exact hps k
      rw [hb]
      refine s_y y_as <| s_y y_as <| s_nil <| q_then <| c_seq <| c_seq <| c_reg <| s_y y_mv <| s_y y_mv <| ?_
      by_cases hki : k = i
      · subst hki
        refine s_kt (y_eql (p := ((k : Nat) : Int)) (q := ((k : Nat) : Int))) rfl <| s_nil <| q_then <| c_t <| c_exit <| q_ex <| q_exb <| q_then <| c_reg <| s_y (y_add (p := ((k : Nat) : Int)) (q := 1)) <| s_y y_mv <| s_nil <| ?_
        rw [show ((k : Nat) : Int) + 1 = ((k + 1 : Nat) : Int) by omega]
        have e : (ps.take (k + 1)).eraseIdx k = (ps.take k).eraseIdx k := by
          rw [take_snoc ps k hkl]
          have := er_eq (ps.take k) (ps.getD k 0)
          rwa [htk] at this
        rw [← e]
        exact q_round (k + 1) hkl (by omega) ⟨rfl, rfl, rfl, rfl, rfl, rfl, rfl, rfl, rfl, rfl, rfl, rfl, rfl, trivial⟩ (.refl _)
      · obtain ⟨u, hu⟩ : ∃ u, upQ ((ps.take k).eraseIdx i) x = u := ⟨_, rfl⟩
        obtain ⟨v, hv⟩ : ∃ v, upQ ((ps.take k).eraseIdx i) a = v := ⟨_, rfl⟩
        have huq : u < 2305843009213688669 := by rw [← hu]; exact upQ_lt _ _
        have hvq : v < 2305843009213688669 := by rw [← hv]; exact upQ_lt _ _
        have e : ∀ z, upQ ((ps.take (k + 1)).eraseIdx i) z = upQ ((ps.take k).eraseIdx i) z * subQ z b % 2305843009213688669 := fun z => by
          rw [take_snoc ps k hkl, er_ne _ _ _ (by rw [htk]; exact hki), upQ_snoc, hb]
        have ex := e x
        have ea := e a
        rw [hu] at ex ⊢
        rw [hv] at ea ⊢
        have hsx := subQ_lt x b
        have hsa := subQ_lt a b
        refine s_kf (y_eql (p := ((k : Nat) : Int)) (q := ((i : Nat) : Int))) (by omega) <| s_nil <| q_then <| c_f <| c_skip <| q_then <| ?_
        refine c_seq <| c_reg <| s_y (y_ld (b := b2) (hm := h2 i) (v := I x)) <| s_y y_mv <| s_pure (fun w' hw => f_Sub_yes w' x b hx hbq) <| s_y y_mv <| s_y y_ext <| s_y y_ext <| s_y y_as <| s_y y_as <| s_nil <| q_then <| ?_
        refine c_seq <| c_reg <| s_y y_mv <| s_y y_mv <| s_pure (fun w' hw => f_Sub_yes w' a b haq hbq) <| s_y y_mv <| s_y y_ext <| s_y y_ext <| s_y y_as <| s_y y_as <| s_nil <| q_then <| ?_
        refine c_seq <| c_reg <| s_y y_mv <| s_y y_mv <| s_pure (fun w' hw => f_Mul_yes w' u (subQ x b) huq hsx) <| s_y y_mv <| s_y y_ext <| s_y y_ext <| s_y y_as <| s_nil <| q_then <| ?_
        refine c_reg <| s_y y_mv <| s_y y_mv <| s_pure (fun w' hw => f_Mul_yes w' v (subQ a b) hvq hsa) <| s_y y_mv <| s_y y_ext <| s_y y_ext <| s_y y_as <| s_nil <| q_nb <| q_then <| ?_
        refine c_reg <| s_y (y_add (p := ((k : Nat) : Int)) (q := 1)) <| s_y y_mv <| s_nil <| ?_
        rw [show ((k : Nat) : Int) + 1 = ((k + 1 : Nat) : Int) by omega, ← ex, ← ea]
        exact q_round (k + 1) hkl (by omega) ⟨rfl, rfl, rfl, rfl, rfl, rfl, rfl, rfl, rfl, rfl, rfl, rfl, rfl, trivial⟩ (.refl _)
    · obtain rfl : k = ps.length := by omega
      rw [List.take_length]
      obtain ⟨u, hu⟩ : ∃ u, upQ (ps.eraseIdx i) x = u := ⟨_, rfl⟩
      obtain ⟨v, hv⟩ : ∃ v, upQ (ps.eraseIdx i) a = v := ⟨_, rfl⟩
      have huq : u < 2305843009213688669 := by rw [← hu]; exact upQ_lt _ _
      have hvq : v < 2305843009213688669 := by rw [← hv]; exact upQ_lt _ _
      have hbas : basQ (ps.eraseIdx i) a x = u * qq v 2305843009213688667 % 2305843009213688669 := by rw [basQ, hu, hv]
      have hr := hround i hil
      rw [ha] at hpi
      rw [ha, hbas] at hr
      rw [hv] at hpi
      rw [hu, hv]
      refine c_seq <| c_reg <| s_kf (y_lss (p := ((ps.length : Nat) : Int)) (q := ((ps.length : Nat) : Int))) (by omega) <| s_nil <| q_then <| c_seq <| c_f <| c_exit <| q_ex <| q_ex <| q_exb <| q_then <| ?_
      refine c_seq <| c_reg <| s_y y_mv <| s_pure (fun w' hw => f_Inv_yes w' v hpi hvq) <| s_y y_mv <| s_y y_ext <| s_y y_ext <| s_y y_as <| s_y y_as <| s_nil <| q_then <| ?_
      refine c_seq <| c_reg <| s_y y_mv <| s_y y_mv <| s_pure (fun w' hw => f_Mul_yes w' u (qq v 2305843009213688667) huq (qq_lt _ _)) <| s_y y_mv <| s_y y_ext <| s_y y_ext <| s_y y_as <| s_y y_as <| s_nil <| q_then <| ?_
      refine c_seq <| c_reg <| s_y y_mv <| s_y y_mv <| s_y y_mv <| ?_
      refine s_yield2 (L := Lp) (rc := rc) (σ := Unit) (fun _ => .bool true) (fun _ => M (i + 1)) (fun _ => True) (hL i) hpz (fun w2 h2 => hr w2 h2) (fun _ _ => ?_)
      refine s_y (v := .bool false) (y_not (b := true)) <| s_nil <| q_then <| c_f <| c_skip <| q_nb <| q_then <| c_reg <| s_y (y_add (p := ((i : Nat) : Int)) (q := 1)) <| s_y y_mv <| s_nil <| ?_
      rw [show ((i : Nat) : Int) + 1 = ((i + 1 : Nat) : Int) by omega]
      exact q_round (i + 1) hil (by omega) ⟨rfl, rfl, rfl, rfl, rfl, rfl, trivial⟩ (.refl _)
  · obtain rfl : i = ps.length := by omega
    refine c_seq <| c_reg <| s_kf (y_lss (p := ((ps.length : Nat) : Int)) (q := ((ps.length : Nat) : Int))) (by omega) <| s_nil <| q_then <| c_seq <| c_f <| c_exit <| q_ex <| q_ex <| q_exb <| ?_
    exact ret0 Tryd.results70 (fun w2 h2 => ⟨⟨_, rfl⟩, h2⟩) _ (.inr rfl)
end Go.Proofs.YtnmaegbobfngeaaDoor
