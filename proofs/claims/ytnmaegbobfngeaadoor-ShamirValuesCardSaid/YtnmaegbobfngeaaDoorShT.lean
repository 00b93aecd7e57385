/- Shares: contracts as the laws use them; chosen, joined. -/
import Derived.Test.YtnmaegbobfngeaaDoorShS
namespace Eng
open Go Go.RowKit
section
variable {r : Option Nat} {P : Program} {n : Nat} {D : List Deferred} {W : World} {Bo : List Nat} {F : List (Nat × Value)} {l l' : SH}
  {dd : Nat} {ty : TypeId} {ps : String} {af : Array Edge} {g : Option (Nat × Bool)} {x y : Operand} {v : Value} {t e : TypeId}
  {Q : Exit → Act → World → Prop} {ops : Array Oper} {rest : List Oper}
/-- store of one cell into a slice of structs that owns its memory -/
theorem s_strS {by' : Nat} [hs : HS P t 1 by'] {a : Option Addr} {i cc k s : Nat} {et : TypeId} {xs : List Value} (h : LP r P n D W Bo ops Q rest F l')
    (hx : evO F x = some (.pointer (some (ad a i))) := by rfl) (hv : evO F y = some v := by rfl)
    (hr : Rep (.row a cc et s k xs) (.row a cc et s k (xs.set i v)) l l' := by repeat (first | exact .head _ | apply Rep.tail)) (hi : i < xs.length) (h1 : v.oneCell' = true := by rfl) (hg : Wn ops F g := by first | exact .none | exact .some rfl rfl) :
    LP r P n D W Bo ops Q (⟨none, .store t x y, ty, ps, af, g⟩ :: rest) F l := by
  refine s_unit (by simp) (fun ac w ha hw => ?_) (hg := hg) (h := h)
  obtain ⟨hl, hkc, hown⟩ := (hw.own _ hr.mem).1
  rcases hown with ⟨rfl, rfl⟩ | ⟨b, cur, rfl, hb, hcm, hcs, htake⟩
  · obtain rfl : k = 0 := by omega
    rw [Nat.zero_mul] at hl
    omega
  · have hc : v.cells = #[v] := by cases v <;> first | rfl | simp [Value.oneCell'] at h1
    have hks : k * s ≤ cc * s := Nat.mul_le_mul_right s hkc
    have hlt : i < cur.size := by rw [hcs]; omega
    have h2 := run_storeCells_at P b i et [v] 0 cur w hb (by simp; omega) (by simpa using h1)
    have e1 : (cur.toList.take (i + 0) ++ [v] ++ cur.toList.drop (i + 0 + [v].length)).toArray = cur.setIfInBounds i v := by
      apply Array.ext'
      simp [List.set_eq_take_append_cons_drop, hlt]
    rw [e1] at h2
    refine ⟨w.setRow b (cur.setIfInBounds i v), ?_, hw.change hr rfl rfl rfl (by simp) (fun k _ hk => setRow_other w b _ k (fun e => hk (by rw [e]; rfl))) ⟨by simpa using hl, hkc, .inr ⟨b, _, rfl, setRow_heap w b cur _ et (0, 0) hb, hcm, by simpa using hcs, ?_⟩⟩ (fun k hk => .inl hk)⟩
    · simp only [execOp, ha.eval hx, ha.eval hv, Instr.storeAt, Instr.sureAddr, storeVar, Sem.run_bind, Sem.run_pure, Result.andThen_ok, run_sizeOf' hs, hc, ad, Option.getD_some, Nat.zero_add]
      rw [if_neg (by simp)]
      rw [h2]
      rfl
    · rw [Array.toList_setIfInBounds, ← htake, List.take_set]
end
end Eng
namespace Gf
open Go Eng
/-- the shares that are taken -/
def chN : List (Nat × Nat) → List Bool → List (Nat × Nat)
  | [], _ => []
  | _ :: _, [] => []
  | s :: l, b :: t => match b with
    | true => s :: chN l t
    | false => chN l t
theorem chN_sub : ∀ (l : List (Nat × Nat)) (t : List Bool), (chN l t).Sublist l
  | [], _ => .slnil
  | _ :: _, [] => List.nil_sublist _
  | s :: l, true :: t => (chN_sub l t).cons_cons s
  | s :: l, false :: t => (chN_sub l t).cons s
theorem chN_nil (l : List (Nat × Nat)) : chN l [] = [] := by cases l <;> rfl
theorem shc_one (l : List (Int × Int)) : ∀ v ∈ shc l, v.oneCell' = true := by
  intro v hv
  obtain ⟨s, _, hs⟩ := List.mem_flatMap.1 hv
  simp only [List.mem_cons, List.not_mem_nil, or_false] at hs
  rcases hs with rfl | rfl <;> rfl
theorem shc_slen (l : List (Nat × Nat)) {n : Nat} (h : l.length = n) : (shc (sN l)).length = n * 2 := by rw [shc_length, sN_length, h]
end Gf
namespace Go.Proofs.YtnmaegbobfngeaaDoor
open Go Eng Gf Cod
set_option maxRecDepth 100000
section
variable (w : World) (a : Option Addr) (c n : Nat) (L : List (Nat × Nat)) (hv : Vld L) (hn : L.length = n) (hr : Rd w a (shc (sN L)))
include hv hn hr
theorem ckW : Pure Tryd.prog 18 [.slice a n c] w (I 0) := by
  subst hn
  have h := s_Check_ok w a c (sN L) hr (by rw [sN_length]; have := hv.le; omega)
  rwa [sN_length, hv.ch] at h
theorem r8ckW : Pure Tryd.prog 20 [.slice a n c] w (I 0) := by
  subst hn
  have h := r8_Check_ok w a c (sN L) hr (by rw [sN_length]; have := hv.le; omega)
  rwa [sN_length, hv.ch] at h
theorem jnW : Pure Tryd.prog 19 [.slice a n c] w (.tuple #[I (valQ L 0 : Nat), I 0]) := by
  subst hn
  have h := s_Join_ok w a c (sN L) hr (by rw [sN_length]; have := hv.le; omega)
  rwa [sN_length, hv.ch, hv.jn] at h
theorem ftW (hk : n ≤ c) (k : Nat) (h1 : 1 ≤ k) (h2 : k ≤ 64) : Pure Tryd.prog 11 [.slice a n c, I k] w (.tuple #[.bool (ftV L k), I 0]) := by
  subst hn
  exact s_Fits_yes w a c L k hv hv.ch hk hr h1 h2
theorem ftWb (hk : n ≤ c) (k : Int) (h1 : ¬ (1 ≤ k ∧ k ≤ 64)) : Pure Tryd.prog 11 [.slice a n c, I k] w (.tuple #[.bool false, I 1]) := by
  subst hn
  have h := s_Fits_ok w a c (sN L) k (by rw [sN_length]; exact hk) hr (by rw [sN_length]; have := hv.le; omega)
  rw [sN_length] at h
  rw [ftB, ftE, if_neg (fun h2 => h1 h2.2), if_pos hv.ch, if_neg h1] at h
  exact h
end
theorem ckNil (w : World) : Pure Tryd.prog 18 [.slice none 0 0] w (I 80) := s_Check_ok w none 0 [] (Rd.nil _ _) (by decide)
theorem sameW (w : World) (a a' : Option Addr) (c c' n : Nat) (L : List (Nat × Nat)) (hn : L.length = n) (hr : Rd w a (shc (sN L))) (hr' : Rd w a' (shc (sN L))) (hl : n < 1000000000000000000) : Pure Tryd.prog 15 [.slice a n c, .slice a' n c'] w (.bool true) := by
  subst hn
  have h := SameS_ok w a a' c c' (sN L) hr hr' (by rw [sN_length]; exact hl)
  rwa [sN_length] at h
theorem sumW (w : World) (a b : Option Addr) (c c' n m : Nat) (A B : List (Nat × Nat)) (hva : Vld A) (hvb : Vld B) (hp : pl A = pl B) (hn : A.length = n) (hm : B.length = m) (hr : Rd w a (shc (sN A))) (hr' : Rd w b (shc (sN B))) :
    Gives Tryd.prog 13 [.slice a n c, .slice b m c'] w [] (fun y : Option Addr × Nat => .tuple #[.slice y.1 n y.2, I 0]) (fun y => [.row y.1 y.2 42 2 n (shc (sN (smS A B)))]) (fun _ => True) := by
  subst hn hm
  have h := s_Sum_ok w a b c c' (sN A) (sN B) hr hr' (by rw [sN_length]; have := hva.le; omega) (by rw [sN_length]; have := hvb.le; omega)
  obtain ⟨r1, r2⟩ := smE_y hva.ch hvb.ch (by rw [sN_pl, sN_pl, hp])
  rw [sN_length, sN_length, r1, r2, toN_sN, toN_sN, smS_length hp] at h
  exact h
theorem sumWb (w : World) (a b : Option Addr) (c c' : Nat) (p q : List (Int × Int)) (hr : Rd w a (shc p)) (hr' : Rd w b (shc q)) (hl : p.length < 1000000000000000000) (hl' : q.length < 1000000000000000000) (h : smE p q ≠ 0) :
    Gives Tryd.prog 13 [.slice a p.length c, .slice b q.length c'] w [] (fun y : Option Addr × Nat => .tuple #[.slice y.1 0 y.2, I (smE p q)]) (fun _ => []) (fun _ => True) := by
  have h9 := s_Sum_ok w a b c c' p q hr hr' hl hl'
  rw [show smL p q = [] by rw [smL, if_neg h]] at h9
  exact h9.mono fun e w' ⟨y, h1, h2, h3⟩ => ⟨y, h1, h2, h3.sub (List.nil_sublist _)⟩
theorem joined_ok (w : World) (a : Option Addr) (c A y : Nat) (L : List (Nat × Nat)) (hv : Vld (L ++ [(A, y)])) (hr : Rd w a (shc (sN L))) :
    Pure Tryd.prog 21 [.slice a L.length c, I A, I y] w (.tuple #[I (valQ (L ++ [(A, y)]) 0 : Nat), I 0]) := by
  have hle := hv.le
  rw [List.length_append] at hle
  refine enter Tryd.func21 Tryd.ntmps21 ?_
  refine c_seq <| c_reg <| s_y y_as <| s_y y_as <| s_nil <| q_then <| c_seq <| c_reg <| s_bsl0 fun b8 => s_y y_mv <| s_app (m := L.length) (fun w' hw => Src.slice (hr.st hw) (shc_slen L rfl)) (h1 := shc_one _) (hm := .head _) (hrep := fun _ _ => .head _) fun a10 c10 h10 => ?_
  rw [List.nil_append]
  refine s_y y_mv <| s_y y_mv <| s_y (y_bshr (cs := [I A, I y])) <| s_bslr (cs := shc (sN [(A, y)])) fun b14 => s_app (m := 1) (fun w' hw => Src.slice (rdR (.head _) w' hw) rfl) (h1 := shc_one _) (hm := .tail _ (.head _)) (hrep := fun _ _ => .tail _ (.head _)) fun a15 c15 h15 => ?_
  rw [← shc_append, ← sN_append']
  refine s_pure (fun w' hw => jnW w' a15 c15 (0 + L.length + 1) (L ++ [(A, y)]) hv (by rw [List.length_append, List.length_singleton]; omega) (rdR (.tail _ (.head _)) w' hw)) <| s_y y_ext <| s_y y_ext <| s_y y_as <| s_y y_as <| s_nil <| q_then <| c_ret <| ?_
  exact ret2 Tryd.results21 rv_t rv_t fun w' hw => ⟨rfl, hw.sub (List.nil_sublist _)⟩
theorem chosen_ok (w : World) (a ta : Option Addr) (c tc n : Nat) (l : List (Nat × Nat)) (t : List Bool) (hn : l.length = n) (hr : Rd w a (shc (sN l))) (hrt : Rd w ta (t.map Value.bool)) (hl : l.length ≤ 1000000) :
    Gives Tryd.prog 17 [.slice a n c, .slice ta t.length tc] w [] (fun y : Option Addr × Nat => .slice y.1 (chN l t).length y.2) (fun y => [.row y.1 y.2 42 2 (chN l t).length (shc (sN (chN l t)))]) (fun _ => True) := by
  subst hn
  have hcl : l.length ≤ (shc (sN l)).length := by rw [shc_length, sN_length]; omega
  refine enter Tryd.func17 Tryd.ntmps17 ?_
  refine c_seq <| c_reg <| s_y y_as <| s_nil <| q_then <| c_seq <| c_reg <| s_y y_as <| s_nil <| q_then <| c_seq <| c_seq <| c_reg <| s_y y_as <| s_nil <| q_then <| c_nilrow 42 2 <| c_block <| ?_
  refine c_loop4 (fun (q : List (Nat × Nat) × List (Nat × Nat)) (acc : List (Nat × Nat)) (a2 : Option Addr) (c2 : Nat) => [(0, .slice a l.length c), (1, .slice ta t.length tc), (5, .slice a2 acc.length c2), (6, I q.1.length)]) (fun _ acc a2 c2 => [.row a2 c2 42 2 acc.length (shc (sN acc))]) (fun q acc _ _ => l = q.1 ++ q.2 ∧ chN l t = acc ++ chN q.2 (t.drop q.1.length) ∧ acc.length ≤ q.1.length) (fun q _ _ _ => q.2.length) ([], l) [] none 0 ⟨rfl, rfl, Nat.le_refl _⟩ ⟨rfl, rfl, rfl, rfl, trivial⟩ (.refl _) ?_
  rintro ⟨d, r⟩ acc a2 c2 ⟨e1, e2, e3⟩
  simp only at e1 e2 e3
  have hlen : l.length = d.length + r.length := by rw [e1, List.length_append]
  cases r with
  | nil =>
    rw [List.length_nil, Nat.add_zero] at hlen
    have e4 : chN l t = acc := by rw [e2, chN, List.append_nil]
    rw [e4]
    refine c_seq <| c_seq <| c_reg <| s_y y_mv <| s_y y_mv <| s_y y_len <| s_kf (y_lss (p := ((d.length : Nat) : Int)) (q := ((l.length : Nat) : Int))) (by omega) <| s_nil <| q_then <| c_f <| c_exit <| q_ex <| q_ex <| q_exb <| q_then <| c_seq <| c_reg <| s_y y_mv <| s_y y_as <| s_nil <| q_then <| c_ret <| ?_
    exact ret1 Tryd.results17 rv_t fun w' hw => ⟨(a2, c2), trivial, rfl, hw⟩
  | cons s r =>
    rw [List.length_cons] at hlen
    have hm := fun j v h => shc_mid (sN d) ((s.1 : Int), (s.2 : Int)) (sN r) j v h
    have e5 : sN d ++ ((s.1 : Int), (s.2 : Int)) :: sN r = sN l := by rw [e1]; unfold sN; rw [List.map_append, List.map_cons]
    rw [e5, sN_length] at hm
    have nx : ∀ (acc' : List (Nat × Nat)), chN l t = acc' ++ chN r (t.drop (d ++ [s]).length) → acc'.length ≤ (d ++ [s]).length → (l = (d ++ [s]) ++ r ∧ chN l t = acc' ++ chN r (t.drop (d ++ [s]).length) ∧ acc'.length ≤ (d ++ [s]).length) := fun acc' h h2 => ⟨by rw [e1, List.append_assoc]; rfl, h, h2⟩
    have hds : (d ++ [s]).length = d.length + 1 := by simp
    refine c_seq <| c_seq <| c_reg <| s_y y_mv <| s_y y_mv <| s_y y_len <| s_kt (y_lss (p := ((d.length : Nat) : Int)) (q := ((l.length : Nat) : Int))) (by omega) <| s_nil <| q_then <| c_t <| c_skip <| q_then <| c_seq <| c_block <| c_seq <| c_reg <| s_y y_mv <| s_y y_mv <| s_y y_len <| ?_
    by_cases ht : d.length < t.length
    · have hgd : t.drop d.length = t[d.length] :: t.drop (d.length + 1) := List.drop_eq_getElem_cons ht
      have hat : (t.map Value.bool)[d.length]? = some (.bool t[d.length]) := by rw [List.getElem?_map, List.getElem?_eq_getElem ht]; rfl
      refine s_kt (y_lss (p := ((d.length : Nat) : Int)) (q := ((t.length : Nat) : Int))) (by omega) <| s_y y_mv <| s_y y_mv <| s_y y_mv <| s_y (y_ixs1 (xs := t.map Value.bool) (i := ((d.length : Nat) : Int)) (hr := rdW0 hrt) (hl := by rw [List.length_map]; exact Nat.le_refl _)) <| s_y (y_ldr (i := d.length) (v := .bool t[d.length]) hat rfl (rdW0 hrt)) <| ?_
      rw [hgd] at e2
      cases hb : t[d.length] with
      | true =>
        rw [hb] at e2
        refine s_y y_pk <| s_nil <| q_then <| c_t <| c_reg <| s_y y_mv <| s_y y_mv <| s_y y_mv <| s_y (y_ixs (xs := shc (sN l)) (i := ((d.length : Nat) : Int)) (hr := rdW0 hr) (hl := hcl)) <| s_y (y_ldra (i := d.length * 2) (cs := [I (s.1 : Nat), I (s.2 : Nat)]) (rdW0 hr) rfl hm) <| s_bslr (cs := shc (sN [s])) fun b28 => s_app (m := 1) (fun w' hw => Src.slice (rdR (.head _) w' hw) rfl) (h1 := shc_one _) (hm := .tail _ (.head _)) (hrep := fun _ _ => .tail _ (.head _)) fun a29 c29 h29 => ?_
        rw [← shc_append, ← sN_append']
        refine s_y y_as <| s_nil <| q_nb <| q_then <| c_reg <| s_y y_mv <| s_y (y_add (p := ((d.length : Nat) : Int)) (q := 1)) <| s_y y_as <| s_nil <| ?_
        have h8 : (acc ++ [s]).length = acc.length + 1 := by simp
        rw [show ((d.length : Nat) : Int) + 1 = (((d ++ [s]).length : Nat) : Int) by rw [hds]; omega, ← h8]
        exact q_round4 (x := (d, s :: r)) (y := acc) (z := a2) (u := c2) (d ++ [s], r) (acc ++ [s]) a29 c29 (nx _ (by rw [e2, hds, chN, List.append_assoc]; rfl) (by rw [h8, hds]; omega)) (Nat.lt_succ_self _) ⟨rfl, rfl, rfl, rfl, trivial⟩ (.cons _ (.refl _))
      | false =>
        rw [hb] at e2
        refine s_y y_pk <| s_nil <| q_then <| c_f <| c_skip <| q_nb <| q_then <| c_reg <| s_y y_mv <| s_y (y_add (p := ((d.length : Nat) : Int)) (q := 1)) <| s_y y_as <| s_nil <| ?_
        rw [show ((d.length : Nat) : Int) + 1 = (((d ++ [s]).length : Nat) : Int) by rw [hds]; omega]
        exact q_round4 (x := (d, s :: r)) (y := acc) (z := a2) (u := c2) (d ++ [s], r) acc a2 c2 (nx _ (by rw [e2, hds, chN]) (by rw [hds]; omega)) (Nat.lt_succ_self _) ⟨rfl, rfl, rfl, rfl, trivial⟩ (.refl _)
    · rw [List.drop_eq_nil_of_le (by omega)] at e2
      refine s_kf (y_lss (p := ((d.length : Nat) : Int)) (q := ((t.length : Nat) : Int))) (by omega) <| s_y y_mv <| s_no <| s_no <| s_no <| s_no <| s_y y_pk <| s_nil <| q_then <| c_f <| c_skip <| q_nb <| q_then <| c_reg <| s_y y_mv <| s_y (y_add (p := ((d.length : Nat) : Int)) (q := 1)) <| s_y y_as <| s_nil <| ?_
      rw [show ((d.length : Nat) : Int) + 1 = (((d ++ [s]).length : Nat) : Int) by rw [hds]; omega]
      exact q_round4 (x := (d, s :: r)) (y := acc) (z := a2) (u := c2) (d ++ [s], r) acc a2 c2 (nx _ (by rw [e2, List.drop_eq_nil_of_le (by rw [hds]; omega), chN_nil (s :: r), chN_nil r]) (by rw [hds]; omega)) (Nat.lt_succ_self _) ⟨rfl, rfl, rfl, rfl, trivial⟩ (.refl _)
end Go.Proofs.YtnmaegbobfngeaaDoor
