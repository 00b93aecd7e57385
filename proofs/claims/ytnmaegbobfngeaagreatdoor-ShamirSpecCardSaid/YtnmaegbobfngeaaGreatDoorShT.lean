/- Shares: contracts as the laws use them; chosen, joined. -/
import Derived.Test.YtnmaegbobfngeaaGreatDoorShS
namespace Eng
open Go Go.RowKit
section
variable {r : Option Nat} {P : Program} {n : Nat} {D : List Deferred} {W : World} {Bo : List Nat} {F : List (Nat × Value)} {l l' : SH}
  {dd : Nat} {ty : TypeId} {ps : String} {af : Array Edge} {g : Option (Nat × Bool)} {x y : Operand} {v : Value} {t e : TypeId}
  {Q : Exit → Act → World → Prop} {ops : Array Oper} {rest : List Oper}
/-- store of one cell into a slice of structs that owns its memory -/
theorem s_strS {by' : Nat} [hs : HS P t 1 by'] {a : Option Addr} {i cc k s : Nat} {et : TypeId} {xs : List Value} (h : LP r P n D W Bo ops Q rest F l')
    (hx : evO F x = some (.pointer (some (ad a i))) := by rfl) (hv : evO F y = some v := by rfl)
    (hr : Rep (.row a cc et s k xs) (.row a cc et s k (xs.set i v)) l l' := by repeat (first | exact .head _ | apply Rep.tail)) (hi : i < xs.length) (h1 : v.oneCell' = true := by rfl) (hg : Wn ops F g := by first | exact .none | exact .some rfl rfl) :
    LP r P n D W Bo ops Q (⟨none, .store t x y, ty, ps, af, g⟩ :: rest) F l := by
  refine s_unit (by simp) (fun ac w ha hw => ?_) (hg := hg) (h := h)
  obtain ⟨hl, hkc, hown⟩ := (hw.own _ hr.mem).1
  rcases hown with ⟨rfl, rfl⟩ | ⟨b, cur, rfl, hb, hcm, hcs, htake⟩
  · obtain rfl : k = 0 := by omega
    rw [Nat.zero_mul] at hl
    omega
  · have hc : v.cells = #[v] := by cases v <;> first | rfl | simp [Value.oneCell'] at h1
    have hks : k * s ≤ cc * s := Nat.mul_le_mul_right s hkc
    have hlt : i < cur.size := by rw [hcs]; omega
    have h2 := run_storeCells_at P b i et [v] 0 cur w hb (by simp; omega) (by simpa using h1)
    have e1 : (cur.toList.take (i + 0) ++ [v] ++ cur.toList.drop (i + 0 + [v].length)).toArray = cur.setIfInBounds i v := by
      apply Array.ext'
      simp [List.set_eq_take_append_cons_drop, hlt]
    rw [e1] at h2
    refine ⟨w.setRow b (cur.setIfInBounds i v), ?_, hw.change hr rfl rfl rfl (by simp) (fun k _ hk => setRow_other w b _ k (fun e => hk (by rw [e]; rfl))) ⟨by simpa using hl, hkc, .inr ⟨b, _, rfl, setRow_heap w b cur _ et (0, 0) hb, hcm, by simpa using hcs, ?_⟩⟩ (fun k hk => .inl hk)⟩
    · simp only [execOp, ha.eval hx, ha.eval hv, Instr.storeAt, Instr.sureAddr, storeVar, Sem.run_bind, Sem.run_pure, Result.andThen_ok, run_sizeOf' hs, hc, ad, Option.getD_some, Nat.zero_add]
      rw [if_neg (by simp)]
      rw [h2]
      rfl
    · rw [Array.toList_setIfInBounds, ← htake, List.take_set]
end
end Eng
namespace Gf
open Go Eng
/-- the shares that are taken -/
def chN : List (Nat × Nat) → List Bool → List (Nat × Nat)
  | [], _ => []
  | _ :: _, [] => []
  | s :: l, b :: t => match b with
    | true => s :: chN l t
    | false => chN l t
theorem chN_sub : ∀ (l : List (Nat × Nat)) (t : List Bool), (chN l t).Sublist l
  | [], _ => .slnil
  | _ :: _, [] => List.nil_sublist _
  | s :: l, true :: t => (chN_sub l t).cons_cons s
  | s :: l, false :: t => (chN_sub l t).cons s
theorem chN_nil (l : List (Nat × Nat)) : chN l [] = [] := by cases l <;> rfl
theorem shc_one (l : List (Int × Int)) : ∀ v ∈ shc l, v.oneCell' = true := by
  intro v hv
  obtain ⟨s, _, hs⟩ := List.mem_flatMap.1 hv
  simp only [List.mem_cons, List.not_mem_nil, or_false] at hs
  rcases hs with rfl | rfl <;> rfl
theorem shc_slen (l : List (Nat × Nat)) {n : Nat} (h : l.length = n) : (shc (sN l)).length = n * 2 := by rw [shc_length, sN_length, h]
end Gf
namespace Go.Proofs.YtnmaegbobfngeaaGreatDoor
open Go Eng Gf Cod
set_option maxRecDepth 100000
section
variable (w : World) (a : Option Addr) (c n : Nat) (L : List (Nat × Nat)) (hv : Vld L) (hn : L.length = n) (hr : Rd w a (shc (sN L)))
include hv hn hr
theorem ckW : Pure Tryz.prog 11 [.slice a n c] w (I 0) := by
  subst hn
  have h := s_Check_ok w a c (sN L) hr (by rw [sN_length]; have := hv.le; omega)
  rwa [sN_length, hv.ch] at h
theorem r8ckW : Pure Tryz.prog 12 [.slice a n c] w (I 0) := by
  subst hn
  have h := r8_Check_ok w a c (sN L) hr (by rw [sN_length]; have := hv.le; omega)
  rwa [sN_length, hv.ch] at h
theorem jnW : Pure Tryz.prog 8 [.slice a n c] w (.tuple #[I (valQ L 0 : Nat), I 0]) := by
  subst hn
  have h := s_Join_ok w a c (sN L) hr (by rw [sN_length]; have := hv.le; omega)
  rwa [sN_length, hv.ch, hv.jn] at h
theorem ftW (hk : n ≤ c) (k : Nat) (h1 : 1 ≤ k) (h2 : k ≤ 64) : Pure Tryz.prog 13 [.slice a n c, I k] w (.tuple #[.bool (ftV L k), I 0]) := by
  subst hn
  exact s_Fits_yes w a c L k hv hv.ch hk hr h1 h2
theorem ftWb (hk : n ≤ c) (k : Int) (h1 : ¬ (1 ≤ k ∧ k ≤ 64)) : Pure Tryz.prog 13 [.slice a n c, I k] w (.tuple #[.bool false, I 1]) := by
  subst hn
  have h := s_Fits_ok w a c (sN L) k (by rw [sN_length]; exact hk) hr (by rw [sN_length]; have := hv.le; omega)
  rw [sN_length] at h
  rw [ftB, ftE, if_neg (fun h2 => h1 h2.2), if_pos hv.ch, if_neg h1] at h
  exact h
end
theorem ckNil (w : World) : Pure Tryz.prog 11 [.slice none 0 0] w (I 80) := s_Check_ok w none 0 [] (Rd.nil _ _) (by decide)
theorem sameW (w : World) (a a' : Option Addr) (c c' n : Nat) (L : List (Nat × Nat)) (hn : L.length = n) (hr : Rd w a (shc (sN L))) (hr' : Rd w a' (shc (sN L))) (hl : n < 1000000000000000000) : Pure Tryz.prog 10 [.slice a n c, .slice a' n c'] w (.bool true) := by
  subst hn
  have h := SameS_ok w a a' c c' (sN L) hr hr' (by rw [sN_length]; exact hl)
  rwa [sN_length] at h
theorem sumW (w : World) (a b : Option Addr) (c c' n m : Nat) (A B : List (Nat × Nat)) (hva : Vld A) (hvb : Vld B) (hp : pl A = pl B) (hn : A.length = n) (hm : B.length = m) (hr : Rd w a (shc (sN A))) (hr' : Rd w b (shc (sN B))) :
    Gives Tryz.prog 14 [.slice a n c, .slice b m c'] w [] (fun y : Option Addr × Nat => .tuple #[.slice y.1 n y.2, I 0]) (fun y => [.row y.1 y.2 36 2 n (shc (sN (smS A B)))]) (fun _ => True) := by
  subst hn hm
  have h := s_Sum_ok w a b c c' (sN A) (sN B) hr hr' (by rw [sN_length]; have := hva.le; omega) (by rw [sN_length]; have := hvb.le; omega)
  obtain ⟨r1, r2⟩ := smE_y hva.ch hvb.ch (by rw [sN_pl, sN_pl, hp])
  rw [sN_length, sN_length, r1, r2, toN_sN, toN_sN, smS_length hp] at h
  exact h
theorem sumWb (w : World) (a b : Option Addr) (c c' : Nat) (p q : List (Int × Int)) (hr : Rd w a (shc p)) (hr' : Rd w b (shc q)) (hl : p.length < 1000000000000000000) (hl' : q.length < 1000000000000000000) (h : smE p q ≠ 0) :
    Gives Tryz.prog 14 [.slice a p.length c, .slice b q.length c'] w [] (fun y : Option Addr × Nat => .tuple #[.slice y.1 0 y.2, I (smE p q)]) (fun _ => []) (fun _ => True) := by
  have h9 := s_Sum_ok w a b c c' p q hr hr' hl hl'
  rw [show smL p q = [] by rw [smL, if_neg h]] at h9
  exact h9.mono fun e w' ⟨y, h1, h2, h3⟩ => ⟨y, h1, h2, h3.sub (List.nil_sublist _)⟩
end Go.Proofs.YtnmaegbobfngeaaGreatDoor
