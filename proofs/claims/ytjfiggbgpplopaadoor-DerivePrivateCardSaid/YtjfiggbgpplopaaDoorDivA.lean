/- 64-bit words: rules, and the length of a word. -/
import Derived.Test.YtjfiggbgpplopaaDoorDerC
namespace Eng
open Go Go.RowKit
section
variable {P : Program} {n : Nat} {D : List Deferred} {W : World} {Bo : List Nat} {F : List (Nat × Value)} {l : SH}
  {d : Option Tmp} {ty : TypeId} {ps : String} {af : Array Edge} {g : Option (Nat × Bool)} {x y : Operand} {ta tb t : TypeId}
theorem wrapU {z : Int} {m : Nat} (h : z % 18446744073709551616 = (m : Int)) : IntKind.u64.wrap z = (m : Int) := by rw [wrap_u64', h]
theorem y_mulW {p q : Nat} (hx : evO F x = some (U p) := by rfl) (hy : evO F y = some (U q) := by rfl) : Y P n D W Bo ⟨d, .binOp .mul ta x y tb, ty, ps, af, g⟩ F l (U (p * q % 18446744073709551616)) :=
  .mk (by simp) fun a w ha _ => by
    have e : IntKind.u64.wrap ((p : Int) * (q : Int)) = ((p * q % 18446744073709551616 : Nat) : Int) := wrapU (by rw [← Int.natCast_mul]; omega)
    simp [execOp, ha.eval hx, ha.eval hy, eqGuard, binOp, Op.intArith, e]
theorem y_addW {p q : Nat} (hx : evO F x = some (U p) := by rfl) (hy : evO F y = some (U q) := by rfl) : Y P n D W Bo ⟨d, .binOp .add ta x y tb, ty, ps, af, g⟩ F l (U ((p + q) % 18446744073709551616)) :=
  .mk (by simp) fun a w ha _ => by
    have e : IntKind.u64.wrap ((p : Int) + (q : Int)) = (((p + q) % 18446744073709551616 : Nat) : Int) := wrapU (by omega)
    simp [execOp, ha.eval hx, ha.eval hy, eqGuard, binOp, Op.intArith, e]
theorem y_subW {p q : Nat} (hx : evO F x = some (U p) := by rfl) (hy : evO F y = some (U q) := by rfl) : Y P n D W Bo ⟨d, .binOp .sub ta x y tb, ty, ps, af, g⟩ F l (U ((p + (18446744073709551616 - q % 18446744073709551616)) % 18446744073709551616)) :=
  .mk (by simp) fun a w ha _ => by
    have e : IntKind.u64.wrap ((p : Int) - (q : Int)) = (((p + (18446744073709551616 - q % 18446744073709551616)) % 18446744073709551616 : Nat) : Int) := wrapU (by omega)
    simp [execOp, ha.eval hx, ha.eval hy, eqGuard, binOp, Op.intArith, e]
theorem y_shlW (m : Nat) {p : Nat} {k' : IntKind} (hx : evO F x = some (U p) := by rfl) (hy : evO F y = some (.int k' (m : Int)) := by rfl) (h1 : m ≤ 64 := by omega) :
    Y P n D W Bo ⟨d, .binOp .shl ta x y tb, ty, ps, af, g⟩ F l (U (p * 2 ^ m % 18446744073709551616)) := by
  have h := y_shlw (P := P) (n := n) (D := D) (W := W) (Bo := Bo) (l := l) (d := d) (ty := ty) (ps := ps) (af := af) (g := g) (ta := ta) (tb := tb) (F := F) m hx hy h1
  have e : IntKind.u64.wrap ((p : Int) * 2 ^ m) = ((p * 2 ^ m % 18446744073709551616 : Nat) : Int) := wrapU (by
    rw [show (p : Int) * 2 ^ m = ((p * 2 ^ m : Nat) : Int) by simp]; omega)
  rwa [e] at h
theorem y_shrW (m : Nat) {p : Nat} {k' : IntKind} (hx : evO F x = some (U p) := by rfl) (hy : evO F y = some (.int k' (m : Int)) := by rfl) (h1 : m ≤ 64 := by omega) :
    Y P n D W Bo ⟨d, .binOp .shr ta x y tb, ty, ps, af, g⟩ F l (U (p / 2 ^ m)) := by
  have h := y_shr (P := P) (n := n) (D := D) (W := W) (Bo := Bo) (l := l) (d := d) (ty := ty) (ps := ps) (af := af) (g := g) (ta := ta) (tb := tb) (F := F) hx hy (by omega) (by simp only [IntKind.bits]; omega)
  rwa [Int.toNat_natCast] at h
theorem y_orU {p q : Nat} (hx : evO F x = some (U p) := by rfl) (hy : evO F y = some (U q) := by rfl) (hp : p < 18446744073709551616 := by omega) (hq : q < 18446744073709551616 := by omega) :
    Y P n D W Bo ⟨d, .binOp .or ta x y tb, ty, ps, af, g⟩ F l (U (p ||| q)) :=
  y_orn hx hy (by simp only [IntKind.bits]; omega) (by simp only [IntKind.bits]; omega) (wrap_u64 (by omega) (by
    have : p ||| q < 2 ^ 64 := Nat.or_lt_two_pow (by omega) (by omega)
    omega))
/-- a byte of a string that is written out -/
theorem y_ixst (j : Nat) [hu : HU P t .string] {s : ByteArray} {b : UInt8} {k : IntKind} {i : Int} (hv : s.data[j]? = some b) (hx : evO F x = some (.string s) := by rfl) (hy : evO F y = some (.int k i) := by rfl) (hj : i = (j : Int) := by omega) :
    Y P n D W Bo ⟨d, .index t x y, ty, ps, af, g⟩ F l (B b) :=
  .mk (by simp) fun a w ha _ => by
    subst hj
    obtain ⟨h1, h2⟩ := Array.getElem?_eq_some_iff.1 hv
    have h3 : (0 : Int) ≤ (j : Int) ∧ (j : Int) < (s.size : Int) := ⟨by omega, by show (j : Int) < (s.data.size : Int); omega⟩
    simp [execOp, ha.eval hx, ha.eval hy, Instr.index, asIntOf, run_underlying hu.h]
    have h4 : s[j]? = some b := by
      rw [getElem?_pos s j (by show j < s.data.size; exact h1)]
      exact congrArg some h2
    simp [h4]
end
end Eng
namespace Go.Proofs.YtjfiggbgpplopaaDoor
open Go Eng

def tab8 : List UInt8 := [0, 1, 2, 2, 3, 3, 3, 3, 4, 4, 4, 4, 4, 4, 4, 4, 5, 5, 5, 5, 5, 5, 5, 5, 5, 5, 5, 5, 5, 5, 5, 5, 6, 6, 6, 6, 6, 6, 6, 6, 6, 6, 6, 6, 6, 6, 6, 6, 6, 6, 6, 6, 6, 6, 6, 6, 6, 6, 6, 6, 6, 6, 6, 6, 7, 7, 7, 7, 7, 7, 7, 7, 7, 7, 7, 7, 7, 7, 7, 7, 7, 7, 7, 7, 7, 7, 7, 7, 7, 7, 7, 7, 7, 7, 7, 7, 7, 7, 7, 7, 7, 7, 7, 7, 7, 7, 7, 7, 7, 7, 7, 7, 7, 7, 7, 7, 7, 7, 7, 7, 7, 7, 7, 7, 7, 7, 7, 7, 8, 8, 8, 8, 8, 8, 8, 8, 8, 8, 8, 8, 8, 8, 8, 8, 8, 8, 8, 8, 8, 8, 8, 8, 8, 8, 8, 8, 8, 8, 8, 8, 8, 8, 8, 8, 8, 8, 8, 8, 8, 8, 8, 8, 8, 8, 8, 8, 8, 8, 8, 8, 8, 8, 8, 8, 8, 8, 8, 8, 8, 8, 8, 8, 8, 8, 8, 8, 8, 8, 8, 8, 8, 8, 8, 8, 8, 8, 8, 8, 8, 8, 8, 8, 8, 8, 8, 8, 8, 8, 8, 8, 8, 8, 8, 8, 8, 8, 8, 8, 8, 8, 8, 8, 8, 8, 8, 8, 8, 8, 8, 8, 8, 8, 8, 8, 8, 8, 8, 8, 8, 8, 8, 8, 8, 8, 8, 8]
theorem tab8_spec : ∀ j : Fin 256, ∃ t : Nat, tab8[j.val]? = some (UInt8.ofNat t) ∧ t ≤ 8 ∧ j.val < 2 ^ t ∧ (0 < j.val → 2 ^ (t - 1) ≤ j.val) := by
  have h : ∀ j : Fin 256, (decide ((tab8.getD j.val 9).toNat ≤ 8 ∧ j.val < 2 ^ (tab8.getD j.val 9).toNat ∧ (0 < j.val → 2 ^ ((tab8.getD j.val 9).toNat - 1) ≤ j.val)) = true) := by decide +kernel
  intro j
  have h1 := of_decide_eq_true (h j)
  refine ⟨(tab8.getD j.val 9).toNat, ?_, h1⟩
  rw [List.getD_eq_getElem?_getD, List.getElem?_eq_getElem (show j.val < tab8.length by have := j.isLt; have h9 : tab8.length = 256 := (by decide +kernel); omega)]
  simp
/-- the length of a word -/
theorem bits_Len64_ok (p : Nat) (hp : p < 18446744073709551616) :
    ∃ L : Nat, L ≤ 64 ∧ p < 2 ^ L ∧ (0 < p → 2 ^ (L - 1) ≤ p) ∧ ∀ w : World, Pure Tryd.prog 86 [U p] w (I L) := by
  obtain ⟨p1, n1, h1⟩ : ∃ p1 n1 : Nat, (4294967296 ≤ p ∧ p1 = p / 2 ^ 32 ∧ n1 = 32) ∨ (¬ 4294967296 ≤ p ∧ p1 = p ∧ n1 = 0) := by
    by_cases h : 4294967296 ≤ p
    · exact ⟨_, _, .inl ⟨h, rfl, rfl⟩⟩
    · exact ⟨_, _, .inr ⟨h, rfl, rfl⟩⟩
  obtain ⟨p2, n2, h2⟩ : ∃ p2 n2 : Nat, (65536 ≤ p1 ∧ p2 = p1 / 2 ^ 16 ∧ n2 = n1 + 16) ∨ (¬ 65536 ≤ p1 ∧ p2 = p1 ∧ n2 = n1) := by
    by_cases h : 65536 ≤ p1
    · exact ⟨_, _, .inl ⟨h, rfl, rfl⟩⟩
    · exact ⟨_, _, .inr ⟨h, rfl, rfl⟩⟩
  obtain ⟨p3, n3, h3⟩ : ∃ p3 n3 : Nat, (256 ≤ p2 ∧ p3 = p2 / 2 ^ 8 ∧ n3 = n2 + 8) ∨ (¬ 256 ≤ p2 ∧ p3 = p2 ∧ n3 = n2) := by
    by_cases h : 256 ≤ p2
    · exact ⟨_, _, .inl ⟨h, rfl, rfl⟩⟩
    · exact ⟨_, _, .inr ⟨h, rfl, rfl⟩⟩
  have hp1 : p1 < 4294967296 := by omega
  have hp2 : p2 < 65536 := by omega
  have hp3 : p3 < 256 := by omega
  obtain ⟨t, ht, ht8, ht1, ht2⟩ := tab8_spec ⟨p3, hp3⟩
  dsimp only at ht ht1 ht2
  have hn : n3 ≤ 56 := by omega
  have hL : p < 2 ^ (n3 + t) ∧ (0 < p → 2 ^ (n3 + t - 1) ≤ p) := by
    have hpp : p3 * 2 ^ n3 ≤ p ∧ p < (p3 + 1) * 2 ^ n3 := by
      rcases h1 with ⟨a1, rfl, rfl⟩ | ⟨a1, rfl, rfl⟩ <;> rcases h2 with ⟨a2, rfl, rfl⟩ | ⟨a2, rfl, rfl⟩ <;> rcases h3 with ⟨a3, rfl, rfl⟩ | ⟨a3, rfl, rfl⟩ <;> (simp only [Nat.zero_add, Nat.reduceAdd, Nat.reducePow] at *; omega)
    refine ⟨?_, fun h0 => ?_⟩
    · have : (p3 + 1) * 2 ^ n3 ≤ 2 ^ t * 2 ^ n3 := Nat.mul_le_mul_right _ ht1
      rw [Nat.pow_add, Nat.mul_comm (2 ^ n3)]; omega
    · have hp30 : 0 < p3 := by
        rcases h1 with ⟨a1, rfl, rfl⟩ | ⟨a1, rfl, rfl⟩ <;> rcases h2 with ⟨a2, rfl, rfl⟩ | ⟨a2, rfl, rfl⟩ <;> rcases h3 with ⟨a3, rfl, rfl⟩ | ⟨a3, rfl, rfl⟩ <;> omega
      have ht0 : 0 < t := by
        rcases Nat.eq_zero_or_pos t with h | h
        · subst h; simp at ht1; omega
        · exact h
      have : 2 ^ (t - 1) * 2 ^ n3 ≤ p3 * 2 ^ n3 := Nat.mul_le_mul_right _ (ht2 hp30)
      rw [show n3 + t - 1 = n3 + (t - 1) by omega, Nat.pow_add, Nat.mul_comm (2 ^ n3)]; omega
  refine ⟨n3 + t, by omega, hL.1, hL.2, fun w => ?_⟩
  refine enter Tryd.func86 Tryd.ntmps86 ?_
  refine c_seq <| c_reg <| s_y y_as <| s_nil <| q_then <| c_join [(0, U p1), (2, I n1)] [] ?_ ?_
  · refine c_seq <| c_reg <| s_y y_mv <| s_y (y_geq (p := p) (q := 4294967296)) <| s_nil <| q_then <| c_ifd (fun h => ?_) (fun h => ?_)
    · obtain ⟨_, rfl, rfl⟩ : 4294967296 ≤ p ∧ p1 = p / 2 ^ 32 ∧ n1 = 32 := by omega
      refine c_seq <| c_reg <| s_y y_mv <| s_y (y_shrW 32) <| s_y y_as <| s_nil <| q_then <| c_reg <| s_y y_as <| s_nil <| q_join ⟨rfl, rfl, trivial⟩ (List.Sublist.refl _)
    · obtain ⟨_, rfl, rfl⟩ : ¬ 4294967296 ≤ p ∧ p1 = p ∧ n1 = 0 := by omega
      refine c_skip <| q_join ⟨rfl, rfl, trivial⟩ (List.Sublist.refl _)
  refine c_join [(0, U p2), (2, I n2)] [] ?_ ?_
  · refine c_seq <| c_reg <| s_y y_mv <| s_y (y_geq (p := p1) (q := 65536)) <| s_nil <| q_then <| c_ifd (fun h => ?_) (fun h => ?_)
    · obtain ⟨_, rfl, rfl⟩ : 65536 ≤ p1 ∧ p2 = p1 / 2 ^ 16 ∧ n2 = n1 + 16 := by omega
      refine c_seq <| c_reg <| s_y y_mv <| s_y (y_shrW 16) <| s_y y_as <| s_nil <| q_then <| c_reg <| s_y y_mv <| s_y (y_add (p := n1) (q := 16)) <| s_y y_as <| s_nil <| q_join ⟨rfl, rfl, trivial⟩ (List.Sublist.refl _)
    · obtain ⟨_, rfl, rfl⟩ : ¬ 65536 ≤ p1 ∧ p2 = p1 ∧ n2 = n1 := by omega
      refine c_skip <| q_join ⟨rfl, rfl, trivial⟩ (List.Sublist.refl _)
  refine c_join [(0, U p3), (2, I n3)] [] ?_ ?_
  · refine c_seq <| c_reg <| s_y y_mv <| s_y (y_geq (p := p2) (q := 256)) <| s_nil <| q_then <| c_ifd (fun h => ?_) (fun h => ?_)
    · obtain ⟨_, rfl, rfl⟩ : 256 ≤ p2 ∧ p3 = p2 / 2 ^ 8 ∧ n3 = n2 + 8 := by omega
      refine c_seq <| c_reg <| s_y y_mv <| s_y (y_shrW 8) <| s_y y_as <| s_nil <| q_then <| c_reg <| s_y y_mv <| s_y (y_add (p := n2) (q := 8)) <| s_y y_as <| s_nil <| q_join ⟨rfl, rfl, trivial⟩ (List.Sublist.refl _)
    · obtain ⟨_, rfl, rfl⟩ : ¬ 256 ≤ p2 ∧ p3 = p2 ∧ n3 = n2 := by omega
      refine c_skip <| q_join ⟨rfl, rfl, trivial⟩ (List.Sublist.refl _)
  refine c_seq <| c_reg <| s_y y_mv <| s_y y_mv <| s_y (y_cv8 (p := p3)) <| s_y (y_ixst p3 (s := ⟨tab8.toArray⟩) (b := UInt8.ofNat t) (by rw [List.getElem?_toArray]; exact ht) (hj := by rw [UInt8.toNat_ofNat']; omega)) <| s_y y_cvb <| s_y (y_add (p := n3) (q := ((UInt8.ofNat t).toNat : Int)) (hr := by rw [UInt8.toNat_ofNat']; unfold R64; omega)) <| s_y y_as <| s_nil <| q_then <| c_ret <| ?_
  refine ret1 Tryd.results86 rv_t fun w' hw => ⟨?_, hw⟩
  rw [UInt8.toNat_ofNat', show (n3 : Int) + ((t % 2 ^ 8 : Nat) : Int) = ((n3 + t : Nat) : Int) by omega]
/-- the zeros ahead of a word -/
theorem bits_LeadingZeros64_ok (p : Nat) (h0 : 0 < p) (hp : p < 18446744073709551616) :
    ∃ s : Nat, s ≤ 63 ∧ p * 2 ^ s < 18446744073709551616 ∧ 9223372036854775808 ≤ p * 2 ^ s ∧ ∀ w : World, Pure Tryd.prog 84 [U p] w (I s) := by
  obtain ⟨L, hL, h1, h2, hu⟩ := bits_Len64_ok p hp
  have hL0 : 0 < L := by
    rcases Nat.eq_zero_or_pos L with h | h
    · subst h; simp at h1; omega
    · exact h
  have e1 : 2 ^ L * 2 ^ (64 - L) = 18446744073709551616 := by rw [← Nat.pow_add, show L + (64 - L) = 64 by omega]
  have e2 : 2 ^ (L - 1) * 2 ^ (64 - L) = 9223372036854775808 := by rw [← Nat.pow_add, show L - 1 + (64 - L) = 63 by omega]
  refine ⟨64 - L, by omega, ?_, ?_, fun w => ?_⟩
  · rw [← e1]; exact Nat.mul_lt_mul_of_pos_right h1 (Nat.two_pow_pos _)
  · rw [← e2]; exact Nat.mul_le_mul_right _ (h2 h0)
  · refine enter Tryd.func84 Tryd.ntmps84 ?_
    refine c_seq <| c_reg <| s_y y_as <| s_nil <| q_then <| c_seq <| c_reg <| s_y y_mv <| s_pure (fun w' hw => hu w') <| s_y (y_sub (p := 64) (q := L)) <| s_y y_as <| s_nil <| q_then <| c_ret <| ?_
    refine ret1 Tryd.results84 rv_t fun w' hw => ⟨?_, hw⟩
    rw [show (64 : Int) - (L : Int) = ((64 - L : Nat) : Int) by omega]
end Go.Proofs.YtjfiggbgpplopaaDoor
