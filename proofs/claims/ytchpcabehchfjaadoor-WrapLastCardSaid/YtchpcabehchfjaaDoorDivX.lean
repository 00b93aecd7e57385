/- Joined texts. -/
import Derived.Test.YtchpcabehchfjaaDoorDerC
/- 64-bit words: rules, and the length of a word. -/
namespace Eng
open Go Go.RowKit
section
variable {P : Program} {n : Nat} {D : List Deferred} {W : World} {Bo : List Nat} {F : List (Nat × Value)} {l : SH}
  {d : Option Tmp} {ty : TypeId} {ps : String} {af : Array Edge} {g : Option (Nat × Bool)} {x y : Operand} {ta tb t : TypeId}
theorem wrapU {z : Int} {m : Nat} (h : z % 18446744073709551616 = (m : Int)) : IntKind.u64.wrap z = (m : Int) := by rw [wrap_u64', h]
theorem y_mulW {p q : Nat} (hx : evO F x = some (U p) := by rfl) (hy : evO F y = some (U q) := by rfl) : Y P n D W Bo ⟨d, .binOp .mul ta x y tb, ty, ps, af, g⟩ F l (U (p * q % 18446744073709551616)) :=
  .mk (by simp) fun a w ha _ => by
    have e : IntKind.u64.wrap ((p : Int) * (q : Int)) = ((p * q % 18446744073709551616 : Nat) : Int) := wrapU (by rw [← Int.natCast_mul]; omega)
    simp [execOp, ha.eval hx, ha.eval hy, eqGuard, binOp, Op.intArith, e]
theorem y_addW {p q : Nat} (hx : evO F x = some (U p) := by rfl) (hy : evO F y = some (U q) := by rfl) : Y P n D W Bo ⟨d, .binOp .add ta x y tb, ty, ps, af, g⟩ F l (U ((p + q) % 18446744073709551616)) :=
  .mk (by simp) fun a w ha _ => by
    have e : IntKind.u64.wrap ((p : Int) + (q : Int)) = (((p + q) % 18446744073709551616 : Nat) : Int) := wrapU (by omega)
    simp [execOp, ha.eval hx, ha.eval hy, eqGuard, binOp, Op.intArith, e]
theorem y_subW {p q : Nat} (hx : evO F x = some (U p) := by rfl) (hy : evO F y = some (U q) := by rfl) : Y P n D W Bo ⟨d, .binOp .sub ta x y tb, ty, ps, af, g⟩ F l (U ((p + (18446744073709551616 - q % 18446744073709551616)) % 18446744073709551616)) :=
  .mk (by simp) fun a w ha _ => by
    have e : IntKind.u64.wrap ((p : Int) - (q : Int)) = (((p + (18446744073709551616 - q % 18446744073709551616)) % 18446744073709551616 : Nat) : Int) := wrapU (by omega)
    simp [execOp, ha.eval hx, ha.eval hy, eqGuard, binOp, Op.intArith, e]
theorem y_shlW (m : Nat) {p : Nat} {k' : IntKind} (hx : evO F x = some (U p) := by rfl) (hy : evO F y = some (.int k' (m : Int)) := by rfl) (h1 : m ≤ 64 := by omega) :
    Y P n D W Bo ⟨d, .binOp .shl ta x y tb, ty, ps, af, g⟩ F l (U (p * 2 ^ m % 18446744073709551616)) := by
  have h := y_shlw (P := P) (n := n) (D := D) (W := W) (Bo := Bo) (l := l) (d := d) (ty := ty) (ps := ps) (af := af) (g := g) (ta := ta) (tb := tb) (F := F) m hx hy h1
  have e : IntKind.u64.wrap ((p : Int) * 2 ^ m) = ((p * 2 ^ m % 18446744073709551616 : Nat) : Int) := wrapU (by
    rw [show (p : Int) * 2 ^ m = ((p * 2 ^ m : Nat) : Int) by simp]; omega)
  rwa [e] at h
theorem y_shrW (m : Nat) {p : Nat} {k' : IntKind} (hx : evO F x = some (U p) := by rfl) (hy : evO F y = some (.int k' (m : Int)) := by rfl) (h1 : m ≤ 64 := by omega) :
    Y P n D W Bo ⟨d, .binOp .shr ta x y tb, ty, ps, af, g⟩ F l (U (p / 2 ^ m)) := by
  have h := y_shr (P := P) (n := n) (D := D) (W := W) (Bo := Bo) (l := l) (d := d) (ty := ty) (ps := ps) (af := af) (g := g) (ta := ta) (tb := tb) (F := F) hx hy (by omega) (by simp only [IntKind.bits]; omega)
  rwa [Int.toNat_natCast] at h
theorem y_orU {p q : Nat} (hx : evO F x = some (U p) := by rfl) (hy : evO F y = some (U q) := by rfl) (hp : p < 18446744073709551616 := by omega) (hq : q < 18446744073709551616 := by omega) :
    Y P n D W Bo ⟨d, .binOp .or ta x y tb, ty, ps, af, g⟩ F l (U (p ||| q)) :=
  y_orn hx hy (by simp only [IntKind.bits]; omega) (by simp only [IntKind.bits]; omega) (wrap_u64 (by omega) (by
    have : p ||| q < 2 ^ 64 := Nat.or_lt_two_pow (by omega) (by omega)
    omega))
/-- a byte of a string that is written out -/
theorem y_ixst (j : Nat) [hu : HU P t .string] {s : ByteArray} {b : UInt8} {k : IntKind} {i : Int} (hv : s.data[j]? = some b) (hx : evO F x = some (.string s) := by rfl) (hy : evO F y = some (.int k i) := by rfl) (hj : i = (j : Int) := by omega) :
    Y P n D W Bo ⟨d, .index t x y, ty, ps, af, g⟩ F l (B b) :=
  .mk (by simp) fun a w ha _ => by
    subst hj
    obtain ⟨h1, h2⟩ := Array.getElem?_eq_some_iff.1 hv
    have h3 : (0 : Int) ≤ (j : Int) ∧ (j : Int) < (s.size : Int) := ⟨by omega, by show (j : Int) < (s.data.size : Int); omega⟩
    simp [execOp, ha.eval hx, ha.eval hy, Instr.index, asIntOf, run_underlying hu.h]
    have h4 : s[j]? = some b := by
      rw [getElem?_pos s j (by show j < s.data.size; exact h1)]
      exact congrArg some h2
    simp [h4]
end
end Eng
namespace Go.Proofs.YtchpcabehchfjaaDoor
open Go Eng

def tab8 : List UInt8 := [0, 1, 2, 2, 3, 3, 3, 3, 4, 4, 4, 4, 4, 4, 4, 4, 5, 5, 5, 5, 5, 5, 5, 5, 5, 5, 5, 5, 5, 5, 5, 5, 6, 6, 6, 6, 6, 6, 6, 6, 6, 6, 6, 6, 6, 6, 6, 6, 6, 6, 6, 6, 6, 6, 6, 6, 6, 6, 6, 6, 6, 6, 6, 6, 7, 7, 7, 7, 7, 7, 7, 7, 7, 7, 7, 7, 7, 7, 7, 7, 7, 7, 7, 7, 7, 7, 7, 7, 7, 7, 7, 7, 7, 7, 7, 7, 7, 7, 7, 7, 7, 7, 7, 7, 7, 7, 7, 7, 7, 7, 7, 7, 7, 7, 7, 7, 7, 7, 7, 7, 7, 7, 7, 7, 7, 7, 7, 7, 8, 8, 8, 8, 8, 8, 8, 8, 8, 8, 8, 8, 8, 8, 8, 8, 8, 8, 8, 8, 8, 8, 8, 8, 8, 8, 8, 8, 8, 8, 8, 8, 8, 8, 8, 8, 8, 8, 8, 8, 8, 8, 8, 8, 8, 8, 8, 8, 8, 8, 8, 8, 8, 8, 8, 8, 8, 8, 8, 8, 8, 8, 8, 8, 8, 8, 8, 8, 8, 8, 8, 8, 8, 8, 8, 8, 8, 8, 8, 8, 8, 8, 8, 8, 8, 8, 8, 8, 8, 8, 8, 8, 8, 8, 8, 8, 8, 8, 8, 8, 8, 8, 8, 8, 8, 8, 8, 8, 8, 8, 8, 8, 8, 8, 8, 8, 8, 8, 8, 8, 8, 8, 8, 8, 8, 8, 8, 8]
theorem tab8_spec : ∀ j : Fin 256, ∃ t : Nat, tab8[j.val]? = some (UInt8.ofNat t) ∧ t ≤ 8 ∧ j.val < 2 ^ t ∧ (0 < j.val → 2 ^ (t - 1) ≤ j.val) := by
  have h : ∀ j : Fin 256, (decide ((tab8.getD j.val 9).toNat ≤ 8 ∧ j.val < 2 ^ (tab8.getD j.val 9).toNat ∧ (0 < j.val → 2 ^ ((tab8.getD j.val 9).toNat - 1) ≤ j.val)) = true) := by decide +kernel
  intro j
  have h1 := of_decide_eq_true (h j)
  refine ⟨(tab8.getD j.val 9).toNat, ?_, h1⟩
  rw [List.getD_eq_getElem?_getD, List.getElem?_eq_getElem (show j.val < tab8.length by have := j.isLt; have h9 : tab8.length = 256 := (by decide +kernel); omega)]
  simp
/-- the length of a word -/
theorem bits_Len64_ok (p : Nat) (hp : p < 18446744073709551616) :
    ∃ L : Nat, L ≤ 64 ∧ p < 2 ^ L ∧ (0 < p → 2 ^ (L - 1) ≤ p) ∧ ∀ w : World, Pure Tryd.prog 79 [U p] w (I L) := by
  obtain ⟨p1, n1, h1⟩ : ∃ p1 n1 : Nat, (4294967296 ≤ p ∧ p1 = p / 2 ^ 32 ∧ n1 = 32) ∨ (¬ 4294967296 ≤ p ∧ p1 = p ∧ n1 = 0) := by
    by_cases h : 4294967296 ≤ p
    · exact ⟨_, _, .inl ⟨h, rfl, rfl⟩⟩
    · exact ⟨_, _, .inr ⟨h, rfl, rfl⟩⟩
  obtain ⟨p2, n2, h2⟩ : ∃ p2 n2 : Nat, (65536 ≤ p1 ∧ p2 = p1 / 2 ^ 16 ∧ n2 = n1 + 16) ∨ (¬ 65536 ≤ p1 ∧ p2 = p1 ∧ n2 = n1) := by
    by_cases h : 65536 ≤ p1
    · exact ⟨_, _, .inl ⟨h, rfl, rfl⟩⟩
    · exact ⟨_, _, .inr ⟨h, rfl, rfl⟩⟩
  obtain ⟨p3, n3, h3⟩ : ∃ p3 n3 : Nat, (256 ≤ p2 ∧ p3 = p2 / 2 ^ 8 ∧ n3 = n2 + 8) ∨ (¬ 256 ≤ p2 ∧ p3 = p2 ∧ n3 = n2) := by
    by_cases h : 256 ≤ p2
    · exact ⟨_, _, .inl ⟨h, rfl, rfl⟩⟩
    · exact ⟨_, _, .inr ⟨h, rfl, rfl⟩⟩
  have hp1 : p1 < 4294967296 := by omega
  have hp2 : p2 < 65536 := by omega
  have hp3 : p3 < 256 := by omega
  obtain ⟨t, ht, ht8, ht1, ht2⟩ := tab8_spec ⟨p3, hp3⟩
  dsimp only at ht ht1 ht2
  have hn : n3 ≤ 56 := by omega
  have hL : p < 2 ^ (n3 + t) ∧ (0 < p → 2 ^ (n3 + t - 1) ≤ p) := by
    have hpp : p3 * 2 ^ n3 ≤ p ∧ p < (p3 + 1) * 2 ^ n3 := by
      rcases h1 with ⟨a1, rfl, rfl⟩ | ⟨a1, rfl, rfl⟩ <;> rcases h2 with ⟨a2, rfl, rfl⟩ | ⟨a2, rfl, rfl⟩ <;> rcases h3 with ⟨a3, rfl, rfl⟩ | ⟨a3, rfl, rfl⟩ <;> (simp only [Nat.zero_add, Nat.reduceAdd, Nat.reducePow] at *; omega)
    refine ⟨?_, fun h0 => ?_⟩
    · have : (p3 + 1) * 2 ^ n3 ≤ 2 ^ t * 2 ^ n3 := Nat.mul_le_mul_right _ ht1
      rw [Nat.pow_add, Nat.mul_comm (2 ^ n3)]; omega
    · have hp30 : 0 < p3 := by
        rcases h1 with ⟨a1, rfl, rfl⟩ | ⟨a1, rfl, rfl⟩ <;> rcases h2 with ⟨a2, rfl, rfl⟩ | ⟨a2, rfl, rfl⟩ <;> rcases h3 with ⟨a3, rfl, rfl⟩ | ⟨a3, rfl, rfl⟩ <;> omega
      have ht0 : 0 < t := by
        rcases Nat.eq_zero_or_pos t with h | h
        · subst h; simp at ht1; omega
        · exact h
      have : 2 ^ (t - 1) * 2 ^ n3 ≤ p3 * 2 ^ n3 := Nat.mul_le_mul_right _ (ht2 hp30)
      rw [show n3 + t - 1 = n3 + (t - 1) by omega, Nat.pow_add, Nat.mul_comm (2 ^ n3)]; omega
  refine ⟨n3 + t, by omega, hL.1, hL.2, fun w => ?_⟩
  refine enter Tryd.func79 Tryd.ntmps79 ?_
  refine c_seq <| c_reg <| s_y y_as <| s_nil <| q_then <| c_join [(0, U p1), (2, I n1)] [] ?_ ?_
  · refine c_seq <| c_reg <| s_y y_mv <| s_y (y_geq (p := p) (q := 4294967296)) <| s_nil <| q_then <| c_ifd (fun h => ?_) (fun h => ?_)
    · obtain ⟨_, rfl, rfl⟩ : 4294967296 ≤ p ∧ p1 = p / 2 ^ 32 ∧ n1 = 32 := by omega
      refine c_seq <| c_reg <| s_y y_mv <| s_y (y_shrW 32) <| s_y y_as <| s_nil <| q_then <| c_reg <| s_y y_as <| s_nil <| q_join ⟨rfl, rfl, trivial⟩ (List.Sublist.refl _)
    · obtain ⟨_, rfl, rfl⟩ : ¬ 4294967296 ≤ p ∧ p1 = p ∧ n1 = 0 := by omega
      refine c_skip <| q_join ⟨rfl, rfl, trivial⟩ (List.Sublist.refl _)
  refine c_join [(0, U p2), (2, I n2)] [] ?_ ?_
  · refine c_seq <| c_reg <| s_y y_mv <| s_y (y_geq (p := p1) (q := 65536)) <| s_nil <| q_then <| c_ifd (fun h => ?_) (fun h => ?_)
    · obtain ⟨_, rfl, rfl⟩ : 65536 ≤ p1 ∧ p2 = p1 / 2 ^ 16 ∧ n2 = n1 + 16 := by omega
      refine c_seq <| c_reg <| s_y y_mv <| s_y (y_shrW 16) <| s_y y_as <| s_nil <| q_then <| c_reg <| s_y y_mv <| s_y (y_add (p := n1) (q := 16)) <| s_y y_as <| s_nil <| q_join ⟨rfl, rfl, trivial⟩ (List.Sublist.refl _)
    · obtain ⟨_, rfl, rfl⟩ : ¬ 65536 ≤ p1 ∧ p2 = p1 ∧ n2 = n1 := by omega
      refine c_skip <| q_join ⟨rfl, rfl, trivial⟩ (List.Sublist.refl _)
  refine c_join [(0, U p3), (2, I n3)] [] ?_ ?_
  · refine c_seq <| c_reg <| s_y y_mv <| s_y (y_geq (p := p2) (q := 256)) <| s_nil <| q_then <| c_ifd (fun h => ?_) (fun h => ?_)
    · obtain ⟨_, rfl, rfl⟩ : 256 ≤ p2 ∧ p3 = p2 / 2 ^ 8 ∧ n3 = n2 + 8 := by omega
      refine c_seq <| c_reg <| s_y y_mv <| s_y (y_shrW 8) <| s_y y_as <| s_nil <| q_then <| c_reg <| s_y y_mv <| s_y (y_add (p := n2) (q := 8)) <| s_y y_as <| s_nil <| q_join ⟨rfl, rfl, trivial⟩ (List.Sublist.refl _)
    · obtain ⟨_, rfl, rfl⟩ : ¬ 256 ≤ p2 ∧ p3 = p2 ∧ n3 = n2 := by omega
      refine c_skip <| q_join ⟨rfl, rfl, trivial⟩ (List.Sublist.refl _)
  refine c_seq <| c_reg <| s_y y_mv <| s_y y_mv <| s_y (y_cv8 (p := p3)) <| s_y (y_ixst p3 (s := ⟨tab8.toArray⟩) (b := UInt8.ofNat t) (by rw [List.getElem?_toArray]; exact ht) (hj := by rw [UInt8.toNat_ofNat']; omega)) <| s_y y_cvb <| s_y (y_add (p := n3) (q := ((UInt8.ofNat t).toNat : Int)) (hr := by rw [UInt8.toNat_ofNat']; unfold R64; omega)) <| s_y y_as <| s_nil <| q_then <| c_ret <| ?_
  refine ret1 Tryd.results79 rv_t fun w' hw => ⟨?_, hw⟩
  rw [UInt8.toNat_ofNat', show (n3 : Int) + ((t % 2 ^ 8 : Nat) : Int) = ((n3 + t : Nat) : Int) by omega]
/-- the zeros ahead of a word -/
theorem bits_LeadingZeros64_ok (p : Nat) (h0 : 0 < p) (hp : p < 18446744073709551616) :
    ∃ s : Nat, s ≤ 63 ∧ p * 2 ^ s < 18446744073709551616 ∧ 9223372036854775808 ≤ p * 2 ^ s ∧ ∀ w : World, Pure Tryd.prog 101 [U p] w (I s) := by
  obtain ⟨L, hL, h1, h2, hu⟩ := bits_Len64_ok p hp
  have hL0 : 0 < L := by
    rcases Nat.eq_zero_or_pos L with h | h
    · subst h; simp at h1; omega
    · exact h
  have e1 : 2 ^ L * 2 ^ (64 - L) = 18446744073709551616 := by rw [← Nat.pow_add, show L + (64 - L) = 64 by omega]
  have e2 : 2 ^ (L - 1) * 2 ^ (64 - L) = 9223372036854775808 := by rw [← Nat.pow_add, show L - 1 + (64 - L) = 63 by omega]
  refine ⟨64 - L, by omega, ?_, ?_, fun w => ?_⟩
  · rw [← e1]; exact Nat.mul_lt_mul_of_pos_right h1 (Nat.two_pow_pos _)
  · rw [← e2]; exact Nat.mul_le_mul_right _ (h2 h0)
  · refine enter Tryd.func101 Tryd.ntmps101 ?_
    refine c_seq <| c_reg <| s_y y_as <| s_nil <| q_then <| c_seq <| c_reg <| s_y y_mv <| s_pure (fun w' hw => hu w') <| s_y (y_sub (p := 64) (q := L)) <| s_y y_as <| s_nil <| q_then <| c_ret <| ?_
    refine ret1 Tryd.results101 rv_t fun w' hw => ⟨?_, hw⟩
    rw [show (64 : Int) - (L : Int) = ((64 - L : Nat) : Int) by omega]
end Go.Proofs.YtchpcabehchfjaaDoor
/- Long division of two words by one: numbers only. -/
namespace Dv
/-- one digit: q is not below the digit, and too large -/
theorem kn_true {u y h e d q r : Nat} (hu : u < y) (hy : y = h * 4294967296 + e) (hq : q * h + r = u) (hc : 4294967296 ≤ q ∨ 4294967296 * r + d < q * e) (hd : d < 4294967296) : (u * 4294967296 + d) / y < q := by
  have hy0 : 0 < y := by omega
  rcases hc with hc | hc
  · refine Nat.lt_of_lt_of_le (Nat.div_lt_of_lt_mul ?_) hc
    have : (u + 1) * 4294967296 ≤ y * 4294967296 := Nat.mul_le_mul_right _ hu
    omega
  · refine Nat.div_lt_of_lt_mul ?_
    subst hy
    have e1 : (h * 4294967296 + e) * q = q * h * 4294967296 + q * e := by rw [Nat.add_mul, Nat.mul_comm q h, Nat.mul_right_comm, Nat.mul_comm e q]
    rw [e1]
    generalize q * h = a at *
    generalize q * e = b at *
    omega
theorem kn_le {u y h e d q r : Nat} (hy0 : 0 < y) (hy : y = h * 4294967296 + e) (hq : q * h + r = u) (hc : q * e ≤ 4294967296 * r + d) : q ≤ (u * 4294967296 + d) / y := by
  refine (Nat.le_div_iff_mul_le hy0).2 ?_
  subst hy
  have e1 : q * (h * 4294967296 + e) = q * h * 4294967296 + q * e := by rw [Nat.mul_add, Nat.mul_assoc]
  rw [e1]
  generalize q * h = a at *
  generalize q * e = b at *
  omega
theorem kn_top {u y h e : Nat} (hu : u < y) (hy : y = h * 4294967296 + e) (he : e < 4294967296) (hh : 2147483648 ≤ h) : u / h ≤ 4294967296 + 1 := by
  have : u / h < 4294967296 + 2 := Nat.div_lt_of_lt_mul (by
    rw [Nat.mul_add]; omega)
  omega
theorem kn_ge {u y h e d : Nat} (hy : y = h * 4294967296 + e) (hh : 0 < h) (hd : d < 4294967296) : (u * 4294967296 + d) / y ≤ u / h := by
  refine (Nat.le_div_iff_mul_le hh).2 ?_
  have h1 : (u * 4294967296 + d) / y * y ≤ u * 4294967296 + d := Nat.div_mul_le_self _ _
  generalize (u * 4294967296 + d) / y = q at *
  subst hy
  have e1 : q * (h * 4294967296 + e) = q * h * 4294967296 + q * e := by rw [Nat.mul_add, Nat.mul_assoc]
  rw [e1] at h1
  generalize q * h = a at *
  generalize q * e = b at *
  omega
theorem kn_small {q e : Nat} (hq : q ≤ 4294967296) (he : e < 4294967296) : q * e ≤ 18446744069414584320 := by
  have := Nat.mul_le_mul hq (show e ≤ 4294967295 by omega)
  omega
/-- the rest of a digit, where words overflow -/
theorem wrapsub {u d z R : Nat} (h : u * 4294967296 + d = z + R) (hR : R < 18446744073709551616) : ((u * 4294967296 % 18446744073709551616 + d) % 18446744073709551616 + (18446744073709551616 - z % 18446744073709551616 % 18446744073709551616)) % 18446744073709551616 = R := by omega
/-- two digits -/
theorem two {u l1 l0 y q1 r1 : Nat} (hy : 0 < y) (h1 : u * 4294967296 + l1 = q1 * y + r1) (q0 r0 : Nat) (h0 : r1 * 4294967296 + l0 = q0 * y + r0) (hr0 : r0 < y) :
    (u * 18446744073709551616 + (l1 * 4294967296 + l0)) / y = q1 * 4294967296 + q0 ∧ (u * 18446744073709551616 + (l1 * 4294967296 + l0)) % y = r0 := by
  have e1 : (q1 * 4294967296 + q0) * y = q1 * y * 4294967296 + q0 * y := by rw [Nat.add_mul, Nat.mul_right_comm]
  obtain ⟨N, hN⟩ : ∃ N, N = u * 18446744073709551616 + (l1 * 4294967296 + l0) := ⟨_, rfl⟩
  obtain ⟨K, hK⟩ : ∃ K, K = q1 * 4294967296 + q0 := ⟨_, rfl⟩
  rw [← hK] at e1
  have e : N = K * y + r0 := by
    generalize q1 * y = a at *
    generalize q0 * y = b at *
    omega
  rw [← hN, ← hK, e]
  constructor
  · rw [Nat.mul_comm, Nat.mul_add_div hy, Nat.div_eq_of_lt hr0, Nat.add_zero]
  · rw [Nat.mul_comm, Nat.mul_add_mod, Nat.mod_eq_of_lt hr0]
/-- shifted -/
theorem shifted {x y k : Nat} : (x * 2 ^ k) / (y * 2 ^ k) = x / y ∧ (x * 2 ^ k) % (y * 2 ^ k) / 2 ^ k = x % y :=
  ⟨Nat.mul_div_mul_right _ _ (Nat.two_pow_pos k), by rw [Nat.mul_mod_mul_right, Nat.mul_div_cancel _ (Nat.two_pow_pos k)]⟩
/-- the shifted words -/
theorem words {hi lo s : Nat} (hs : s ≤ 63) (hlo : lo < 18446744073709551616) : hi * 2 ^ s ||| lo / 2 ^ (64 - s) = hi * 2 ^ s + lo / 2 ^ (64 - s) ∧ (hi * 2 ^ s + lo / 2 ^ (64 - s)) * 18446744073709551616 + lo * 2 ^ s % 18446744073709551616 = (hi * 18446744073709551616 + lo) * 2 ^ s := by
  have e1 : 2 ^ s * 2 ^ (64 - s) = 18446744073709551616 := by rw [← Nat.pow_add, show s + (64 - s) = 64 by omega]
  have h1 : lo / 2 ^ (64 - s) < 2 ^ s := Nat.div_lt_of_lt_mul (by rw [Nat.mul_comm, e1]; exact hlo)
  constructor
  · rw [Nat.mul_comm hi, ← Nat.two_pow_add_eq_or_of_lt h1]
  · have h2 : lo * 2 ^ s / 18446744073709551616 = lo / 2 ^ (64 - s) := by
      rw [← e1, Nat.mul_comm lo, Nat.mul_div_mul_left _ _ (Nat.two_pow_pos s)]
    have h3 := Nat.div_add_mod (lo * 2 ^ s) 18446744073709551616
    rw [h2] at h3
    rw [Nat.add_mul (hi * 18446744073709551616), Nat.mul_right_comm hi]
    generalize hi * 2 ^ s = a at *
    generalize lo * 2 ^ s = b at *
    generalize lo / 2 ^ (64 - s) = c at *
    omega
theorem mulB {u y l : Nat} (h : u < y) (hl : l < 4294967296) : u * 4294967296 + l < y * 4294967296 := by omega
theorem mulA {u : Nat} (h : u < 4294967296) : u * 4294967296 < 18446744073709551616 := by omega
theorem addA {u l : Nat} (h : u < 4294967296) (hl : l < 4294967296) : u * 4294967296 + l < 18446744073709551616 := by omega
end Dv
/- Long division of two words by one: the program. -/
namespace Go.Proofs.YtchpcabehchfjaaDoor
open Go Eng Dv

theorem bits_Div64_ok (w : World) (hi lo y : Nat) (h1 : hi < y) (hlo : lo < 18446744073709551616) (hyM : y < 18446744073709551616) :
    Pure Tryd.prog 77 [U hi, U lo, U y] w (.tuple #[U ((hi * 18446744073709551616 + lo) / y), U ((hi * 18446744073709551616 + lo) % y)]) := by
  refine enter Tryd.func77 Tryd.ntmps77 ?_
  refine c_seq <| c_reg <| s_y y_as <| s_y y_as <| s_nil <| q_then <| c_seq <| c_seq <| c_reg <| s_y y_mv <| s_kf (y_eql (p := y) (q := 0)) (by omega) <| s_nil <| q_then <| c_f <| c_skip <| q_then <| c_seq <| c_seq <| c_reg <| s_y y_mv <| s_y y_mv <| s_kf (y_leq (p := y) (q := hi)) (by omega) <| s_nil <| q_then <| c_f <| c_skip <| q_then <| c_seq <| c_seq <| c_reg <| s_y y_mv <| s_y (y_eql (p := hi) (q := 0)) <| s_nil <| q_then <| c_ifd (fun h27 => ?_) (fun h27 => ?_)
  · have hi0 : hi = 0 := by omega
    subst hi0
    refine c_seq <| c_regd <| d_y y_mv <| d_y y_mv <| d_y (y_quo64 (p := lo) (q := y)) <| d_y y_mv <| d_y y_mv <| d_y (y_rem64 (p := lo) (q := y)) <| d_y y_as <| d_y y_as <| d_nil <| q_then <| c_ret <| q_ret <| ?_
    refine ret2 Tryd.results77 rv_t rv_t fun w' hw => ⟨?_, hw⟩
    rw [Nat.zero_mul, Nat.zero_add]
  obtain ⟨s, hs, hsM, hsB, hlz⟩ := bits_LeadingZeros64_ok y (by omega) hyM
  have hwd := words (hi := hi) (lo := lo) (s := s) hs hlo
  have hsh := shifted (x := hi * 18446744073709551616 + lo) (y := y) (k := s)
  have hXY : (hi * 18446744073709551616 + lo) * 2 ^ s < y * 2 ^ s * 18446744073709551616 := by
    rw [Nat.mul_right_comm]
    exact Nat.mul_lt_mul_of_pos_right (by omega) (Nat.two_pow_pos s)
  have hhs : hi * 2 ^ s < y * 2 ^ s := Nat.mul_lt_mul_of_pos_right h1 (Nat.two_pow_pos s)
  have hlz2 : lo / 2 ^ (64 - s) ≤ lo := Nat.div_le_self _ _
  refine c_skip <| q_then <| c_seq <| c_reg <| s_y y_mv <| s_pure (fun w' hw => hlz w') <| s_y y_cvn <| s_y y_as <| s_nil <| q_then <| c_seq <| c_reg <| s_y y_mv <| s_y y_mv <| s_y (y_shlW s) <| ?_
  rw [Nat.mod_eq_of_lt hsM]
  rw [← hsh.1, ← hsh.2]
  obtain ⟨Y, hY⟩ : ∃ Y, Y = y * 2 ^ s := ⟨_, rfl⟩
  obtain ⟨h, hhd⟩ : ∃ h, h = Y / 2 ^ 32 := ⟨_, rfl⟩
  obtain ⟨e, hed⟩ : ∃ e, e = Y % 2 ^ 32 := ⟨_, rfl⟩
  obtain ⟨v, hvd⟩ : ∃ v, v = lo * 2 ^ s % 18446744073709551616 := ⟨_, rfl⟩
  obtain ⟨l1, hl1⟩ : ∃ l1, l1 = v / 2 ^ 32 := ⟨_, rfl⟩
  obtain ⟨l0, hl0⟩ : ∃ l0, l0 = v % 2 ^ 32 := ⟨_, rfl⟩
  rw [← hY] at hsM hsB hXY hhs ⊢
  refine s_y y_as <| s_nil <| q_then <| c_seq <| c_reg <| s_y y_mv <| s_y (y_shrW 32) <| ?_
  rw [← hhd]
  refine s_y y_as <| s_nil <| q_then <| c_seq <| c_reg <| s_y y_mv <| s_y (y_mask (p := Y) 32) <| ?_
  rw [← hed]
  refine s_y y_as <| s_nil <| q_then <| c_seq <| c_reg <| s_y y_mv <| s_y y_mv <| s_y (y_shlW s) <| ?_
  rw [Nat.mod_eq_of_lt (show hi * 2 ^ s < 18446744073709551616 by omega)]
  refine s_y y_mv <| s_y y_mv <| s_y (y_sub64 (p := 64) (q := s)) <| s_y (y_shrW (64 - s)) <| s_y (y_orU (p := hi * 2 ^ s) (q := lo / 2 ^ (64 - s))) <| ?_
  rw [hwd.1]
  have hw2 := hwd.2
  rw [← hvd] at hw2
  obtain ⟨u, hu⟩ : ∃ u, u = hi * 2 ^ s + lo / 2 ^ (64 - s) := ⟨_, rfl⟩
  rw [← hu] at hw2 ⊢
  rw [← hw2] at hXY ⊢
  refine s_y y_as <| s_nil <| q_then <| c_seq <| c_reg <| s_y y_mv <| s_y y_mv <| s_y (y_shlW s) <| ?_
  rw [← hvd]
  refine s_y y_as <| s_nil <| q_then <| c_seq <| c_reg <| s_y y_mv <| s_y (y_shrW 32) <| ?_
  rw [← hl1]
  refine s_y y_as <| s_nil <| q_then <| c_seq <| c_reg <| s_y y_mv <| s_y (y_mask (p := v) 32) <| ?_
  rw [← hl0]
  have hv : v = l1 * 4294967296 + l0 := by omega
  have hl1B : l1 < 4294967296 := by omega
  have hl0B : l0 < 4294967296 := by omega
  have huY : u < Y := by omega
  have hYe : Y = h * 4294967296 + e := by omega
  have he : e < 4294967296 := by omega
  have hh : 2147483648 ≤ h := by omega
  have hh2 : h < 4294967296 := by omega
  have hb1 : u * 4294967296 + l1 < Y * 4294967296 := mulB huY hl1B
  obtain ⟨Q1, hQ1⟩ : ∃ Q1, Q1 = (u * 4294967296 + l1) / Y := ⟨_, rfl⟩
  obtain ⟨R1, hR1⟩ : ∃ R1, R1 = (u * 4294967296 + l1) % Y := ⟨_, rfl⟩
  have hdm1 := Nat.div_add_mod (u * 4294967296 + l1) Y
  rw [← hQ1, ← hR1, Nat.mul_comm] at hdm1
  have hR1Y : R1 < Y := by rw [hR1]; exact Nat.mod_lt _ (by omega)
  have hQ1B : Q1 < 4294967296 := Nat.lt_of_le_of_lt (Nat.le_of_eq hQ1) (Nat.div_lt_of_lt_mul hb1)
  have hb0 : R1 * 4294967296 + l0 < Y * 4294967296 := mulB hR1Y hl0B
  obtain ⟨Q0, hQ0⟩ : ∃ Q0, Q0 = (R1 * 4294967296 + l0) / Y := ⟨_, rfl⟩
  obtain ⟨R0, hR0⟩ : ∃ R0, R0 = (R1 * 4294967296 + l0) % Y := ⟨_, rfl⟩
  have hdm0 := Nat.div_add_mod (R1 * 4294967296 + l0) Y
  rw [← hQ0, ← hR0, Nat.mul_comm] at hdm0
  have hR0Y : R0 < Y := by rw [hR0]; exact Nat.mod_lt _ (by omega)
  have hQ0B : Q0 < 4294967296 := Nat.lt_of_le_of_lt (Nat.le_of_eq hQ0) (Nat.div_lt_of_lt_mul hb0)
  have htwo := two (show 0 < Y by omega) hdm1.symm Q0 R0 hdm0.symm hR0Y
  have hcu : u / h * h ≤ u := Nat.div_mul_le_self _ _
  have hcr : R1 / h * h ≤ R1 := Nat.div_mul_le_self _ _
  rw [hv, htwo.1, htwo.2]
  clear hlz hwd hsh hw2 hvd hu hl1 hl0
  refine s_y y_as <| s_nil <| q_then <| c_seq <| c_reg <| s_y y_mv <| s_y y_mv <| s_y (y_quo64 (p := u) (q := h)) <| s_y y_as <| s_nil <| q_then <| c_seq <| c_reg <| s_y y_mv <| s_y y_mv <| s_y y_mv <| s_y (y_mul64 (p := u / h) (q := h)) <| s_y (y_sub64 (p := u) (q := u / h * h)) <| s_y y_as <| s_nil <| q_then <| ?_
  refine c_join [(15, U Q1), (2, U Y), (8, U s), (9, U h), (10, U e), (11, U u), (13, U l1), (14, U l0)] [] ?_ ?_
  · have htop := kn_top huY hYe he hh
    have hge := kn_ge (u := u) (y := Y) (h := h) (e := e) (d := l1) hYe (by omega) hl1B
    have hdm := Nat.div_add_mod u h
    have hml := Nat.mod_lt u (show 0 < h by omega)
    rw [← hQ1] at hge
    have hcm : u / h * h = h * (u / h) := Nat.mul_comm _ _
    refine c_block <| c_loop2 (fun q r => [(15, U q), (16, U r), (2, U Y), (8, U s), (9, U h), (10, U e), (11, U u), (13, U l1), (14, U l0)]) (fun _ _ => []) (fun q r => q * h + r = u ∧ r < 4294967296 ∧ Q1 ≤ q ∧ q ≤ 4294967297) (fun q _ => q) (u / h) (u - u / h * h) ⟨by omega, by omega, hge, htop⟩ ⟨rfl, rfl, rfl, rfl, rfl, rfl, rfl, rfl, rfl, trivial⟩ (List.Sublist.refl _) ?_
    intro q r ⟨hq, hr, hQq, hqt⟩
    refine c_seq <| c_join ([(15, U q), (16, U r), (2, U Y), (8, U s), (9, U h), (10, U e), (11, U u), (13, U l1), (14, U l0), (78, .bool (decide (4294967296 ≤ q ∨ 4294967296 * r + l1 < q * e)))]) [] ?_ ?_
    · refine c_reg <| s_y y_mv <| s_ifd (y_geq (p := q) (q := 4294967296)) (fun h1 => ?_) (fun h1 => ?_)
      · have h2 : 4294967296 ≤ q ∨ 4294967296 * r + l1 < q * e := .inl (by omega)
        refine s_y y_mv <| s_no <| s_no <| s_no <| s_no <| s_no <| s_no <| s_no <| s_no <| s_y (y_pkT (v := .bool true)) <| s_nil <| q_join ⟨rfl, rfl, rfl, rfl, rfl, rfl, rfl, rfl, rfl, by rw [decide_eq_true h2]; rfl, trivial⟩ (List.Sublist.refl _)
      · have hqe := kn_small (q := q) (e := e) (by omega) he
        refine s_y y_mv <| s_y y_mv <| s_y y_mv <| s_y (y_mul64 (p := q) (q := e)) <| s_y y_mv <| s_y (y_mul64 (p := 4294967296) (q := r)) <| s_y y_mv <| s_y (y_add64 (p := 4294967296 * r) (q := l1)) <| s_y (y_gtr (p := ((q * e : Nat) : Int)) (q := ((4294967296 * r + l1 : Nat) : Int))) <| s_y (y_pkF (v := .bool (decide (((4294967296 * r + l1 : Nat) : Int) < ((q * e : Nat) : Int))))) <| s_nil <| q_join ⟨rfl, rfl, rfl, rfl, rfl, rfl, rfl, rfl, rfl, by rw [show decide (4294967296 ≤ q ∨ 4294967296 * r + l1 < q * e) = decide (((4294967296 * r + l1 : Nat) : Int) < ((q * e : Nat) : Int)) from decide_eq_decide.2 ⟨fun h9 => by omega, fun h9 => .inr (by omega)⟩]; rfl, trivial⟩ (List.Sublist.refl _)
    · refine c_ifd (fun h3 => ?_) (fun h3 => ?_)
      · have hlt := kn_true huY hYe hq h3 hl1B
        rw [← hQ1] at hlt
        have hq1 : (q - 1) * h + (r + h) = u := by
          have : q * h = (q - 1) * h + h := by rw [← Nat.succ_mul]; congr 1; omega
          omega
        refine c_skip <| q_then <| c_block <| c_seq <| c_reg <| s_y y_mv <| s_y (y_sub64 (p := q) (q := 1)) <| s_y y_as <| s_nil <| q_then <| c_seq <| c_reg <| s_y y_mv <| s_y y_mv <| s_y (y_add64 (p := r) (q := h)) <| s_y y_as <| s_nil <| q_then <| c_seq <| c_reg <| s_y y_mv <| s_y (y_geq (p := ((r + h : Nat) : Int)) (q := 4294967296)) <| s_nil <| q_then <| c_ifd (fun h4 => ?_) (fun h4 => ?_)
        · have hqe := kn_small (q := q - 1) (e := e) (by omega) he
          have hle := kn_le (d := l1) (by omega) hYe hq1 (by omega)
          rw [← hQ1] at hle
          have hqQ : q - 1 = Q1 := by omega
          rw [hqQ]
          refine c_exit <| q_exn rfl <| q_ex <| q_exb <| q_join ⟨rfl, rfl, rfl, rfl, rfl, rfl, rfl, rfl, trivial⟩ (List.Sublist.refl _)
        · refine c_skip <| q_nb <| q_round2 (y := r) (q - 1) (r + h) ⟨hq1, by omega, by omega, by omega⟩ (by omega) ⟨rfl, rfl, rfl, rfl, rfl, rfl, rfl, rfl, rfl, trivial⟩ (List.Sublist.refl _)
      · have hle := kn_le (d := l1) (by omega) hYe hq (by omega)
        rw [← hQ1] at hle
        have hqQ : q = Q1 := by omega
        subst hqQ
        refine c_exit <| q_ex <| q_ex <| q_exb <| q_join ⟨rfl, rfl, rfl, rfl, rfl, rfl, rfl, rfl, trivial⟩ (List.Sublist.refl _)
  refine c_seq <| c_reg <| s_y y_mv <| s_y (y_mulW (p := u) (q := 4294967296)) <| s_y y_mv <| s_y (y_addW (p := u * 4294967296 % 18446744073709551616) (q := l1)) <| s_y y_mv <| s_y y_mv <| s_y (y_mulW (p := Q1) (q := Y)) <| s_y (y_subW (p := (u * 4294967296 % 18446744073709551616 + l1) % 18446744073709551616) (q := Q1 * Y % 18446744073709551616)) <| ?_
  rw [wrapsub (R := R1) hdm1.symm (by omega)]
  refine s_y y_as <| s_nil <| q_then <| c_seq <| c_reg <| s_y y_mv <| s_y y_mv <| s_y (y_quo64 (p := R1) (q := h)) <| s_y y_as <| s_nil <| q_then <| c_seq <| c_reg <| s_y y_mv <| s_y y_mv <| s_y y_mv <| s_y (y_mul64 (p := R1 / h) (q := h)) <| s_y (y_sub64 (p := R1) (q := R1 / h * h)) <| s_y y_as <| s_nil <| q_then <| ?_
  refine c_join [(18, U Q0), (2, U Y), (8, U s), (9, U h), (10, U e), (14, U l0), (15, U Q1), (17, U R1)] [] ?_ ?_
  · have htop := kn_top hR1Y hYe he hh
    have hge := kn_ge (u := R1) (y := Y) (h := h) (e := e) (d := l0) hYe (by omega) hl0B
    have hdm := Nat.div_add_mod R1 h
    have hml := Nat.mod_lt R1 (show 0 < h by omega)
    rw [← hQ0] at hge
    have hcm : R1 / h * h = h * (R1 / h) := Nat.mul_comm _ _
    refine c_block <| c_loop2 (fun q r => [(18, U q), (16, U r), (2, U Y), (8, U s), (9, U h), (10, U e), (14, U l0), (15, U Q1), (17, U R1)]) (fun _ _ => []) (fun q r => q * h + r = R1 ∧ r < 4294967296 ∧ Q0 ≤ q ∧ q ≤ 4294967297) (fun q _ => q) (R1 / h) (R1 - R1 / h * h) ⟨by omega, by omega, hge, htop⟩ ⟨rfl, rfl, rfl, rfl, rfl, rfl, rfl, rfl, rfl, trivial⟩ (List.Sublist.refl _) ?_
    intro q r ⟨hq, hr, hQq, hqt⟩
    refine c_seq <| c_join ([(18, U q), (16, U r), (2, U Y), (8, U s), (9, U h), (10, U e), (14, U l0), (15, U Q1), (17, U R1), (113, .bool (decide (4294967296 ≤ q ∨ 4294967296 * r + l0 < q * e)))]) [] ?_ ?_
    · refine c_reg <| s_y y_mv <| s_ifd (y_geq (p := q) (q := 4294967296)) (fun h1 => ?_) (fun h1 => ?_)
      · have h2 : 4294967296 ≤ q ∨ 4294967296 * r + l0 < q * e := .inl (by omega)
        refine s_y y_mv <| s_no <| s_no <| s_no <| s_no <| s_no <| s_no <| s_no <| s_no <| s_y (y_pkT (v := .bool true)) <| s_nil <| q_join ⟨rfl, rfl, rfl, rfl, rfl, rfl, rfl, rfl, rfl, by rw [decide_eq_true h2]; rfl, trivial⟩ (List.Sublist.refl _)
      · have hqe := kn_small (q := q) (e := e) (by omega) he
        refine s_y y_mv <| s_y y_mv <| s_y y_mv <| s_y (y_mul64 (p := q) (q := e)) <| s_y y_mv <| s_y (y_mul64 (p := 4294967296) (q := r)) <| s_y y_mv <| s_y (y_add64 (p := 4294967296 * r) (q := l0)) <| s_y (y_gtr (p := ((q * e : Nat) : Int)) (q := ((4294967296 * r + l0 : Nat) : Int))) <| s_y (y_pkF (v := .bool (decide (((4294967296 * r + l0 : Nat) : Int) < ((q * e : Nat) : Int))))) <| s_nil <| q_join ⟨rfl, rfl, rfl, rfl, rfl, rfl, rfl, rfl, rfl, by rw [show decide (4294967296 ≤ q ∨ 4294967296 * r + l0 < q * e) = decide (((4294967296 * r + l0 : Nat) : Int) < ((q * e : Nat) : Int)) from decide_eq_decide.2 ⟨fun h9 => by omega, fun h9 => .inr (by omega)⟩]; rfl, trivial⟩ (List.Sublist.refl _)
    · refine c_ifd (fun h3 => ?_) (fun h3 => ?_)
      · have hlt := kn_true hR1Y hYe hq h3 hl0B
        rw [← hQ0] at hlt
        have hq1 : (q - 1) * h + (r + h) = R1 := by
          have : q * h = (q - 1) * h + h := by rw [← Nat.succ_mul]; congr 1; omega
          omega
        refine c_skip <| q_then <| c_block <| c_seq <| c_reg <| s_y y_mv <| s_y (y_sub64 (p := q) (q := 1)) <| s_y y_as <| s_nil <| q_then <| c_seq <| c_reg <| s_y y_mv <| s_y y_mv <| s_y (y_add64 (p := r) (q := h)) <| s_y y_as <| s_nil <| q_then <| c_seq <| c_reg <| s_y y_mv <| s_y (y_geq (p := ((r + h : Nat) : Int)) (q := 4294967296)) <| s_nil <| q_then <| c_ifd (fun h4 => ?_) (fun h4 => ?_)
        · have hqe := kn_small (q := q - 1) (e := e) (by omega) he
          have hle := kn_le (d := l0) (by omega) hYe hq1 (by omega)
          rw [← hQ0] at hle
          have hqQ : q - 1 = Q0 := by omega
          rw [hqQ]
          refine c_exit <| q_exn rfl <| q_ex <| q_exb <| q_join ⟨rfl, rfl, rfl, rfl, rfl, rfl, rfl, rfl, trivial⟩ (List.Sublist.refl _)
        · refine c_skip <| q_nb <| q_round2 (y := r) (q - 1) (r + h) ⟨hq1, by omega, by omega, by omega⟩ (by omega) ⟨rfl, rfl, rfl, rfl, rfl, rfl, rfl, rfl, rfl, trivial⟩ (List.Sublist.refl _)
      · have hle := kn_le (d := l0) (by omega) hYe hq (by omega)
        rw [← hQ0] at hle
        have hqQ : q = Q0 := by omega
        subst hqQ
        refine c_exit <| q_ex <| q_ex <| q_exb <| q_join ⟨rfl, rfl, rfl, rfl, rfl, rfl, rfl, rfl, trivial⟩ (List.Sublist.refl _)
  refine c_seq <| c_reg <| s_y y_mv <| s_y (y_mul64 (p := Q1) (q := 4294967296) (hp := mulA hQ1B)) <| s_y y_mv <| s_y (y_add64 (p := Q1 * 4294967296) (q := Q0) (hp := addA hQ1B hQ0B)) <| s_y y_mv <| s_y (y_mulW (p := R1) (q := 4294967296)) <| s_y y_mv <| s_y (y_addW (p := R1 * 4294967296 % 18446744073709551616) (q := l0)) <| s_y y_mv <| s_y y_mv <| s_y (y_mulW (p := Q0) (q := Y)) <| s_y (y_subW (p := (R1 * 4294967296 % 18446744073709551616 + l0) % 18446744073709551616) (q := Q0 * Y % 18446744073709551616)) <| ?_
  rw [wrapsub (R := R0) hdm0.symm (by omega)]
  refine s_y y_mv <| s_y (y_shrW s) <| s_y y_as <| s_y y_as <| s_nil <| q_then <| c_ret <| ?_
  exact ret2 Tryd.results77 rv_t rv_t fun w' hw => ⟨rfl, hw⟩
end Go.Proofs.YtchpcabehchfjaaDoor
