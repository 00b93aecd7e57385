/- Joined texts: DivX ScalX Range Num PowX Gf SigP Slices Padding PadLaw Grp Fld Rec Step EqA Keys Mask. -/
import Derived.WalkKit
import Derived.TacticsInMore
import Derived.OrdersIn
import Derived.RangeFuncCalls
import Derived.Deep.LoopGhost
import Derived.Deep.Quiet
import Derived.KernelRfl
import Derived.Laws.BytesString
import Derived.Laws.StructEq
import Derived.MapKept
import Derived.Laws.IdiomStrings
import Derived.Recover
import Derived.RangeFuncLeaves
import Derived.ChangeKeysEq
import Derived.Laws.Build
import Derived.Stop.Asserts
import Derived.Maps.RangeRun
import Derived.ProofKit
import Derived.LaidMore
import Derived.LaidHandle
import Derived.OpenShut
import Derived.FnData
import Derived.SizedLaws
import Derived.ChangeMaps5
import Derived.Deep.Slices
import Derived.JoinedOf
import Derived.SevenTiedAt
import Derived.Test.YtejdjnkilikehaaGreatDoorChecked
import Derived.Test.YtejdjnkilikehaaGreatDoorRows
import Derived.Test.YtejdjnkilikehaaGreatDoorCards
import Derived.Test.YtejdjnkilikehaaGreatDoorTie
import Derived.Test.YtejdjnkilikehaaGreatDoorEn2
set_option linter.all false
section
namespace Eng
open Go Go.RowKit
section
variable {P : Program} {n : Nat} {D : List Deferred} {W : World} {Bo : List Nat} {F : List (Nat × Value)} {l : SH}
  {d : Option Tmp} {ty : TypeId} {ps : String} {af : Array Edge} {g : Option (Nat × Bool)} {x y : Operand} {ta tb t : TypeId}
theorem wrapU {z : Int} {m : Nat} (h : z % 18446744073709551616 = (m : Int)) : IntKind.u64.wrap z = (m : Int) := by rw [wrap_u64', h]
theorem y_mulW {p q : Nat} (hx : evO F x = some (U p) := by rfl) (hy : evO F y = some (U q) := by rfl) : Y P n D W Bo ⟨d, .binOp .mul ta x y tb, ty, ps, af, g⟩ F l (U (p * q % 18446744073709551616)) :=
  .mk (by simp) fun a w ha _ => by
    have e : IntKind.u64.wrap ((p : Int) * (q : Int)) = ((p * q % 18446744073709551616 : Nat) : Int) := wrapU (by rw [← Int.natCast_mul]; omega)
    simp [execOp, ha.eval hx, ha.eval hy, eqGuard, binOp, Op.intArith, e]
theorem y_addW {p q : Nat} (hx : evO F x = some (U p) := by rfl) (hy : evO F y = some (U q) := by rfl) : Y P n D W Bo ⟨d, .binOp .add ta x y tb, ty, ps, af, g⟩ F l (U ((p + q) % 18446744073709551616)) :=
  .mk (by simp) fun a w ha _ => by
    have e : IntKind.u64.wrap ((p : Int) + (q : Int)) = (((p + q) % 18446744073709551616 : Nat) : Int) := wrapU (by omega)
    simp [execOp, ha.eval hx, ha.eval hy, eqGuard, binOp, Op.intArith, e]
theorem y_subW {p q : Nat} (hx : evO F x = some (U p) := by rfl) (hy : evO F y = some (U q) := by rfl) : Y P n D W Bo ⟨d, .binOp .sub ta x y tb, ty, ps, af, g⟩ F l (U ((p + (18446744073709551616 - q % 18446744073709551616)) % 18446744073709551616)) :=
  .mk (by simp) fun a w ha _ => by
    have e : IntKind.u64.wrap ((p : Int) - (q : Int)) = (((p + (18446744073709551616 - q % 18446744073709551616)) % 18446744073709551616 : Nat) : Int) := wrapU (by omega)
    simp [execOp, ha.eval hx, ha.eval hy, eqGuard, binOp, Op.intArith, e]
theorem y_shlW (m : Nat) {p : Nat} {k' : IntKind} (hx : evO F x = some (U p) := by rfl) (hy : evO F y = some (.int k' (m : Int)) := by rfl) (h1 : m ≤ 64 := by omega) :
    Y P n D W Bo ⟨d, .binOp .shl ta x y tb, ty, ps, af, g⟩ F l (U (p * 2 ^ m % 18446744073709551616)) := by
  have h := y_shlw (P := P) (n := n) (D := D) (W := W) (Bo := Bo) (l := l) (d := d) (ty := ty) (ps := ps) (af := af) (g := g) (ta := ta) (tb := tb) (F := F) m hx hy h1
  have e : IntKind.u64.wrap ((p : Int) * 2 ^ m) = ((p * 2 ^ m % 18446744073709551616 : Nat) : Int) := wrapU (by
    rw [show (p : Int) * 2 ^ m = ((p * 2 ^ m : Nat) : Int) by simp]; omega)
  rwa [e] at h
theorem y_shrW (m : Nat) {p : Nat} {k' : IntKind} (hx : evO F x = some (U p) := by rfl) (hy : evO F y = some (.int k' (m : Int)) := by rfl) (h1 : m ≤ 64 := by omega) :
    Y P n D W Bo ⟨d, .binOp .shr ta x y tb, ty, ps, af, g⟩ F l (U (p / 2 ^ m)) := by
  have h := y_shr (P := P) (n := n) (D := D) (W := W) (Bo := Bo) (l := l) (d := d) (ty := ty) (ps := ps) (af := af) (g := g) (ta := ta) (tb := tb) (F := F) hx hy (by omega) (by simp only [IntKind.bits]; omega)
  rwa [Int.toNat_natCast] at h
theorem y_orU {p q : Nat} (hx : evO F x = some (U p) := by rfl) (hy : evO F y = some (U q) := by rfl) (hp : p < 18446744073709551616 := by omega) (hq : q < 18446744073709551616 := by omega) :
    Y P n D W Bo ⟨d, .binOp .or ta x y tb, ty, ps, af, g⟩ F l (U (p ||| q)) :=
  y_orn hx hy (by simp only [IntKind.bits]; omega) (by simp only [IntKind.bits]; omega) (wrap_u64 (by omega) (by
    have : p ||| q < 2 ^ 64 := Nat.or_lt_two_pow (by omega) (by omega)
    omega))
theorem y_ixst (j : Nat) [hu : HU P t .string] {s : ByteArray} {b : UInt8} {k : IntKind} {i : Int} (hv : s.data[j]? = some b) (hx : evO F x = some (.string s) := by rfl) (hy : evO F y = some (.int k i) := by rfl) (hj : i = (j : Int) := by omega) :
    Y P n D W Bo ⟨d, .index t x y, ty, ps, af, g⟩ F l (B b) :=
  .mk (by simp) fun a w ha _ => by
    subst hj
    obtain ⟨h1, h2⟩ := Array.getElem?_eq_some_iff.1 hv
    have h3 : (0 : Int) ≤ (j : Int) ∧ (j : Int) < (s.size : Int) := ⟨by omega, by show (j : Int) < (s.data.size : Int); omega⟩
    simp [execOp, ha.eval hx, ha.eval hy, Instr.index, asIntOf, run_underlying hu.h]
    have h4 : s[j]? = some b := by
      rw [getElem?_pos s j (by show j < s.data.size; exact h1)]
      exact congrArg some h2
    simp [h4]
end
end Eng
namespace Go.Proofs.YtejdjnkilikehaaGreatDoor
open Go Eng
def tab8 : List UInt8 := [0, 1, 2, 2, 3, 3, 3, 3, 4, 4, 4, 4, 4, 4, 4, 4, 5, 5, 5, 5, 5, 5, 5, 5, 5, 5, 5, 5, 5, 5, 5, 5, 6, 6, 6, 6, 6, 6, 6, 6, 6, 6, 6, 6, 6, 6, 6, 6, 6, 6, 6, 6, 6, 6, 6, 6, 6, 6, 6, 6, 6, 6, 6, 6, 7, 7, 7, 7, 7, 7, 7, 7, 7, 7, 7, 7, 7, 7, 7, 7, 7, 7, 7, 7, 7, 7, 7, 7, 7, 7, 7, 7, 7, 7, 7, 7, 7, 7, 7, 7, 7, 7, 7, 7, 7, 7, 7, 7, 7, 7, 7, 7, 7, 7, 7, 7, 7, 7, 7, 7, 7, 7, 7, 7, 7, 7, 7, 7, 8, 8, 8, 8, 8, 8, 8, 8, 8, 8, 8, 8, 8, 8, 8, 8, 8, 8, 8, 8, 8, 8, 8, 8, 8, 8, 8, 8, 8, 8, 8, 8, 8, 8, 8, 8, 8, 8, 8, 8, 8, 8, 8, 8, 8, 8, 8, 8, 8, 8, 8, 8, 8, 8, 8, 8, 8, 8, 8, 8, 8, 8, 8, 8, 8, 8, 8, 8, 8, 8, 8, 8, 8, 8, 8, 8, 8, 8, 8, 8, 8, 8, 8, 8, 8, 8, 8, 8, 8, 8, 8, 8, 8, 8, 8, 8, 8, 8, 8, 8, 8, 8, 8, 8, 8, 8, 8, 8, 8, 8, 8, 8, 8, 8, 8, 8, 8, 8, 8, 8, 8, 8, 8, 8, 8, 8, 8, 8]
theorem tab8_spec : ∀ j : Fin 256, ∃ t : Nat, tab8[j.val]? = some (UInt8.ofNat t) ∧ t ≤ 8 ∧ j.val < 2 ^ t ∧ (0 < j.val → 2 ^ (t - 1) ≤ j.val) := by
  have h : ∀ j : Fin 256, (decide ((tab8.getD j.val 9).toNat ≤ 8 ∧ j.val < 2 ^ (tab8.getD j.val 9).toNat ∧ (0 < j.val → 2 ^ ((tab8.getD j.val 9).toNat - 1) ≤ j.val)) = true) := by decide +kernel
  intro j
  have h1 := of_decide_eq_true (h j)
  refine ⟨(tab8.getD j.val 9).toNat, ?_, h1⟩
  rw [List.getD_eq_getElem?_getD, List.getElem?_eq_getElem (show j.val < tab8.length by have := j.isLt; have h9 : tab8.length = 256 := (by decide +kernel); omega)]
  simp
theorem bits_Len64_ok (p : Nat) (hp : p < 18446744073709551616) :
    ∃ L : Nat, L ≤ 64 ∧ p < 2 ^ L ∧ (0 < p → 2 ^ (L - 1) ≤ p) ∧ ∀ w : World, Pure Tryz.prog 226 [U p] w (I L) := by
  obtain ⟨p1, n1, h1⟩ : ∃ p1 n1 : Nat, (4294967296 ≤ p ∧ p1 = p / 2 ^ 32 ∧ n1 = 32) ∨ (¬ 4294967296 ≤ p ∧ p1 = p ∧ n1 = 0) := by
    by_cases h : 4294967296 ≤ p
    · exact ⟨_, _, .inl ⟨h, rfl, rfl⟩⟩
    · exact ⟨_, _, .inr ⟨h, rfl, rfl⟩⟩
  obtain ⟨p2, n2, h2⟩ : ∃ p2 n2 : Nat, (65536 ≤ p1 ∧ p2 = p1 / 2 ^ 16 ∧ n2 = n1 + 16) ∨ (¬ 65536 ≤ p1 ∧ p2 = p1 ∧ n2 = n1) := by
    by_cases h : 65536 ≤ p1
    · exact ⟨_, _, .inl ⟨h, rfl, rfl⟩⟩
    · exact ⟨_, _, .inr ⟨h, rfl, rfl⟩⟩
  obtain ⟨p3, n3, h3⟩ : ∃ p3 n3 : Nat, (256 ≤ p2 ∧ p3 = p2 / 2 ^ 8 ∧ n3 = n2 + 8) ∨ (¬ 256 ≤ p2 ∧ p3 = p2 ∧ n3 = n2) := by
    by_cases h : 256 ≤ p2
    · exact ⟨_, _, .inl ⟨h, rfl, rfl⟩⟩
    · exact ⟨_, _, .inr ⟨h, rfl, rfl⟩⟩
  have hp1 : p1 < 4294967296 := by omega
  have hp2 : p2 < 65536 := by omega
  have hp3 : p3 < 256 := by omega
  obtain ⟨t, ht, ht8, ht1, ht2⟩ := tab8_spec ⟨p3, hp3⟩
  dsimp only at ht ht1 ht2
  have hn : n3 ≤ 56 := by omega
  have hL : p < 2 ^ (n3 + t) ∧ (0 < p → 2 ^ (n3 + t - 1) ≤ p) := by
    have hpp : p3 * 2 ^ n3 ≤ p ∧ p < (p3 + 1) * 2 ^ n3 := by
      rcases h1 with ⟨a1, rfl, rfl⟩ | ⟨a1, rfl, rfl⟩ <;> rcases h2 with ⟨a2, rfl, rfl⟩ | ⟨a2, rfl, rfl⟩ <;> rcases h3 with ⟨a3, rfl, rfl⟩ | ⟨a3, rfl, rfl⟩ <;> (simp only [Nat.zero_add, Nat.reduceAdd, Nat.reducePow] at *; omega)
    refine ⟨?_, fun h0 => ?_⟩
    · have : (p3 + 1) * 2 ^ n3 ≤ 2 ^ t * 2 ^ n3 := Nat.mul_le_mul_right _ ht1
      rw [Nat.pow_add, Nat.mul_comm (2 ^ n3)]; omega
    · have hp30 : 0 < p3 := by
        rcases h1 with ⟨a1, rfl, rfl⟩ | ⟨a1, rfl, rfl⟩ <;> rcases h2 with ⟨a2, rfl, rfl⟩ | ⟨a2, rfl, rfl⟩ <;> rcases h3 with ⟨a3, rfl, rfl⟩ | ⟨a3, rfl, rfl⟩ <;> omega
      have ht0 : 0 < t := by
        rcases Nat.eq_zero_or_pos t with h | h
        · subst h; simp at ht1; omega
        · exact h
      have : 2 ^ (t - 1) * 2 ^ n3 ≤ p3 * 2 ^ n3 := Nat.mul_le_mul_right _ (ht2 hp30)
      rw [show n3 + t - 1 = n3 + (t - 1) by omega, Nat.pow_add, Nat.mul_comm (2 ^ n3)]; omega
  refine ⟨n3 + t, by omega, hL.1, hL.2, fun w => ?_⟩
  refine enter Tryz.func226 Tryz.ntmps226 ?_
  refine c_seq <| c_reg <| s_y y_as <| s_nil <| q_then <| c_join [(0, U p1), (2, I n1)] [] ?_ ?_
  · refine c_seq <| c_reg <| s_y y_mv <| s_y (y_geq (p := p) (q := 4294967296)) <| s_nil <| q_then <| c_ifd (fun h => ?_) (fun h => ?_)
    · obtain ⟨_, rfl, rfl⟩ : 4294967296 ≤ p ∧ p1 = p / 2 ^ 32 ∧ n1 = 32 := by omega
      refine c_seq <| c_reg <| s_y y_mv <| s_y (y_shrW 32) <| s_y y_as <| s_nil <| q_then <| c_reg <| s_y y_as <| s_nil <| q_join ⟨rfl, rfl, trivial⟩ (List.Sublist.refl _)
    · obtain ⟨_, rfl, rfl⟩ : ¬ 4294967296 ≤ p ∧ p1 = p ∧ n1 = 0 := by omega
      refine c_skip <| q_join ⟨rfl, rfl, trivial⟩ (List.Sublist.refl _)
  refine c_join [(0, U p2), (2, I n2)] [] ?_ ?_
  · refine c_seq <| c_reg <| s_y y_mv <| s_y (y_geq (p := p1) (q := 65536)) <| s_nil <| q_then <| c_ifd (fun h => ?_) (fun h => ?_)
    · obtain ⟨_, rfl, rfl⟩ : 65536 ≤ p1 ∧ p2 = p1 / 2 ^ 16 ∧ n2 = n1 + 16 := by omega
      refine c_seq <| c_reg <| s_y y_mv <| s_y (y_shrW 16) <| s_y y_as <| s_nil <| q_then <| c_reg <| s_y y_mv <| s_y (y_add (p := n1) (q := 16)) <| s_y y_as <| s_nil <| q_join ⟨rfl, rfl, trivial⟩ (List.Sublist.refl _)
    · obtain ⟨_, rfl, rfl⟩ : ¬ 65536 ≤ p1 ∧ p2 = p1 ∧ n2 = n1 := by omega
      refine c_skip <| q_join ⟨rfl, rfl, trivial⟩ (List.Sublist.refl _)
  refine c_join [(0, U p3), (2, I n3)] [] ?_ ?_
  · refine c_seq <| c_reg <| s_y y_mv <| s_y (y_geq (p := p2) (q := 256)) <| s_nil <| q_then <| c_ifd (fun h => ?_) (fun h => ?_)
    · obtain ⟨_, rfl, rfl⟩ : 256 ≤ p2 ∧ p3 = p2 / 2 ^ 8 ∧ n3 = n2 + 8 := by omega
      refine c_seq <| c_reg <| s_y y_mv <| s_y (y_shrW 8) <| s_y y_as <| s_nil <| q_then <| c_reg <| s_y y_mv <| s_y (y_add (p := n2) (q := 8)) <| s_y y_as <| s_nil <| q_join ⟨rfl, rfl, trivial⟩ (List.Sublist.refl _)
    · obtain ⟨_, rfl, rfl⟩ : ¬ 256 ≤ p2 ∧ p3 = p2 ∧ n3 = n2 := by omega
      refine c_skip <| q_join ⟨rfl, rfl, trivial⟩ (List.Sublist.refl _)
  refine c_seq <| c_reg <| s_y y_mv <| s_y y_mv <| s_y (y_cv8 (p := p3)) <| s_y (y_ixst p3 (s := ⟨tab8.toArray⟩) (b := UInt8.ofNat t) (by rw [List.getElem?_toArray]; exact ht) (hj := by rw [UInt8.toNat_ofNat']; omega)) <| s_y y_cvb <| s_y (y_add (p := n3) (q := ((UInt8.ofNat t).toNat : Int)) (hr := by rw [UInt8.toNat_ofNat']; unfold R64; omega)) <| s_y y_as <| s_nil <| q_then <| c_ret <| ?_
  refine ret1 Tryz.results226 rv_t fun w' hw => ⟨?_, hw⟩
  rw [UInt8.toNat_ofNat', show (n3 : Int) + ((t % 2 ^ 8 : Nat) : Int) = ((n3 + t : Nat) : Int) by omega]
theorem bits_LeadingZeros64_ok (p : Nat) (h0 : 0 < p) (hp : p < 18446744073709551616) :
    ∃ s : Nat, s ≤ 63 ∧ p * 2 ^ s < 18446744073709551616 ∧ 9223372036854775808 ≤ p * 2 ^ s ∧ ∀ w : World, Pure Tryz.prog 228 [U p] w (I s) := by
  obtain ⟨L, hL, h1, h2, hu⟩ := bits_Len64_ok p hp
  have hL0 : 0 < L := by
    rcases Nat.eq_zero_or_pos L with h | h
    · subst h; simp at h1; omega
    · exact h
  have e1 : 2 ^ L * 2 ^ (64 - L) = 18446744073709551616 := by rw [← Nat.pow_add, show L + (64 - L) = 64 by omega]
  have e2 : 2 ^ (L - 1) * 2 ^ (64 - L) = 9223372036854775808 := by rw [← Nat.pow_add, show L - 1 + (64 - L) = 63 by omega]
  refine ⟨64 - L, by omega, ?_, ?_, fun w => ?_⟩
  · rw [← e1]; exact Nat.mul_lt_mul_of_pos_right h1 (Nat.two_pow_pos _)
  · rw [← e2]; exact Nat.mul_le_mul_right _ (h2 h0)
  · refine enter Tryz.func228 Tryz.ntmps228 ?_
    refine c_seq <| c_reg <| s_y y_as <| s_nil <| q_then <| c_seq <| c_reg <| s_y y_mv <| s_pure (fun w' hw => hu w') <| s_y (y_sub (p := 64) (q := L)) <| s_y y_as <| s_nil <| q_then <| c_ret <| ?_
    refine ret1 Tryz.results228 rv_t fun w' hw => ⟨?_, hw⟩
    rw [show (64 : Int) - (L : Int) = ((64 - L : Nat) : Int) by omega]
end Go.Proofs.YtejdjnkilikehaaGreatDoor
namespace Dv
theorem kn_true {u y h e d q r : Nat} (hu : u < y) (hy : y = h * 4294967296 + e) (hq : q * h + r = u) (hc : 4294967296 ≤ q ∨ 4294967296 * r + d < q * e) (hd : d < 4294967296) : (u * 4294967296 + d) / y < q := by
  have hy0 : 0 < y := by omega
  rcases hc with hc | hc
  · refine Nat.lt_of_lt_of_le (Nat.div_lt_of_lt_mul ?_) hc
    have : (u + 1) * 4294967296 ≤ y * 4294967296 := Nat.mul_le_mul_right _ hu
    omega
  · refine Nat.div_lt_of_lt_mul ?_
    subst hy
    have e1 : (h * 4294967296 + e) * q = q * h * 4294967296 + q * e := by rw [Nat.add_mul, Nat.mul_comm q h, Nat.mul_right_comm, Nat.mul_comm e q]
    rw [e1]
    generalize q * h = a at *
    generalize q * e = b at *
    omega
theorem kn_le {u y h e d q r : Nat} (hy0 : 0 < y) (hy : y = h * 4294967296 + e) (hq : q * h + r = u) (hc : q * e ≤ 4294967296 * r + d) : q ≤ (u * 4294967296 + d) / y := by
  refine (Nat.le_div_iff_mul_le hy0).2 ?_
  subst hy
  have e1 : q * (h * 4294967296 + e) = q * h * 4294967296 + q * e := by rw [Nat.mul_add, Nat.mul_assoc]
  rw [e1]
  generalize q * h = a at *
  generalize q * e = b at *
  omega
theorem kn_top {u y h e : Nat} (hu : u < y) (hy : y = h * 4294967296 + e) (he : e < 4294967296) (hh : 2147483648 ≤ h) : u / h ≤ 4294967296 + 1 := by
  have : u / h < 4294967296 + 2 := Nat.div_lt_of_lt_mul (by
    rw [Nat.mul_add]; omega)
  omega
theorem kn_ge {u y h e d : Nat} (hy : y = h * 4294967296 + e) (hh : 0 < h) (hd : d < 4294967296) : (u * 4294967296 + d) / y ≤ u / h := by
  refine (Nat.le_div_iff_mul_le hh).2 ?_
  have h1 : (u * 4294967296 + d) / y * y ≤ u * 4294967296 + d := Nat.div_mul_le_self _ _
  generalize (u * 4294967296 + d) / y = q at *
  subst hy
  have e1 : q * (h * 4294967296 + e) = q * h * 4294967296 + q * e := by rw [Nat.mul_add, Nat.mul_assoc]
  rw [e1] at h1
  generalize q * h = a at *
  generalize q * e = b at *
  omega
theorem kn_small {q e : Nat} (hq : q ≤ 4294967296) (he : e < 4294967296) : q * e ≤ 18446744069414584320 := by
  have := Nat.mul_le_mul hq (show e ≤ 4294967295 by omega)
  omega
theorem wrapsub {u d z R : Nat} (h : u * 4294967296 + d = z + R) (hR : R < 18446744073709551616) : ((u * 4294967296 % 18446744073709551616 + d) % 18446744073709551616 + (18446744073709551616 - z % 18446744073709551616 % 18446744073709551616)) % 18446744073709551616 = R := by omega
theorem two {u l1 l0 y q1 r1 : Nat} (hy : 0 < y) (h1 : u * 4294967296 + l1 = q1 * y + r1) (q0 r0 : Nat) (h0 : r1 * 4294967296 + l0 = q0 * y + r0) (hr0 : r0 < y) :
    (u * 18446744073709551616 + (l1 * 4294967296 + l0)) / y = q1 * 4294967296 + q0 ∧ (u * 18446744073709551616 + (l1 * 4294967296 + l0)) % y = r0 := by
  have e1 : (q1 * 4294967296 + q0) * y = q1 * y * 4294967296 + q0 * y := by rw [Nat.add_mul, Nat.mul_right_comm]
  obtain ⟨N, hN⟩ : ∃ N, N = u * 18446744073709551616 + (l1 * 4294967296 + l0) := ⟨_, rfl⟩
  obtain ⟨K, hK⟩ : ∃ K, K = q1 * 4294967296 + q0 := ⟨_, rfl⟩
  rw [← hK] at e1
  have e : N = K * y + r0 := by
    generalize q1 * y = a at *
    generalize q0 * y = b at *
    omega
  rw [← hN, ← hK, e]
  constructor
  · rw [Nat.mul_comm, Nat.mul_add_div hy, Nat.div_eq_of_lt hr0, Nat.add_zero]
  · rw [Nat.mul_comm, Nat.mul_add_mod, Nat.mod_eq_of_lt hr0]
theorem shifted {x y k : Nat} : (x * 2 ^ k) / (y * 2 ^ k) = x / y ∧ (x * 2 ^ k) % (y * 2 ^ k) / 2 ^ k = x % y :=
  ⟨Nat.mul_div_mul_right _ _ (Nat.two_pow_pos k), by rw [Nat.mul_mod_mul_right, Nat.mul_div_cancel _ (Nat.two_pow_pos k)]⟩
theorem words {hi lo s : Nat} (hs : s ≤ 63) (hlo : lo < 18446744073709551616) : hi * 2 ^ s ||| lo / 2 ^ (64 - s) = hi * 2 ^ s + lo / 2 ^ (64 - s) ∧ (hi * 2 ^ s + lo / 2 ^ (64 - s)) * 18446744073709551616 + lo * 2 ^ s % 18446744073709551616 = (hi * 18446744073709551616 + lo) * 2 ^ s := by
  have e1 : 2 ^ s * 2 ^ (64 - s) = 18446744073709551616 := by rw [← Nat.pow_add, show s + (64 - s) = 64 by omega]
  have h1 : lo / 2 ^ (64 - s) < 2 ^ s := Nat.div_lt_of_lt_mul (by rw [Nat.mul_comm, e1]; exact hlo)
  constructor
  · rw [Nat.mul_comm hi, ← Nat.two_pow_add_eq_or_of_lt h1]
  · have h2 : lo * 2 ^ s / 18446744073709551616 = lo / 2 ^ (64 - s) := by
      rw [← e1, Nat.mul_comm lo, Nat.mul_div_mul_left _ _ (Nat.two_pow_pos s)]
    have h3 := Nat.div_add_mod (lo * 2 ^ s) 18446744073709551616
    rw [h2] at h3
    rw [Nat.add_mul (hi * 18446744073709551616), Nat.mul_right_comm hi]
    generalize hi * 2 ^ s = a at *
    generalize lo * 2 ^ s = b at *
    generalize lo / 2 ^ (64 - s) = c at *
    omega
theorem mulB {u y l : Nat} (h : u < y) (hl : l < 4294967296) : u * 4294967296 + l < y * 4294967296 := by omega
theorem mulA {u : Nat} (h : u < 4294967296) : u * 4294967296 < 18446744073709551616 := by omega
theorem addA {u l : Nat} (h : u < 4294967296) (hl : l < 4294967296) : u * 4294967296 + l < 18446744073709551616 := by omega
end Dv
namespace Go.Proofs.YtejdjnkilikehaaGreatDoor
open Go Eng Dv
theorem bits_Div64_ok (w : World) (hi lo y : Nat) (h1 : hi < y) (hlo : lo < 18446744073709551616) (hyM : y < 18446744073709551616) :
    Pure Tryz.prog 206 [U hi, U lo, U y] w (.tuple #[U ((hi * 18446744073709551616 + lo) / y), U ((hi * 18446744073709551616 + lo) % y)]) := by
  refine enter Tryz.func206 Tryz.ntmps206 ?_
  refine c_seq <| c_reg <| s_y y_as <| s_y y_as <| s_nil <| q_then <| c_seq <| c_seq <| c_reg <| s_y y_mv <| s_kf (y_eql (p := y) (q := 0)) (by omega) <| s_nil <| q_then <| c_f <| c_skip <| q_then <| c_seq <| c_seq <| c_reg <| s_y y_mv <| s_y y_mv <| s_kf (y_leq (p := y) (q := hi)) (by omega) <| s_nil <| q_then <| c_f <| c_skip <| q_then <| c_seq <| c_seq <| c_reg <| s_y y_mv <| s_y (y_eql (p := hi) (q := 0)) <| s_nil <| q_then <| c_ifd (fun h27 => ?_) (fun h27 => ?_)
  · have hi0 : hi = 0 := by omega
    subst hi0
    refine c_seq <| c_regd <| d_y y_mv <| d_y y_mv <| d_y (y_quo64 (p := lo) (q := y)) <| d_y y_mv <| d_y y_mv <| d_y (y_rem64 (p := lo) (q := y)) <| d_y y_as <| d_y y_as <| d_nil <| q_then <| c_ret <| q_ret <| ?_
    refine ret2 Tryz.results206 rv_t rv_t fun w' hw => ⟨?_, hw⟩
    rw [Nat.zero_mul, Nat.zero_add]
  obtain ⟨s, hs, hsM, hsB, hlz⟩ := bits_LeadingZeros64_ok y (by omega) hyM
  have hwd := words (hi := hi) (lo := lo) (s := s) hs hlo
  have hsh := shifted (x := hi * 18446744073709551616 + lo) (y := y) (k := s)
  have hXY : (hi * 18446744073709551616 + lo) * 2 ^ s < y * 2 ^ s * 18446744073709551616 := by
    rw [Nat.mul_right_comm]
    exact Nat.mul_lt_mul_of_pos_right (by omega) (Nat.two_pow_pos s)
  have hhs : hi * 2 ^ s < y * 2 ^ s := Nat.mul_lt_mul_of_pos_right h1 (Nat.two_pow_pos s)
  have hlz2 : lo / 2 ^ (64 - s) ≤ lo := Nat.div_le_self _ _
  refine c_skip <| q_then <| c_seq <| c_reg <| s_y y_mv <| s_pure (fun w' hw => hlz w') <| s_y y_cvn <| s_y y_as <| s_nil <| q_then <| c_seq <| c_reg <| s_y y_mv <| s_y y_mv <| s_y (y_shlW s) <| ?_
  rw [Nat.mod_eq_of_lt hsM]
  rw [← hsh.1, ← hsh.2]
  obtain ⟨Y, hY⟩ : ∃ Y, Y = y * 2 ^ s := ⟨_, rfl⟩
  obtain ⟨h, hhd⟩ : ∃ h, h = Y / 2 ^ 32 := ⟨_, rfl⟩
  obtain ⟨e, hed⟩ : ∃ e, e = Y % 2 ^ 32 := ⟨_, rfl⟩
  obtain ⟨v, hvd⟩ : ∃ v, v = lo * 2 ^ s % 18446744073709551616 := ⟨_, rfl⟩
  obtain ⟨l1, hl1⟩ : ∃ l1, l1 = v / 2 ^ 32 := ⟨_, rfl⟩
  obtain ⟨l0, hl0⟩ : ∃ l0, l0 = v % 2 ^ 32 := ⟨_, rfl⟩
  rw [← hY] at hsM hsB hXY hhs ⊢
  refine s_y y_as <| s_nil <| q_then <| c_seq <| c_reg <| s_y y_mv <| s_y (y_shrW 32) <| ?_
  rw [← hhd]
  refine s_y y_as <| s_nil <| q_then <| c_seq <| c_reg <| s_y y_mv <| s_y (y_mask (p := Y) 32) <| ?_
  rw [← hed]
  refine s_y y_as <| s_nil <| q_then <| c_seq <| c_reg <| s_y y_mv <| s_y y_mv <| s_y (y_shlW s) <| ?_
  rw [Nat.mod_eq_of_lt (show hi * 2 ^ s < 18446744073709551616 by omega)]
  refine s_y y_mv <| s_y y_mv <| s_y (y_sub64 (p := 64) (q := s)) <| s_y (y_shrW (64 - s)) <| s_y (y_orU (p := hi * 2 ^ s) (q := lo / 2 ^ (64 - s))) <| ?_
  rw [hwd.1]
  have hw2 := hwd.2
  rw [← hvd] at hw2
  obtain ⟨u, hu⟩ : ∃ u, u = hi * 2 ^ s + lo / 2 ^ (64 - s) := ⟨_, rfl⟩
  rw [← hu] at hw2 ⊢
  rw [← hw2] at hXY ⊢
  refine s_y y_as <| s_nil <| q_then <| c_seq <| c_reg <| s_y y_mv <| s_y y_mv <| s_y (y_shlW s) <| ?_
  rw [← hvd]
  refine s_y y_as <| s_nil <| q_then <| c_seq <| c_reg <| s_y y_mv <| s_y (y_shrW 32) <| ?_
  rw [← hl1]
  refine s_y y_as <| s_nil <| q_then <| c_seq <| c_reg <| s_y y_mv <| s_y (y_mask (p := v) 32) <| ?_
  rw [← hl0]
  have hv : v = l1 * 4294967296 + l0 := by omega
  have hl1B : l1 < 4294967296 := by omega
  have hl0B : l0 < 4294967296 := by omega
  have huY : u < Y := by omega
  have hYe : Y = h * 4294967296 + e := by omega
  have he : e < 4294967296 := by omega
  have hh : 2147483648 ≤ h := by omega
  have hh2 : h < 4294967296 := by omega
  have hb1 : u * 4294967296 + l1 < Y * 4294967296 := mulB huY hl1B
  obtain ⟨Q1, hQ1⟩ : ∃ Q1, Q1 = (u * 4294967296 + l1) / Y := ⟨_, rfl⟩
  obtain ⟨R1, hR1⟩ : ∃ R1, R1 = (u * 4294967296 + l1) % Y := ⟨_, rfl⟩
  have hdm1 := Nat.div_add_mod (u * 4294967296 + l1) Y
  rw [← hQ1, ← hR1, Nat.mul_comm] at hdm1
  have hR1Y : R1 < Y := by rw [hR1]; exact Nat.mod_lt _ (by omega)
  have hQ1B : Q1 < 4294967296 := Nat.lt_of_le_of_lt (Nat.le_of_eq hQ1) (Nat.div_lt_of_lt_mul hb1)
  have hb0 : R1 * 4294967296 + l0 < Y * 4294967296 := mulB hR1Y hl0B
  obtain ⟨Q0, hQ0⟩ : ∃ Q0, Q0 = (R1 * 4294967296 + l0) / Y := ⟨_, rfl⟩
  obtain ⟨R0, hR0⟩ : ∃ R0, R0 = (R1 * 4294967296 + l0) % Y := ⟨_, rfl⟩
  have hdm0 := Nat.div_add_mod (R1 * 4294967296 + l0) Y
  rw [← hQ0, ← hR0, Nat.mul_comm] at hdm0
  have hR0Y : R0 < Y := by rw [hR0]; exact Nat.mod_lt _ (by omega)
  have hQ0B : Q0 < 4294967296 := Nat.lt_of_le_of_lt (Nat.le_of_eq hQ0) (Nat.div_lt_of_lt_mul hb0)
  have htwo := two (show 0 < Y by omega) hdm1.symm Q0 R0 hdm0.symm hR0Y
  have hcu : u / h * h ≤ u := Nat.div_mul_le_self _ _
  have hcr : R1 / h * h ≤ R1 := Nat.div_mul_le_self _ _
  rw [hv, htwo.1, htwo.2]
  clear hlz hwd hsh hw2 hvd hu hl1 hl0
  refine s_y y_as <| s_nil <| q_then <| c_seq <| c_reg <| s_y y_mv <| s_y y_mv <| s_y (y_quo64 (p := u) (q := h)) <| s_y y_as <| s_nil <| q_then <| c_seq <| c_reg <| s_y y_mv <| s_y y_mv <| s_y y_mv <| s_y (y_mul64 (p := u / h) (q := h)) <| s_y (y_sub64 (p := u) (q := u / h * h)) <| s_y y_as <| s_nil <| q_then <| ?_
  refine c_join [(15, U Q1), (2, U Y), (8, U s), (9, U h), (10, U e), (11, U u), (13, U l1), (14, U l0)] [] ?_ ?_
  · have htop := kn_top huY hYe he hh
    have hge := kn_ge (u := u) (y := Y) (h := h) (e := e) (d := l1) hYe (by omega) hl1B
    have hdm := Nat.div_add_mod u h
    have hml := Nat.mod_lt u (show 0 < h by omega)
    rw [← hQ1] at hge
    have hcm : u / h * h = h * (u / h) := Nat.mul_comm _ _
    refine c_block <| c_loop2 (fun q r => [(15, U q), (16, U r), (2, U Y), (8, U s), (9, U h), (10, U e), (11, U u), (13, U l1), (14, U l0)]) (fun _ _ => []) (fun q r => q * h + r = u ∧ r < 4294967296 ∧ Q1 ≤ q ∧ q ≤ 4294967297) (fun q _ => q) (u / h) (u - u / h * h) ⟨by omega, by omega, hge, htop⟩ ⟨rfl, rfl, rfl, rfl, rfl, rfl, rfl, rfl, rfl, trivial⟩ (List.Sublist.refl _) ?_
    intro q r ⟨hq, hr, hQq, hqt⟩
    refine c_seq <| c_join ([(15, U q), (16, U r), (2, U Y), (8, U s), (9, U h), (10, U e), (11, U u), (13, U l1), (14, U l0), (78, .bool (decide (4294967296 ≤ q ∨ 4294967296 * r + l1 < q * e)))]) [] ?_ ?_
    · refine c_reg <| s_y y_mv <| s_ifd (y_geq (p := q) (q := 4294967296)) (fun h1 => ?_) (fun h1 => ?_)
      · have h2 : 4294967296 ≤ q ∨ 4294967296 * r + l1 < q * e := .inl (by omega)
        refine s_y y_mv <| s_no <| s_no <| s_no <| s_no <| s_no <| s_no <| s_no <| s_no <| s_y (y_pkT (v := .bool true)) <| s_nil <| q_join ⟨rfl, rfl, rfl, rfl, rfl, rfl, rfl, rfl, rfl, by rw [decide_eq_true h2]; rfl, trivial⟩ (List.Sublist.refl _)
      · have hqe := kn_small (q := q) (e := e) (by omega) he
        refine s_y y_mv <| s_y y_mv <| s_y y_mv <| s_y (y_mul64 (p := q) (q := e)) <| s_y y_mv <| s_y (y_mul64 (p := 4294967296) (q := r)) <| s_y y_mv <| s_y (y_add64 (p := 4294967296 * r) (q := l1)) <| s_y (y_gtr (p := ((q * e : Nat) : Int)) (q := ((4294967296 * r + l1 : Nat) : Int))) <| s_y (y_pkF (v := .bool (decide (((4294967296 * r + l1 : Nat) : Int) < ((q * e : Nat) : Int))))) <| s_nil <| q_join ⟨rfl, rfl, rfl, rfl, rfl, rfl, rfl, rfl, rfl, by rw [show decide (4294967296 ≤ q ∨ 4294967296 * r + l1 < q * e) = decide (((4294967296 * r + l1 : Nat) : Int) < ((q * e : Nat) : Int)) from decide_eq_decide.2 ⟨fun h9 => by omega, fun h9 => .inr (by omega)⟩]; rfl, trivial⟩ (List.Sublist.refl _)
    · refine c_ifd (fun h3 => ?_) (fun h3 => ?_)
      · have hlt := kn_true huY hYe hq h3 hl1B
        rw [← hQ1] at hlt
        have hq1 : (q - 1) * h + (r + h) = u := by
          have : q * h = (q - 1) * h + h := by rw [← Nat.succ_mul]; congr 1; omega
          omega
        refine c_skip <| q_then <| c_block <| c_seq <| c_reg <| s_y y_mv <| s_y (y_sub64 (p := q) (q := 1)) <| s_y y_as <| s_nil <| q_then <| c_seq <| c_reg <| s_y y_mv <| s_y y_mv <| s_y (y_add64 (p := r) (q := h)) <| s_y y_as <| s_nil <| q_then <| c_seq <| c_reg <| s_y y_mv <| s_y (y_geq (p := ((r + h : Nat) : Int)) (q := 4294967296)) <| s_nil <| q_then <| c_ifd (fun h4 => ?_) (fun h4 => ?_)
        · have hqe := kn_small (q := q - 1) (e := e) (by omega) he
          have hle := kn_le (d := l1) (by omega) hYe hq1 (by omega)
          rw [← hQ1] at hle
          have hqQ : q - 1 = Q1 := by omega
          rw [hqQ]
          refine c_exit <| q_exn rfl <| q_ex <| q_exb <| q_join ⟨rfl, rfl, rfl, rfl, rfl, rfl, rfl, rfl, trivial⟩ (List.Sublist.refl _)
        · refine c_skip <| q_nb <| q_round2 (y := r) (q - 1) (r + h) ⟨hq1, by omega, by omega, by omega⟩ (by omega) ⟨rfl, rfl, rfl, rfl, rfl, rfl, rfl, rfl, rfl, trivial⟩ (List.Sublist.refl _)
      · have hle := kn_le (d := l1) (by omega) hYe hq (by omega)
        rw [← hQ1] at hle
        have hqQ : q = Q1 := by omega
        subst hqQ
        refine c_exit <| q_ex <| q_ex <| q_exb <| q_join ⟨rfl, rfl, rfl, rfl, rfl, rfl, rfl, rfl, trivial⟩ (List.Sublist.refl _)
  refine c_seq <| c_reg <| s_y y_mv <| s_y (y_mulW (p := u) (q := 4294967296)) <| s_y y_mv <| s_y (y_addW (p := u * 4294967296 % 18446744073709551616) (q := l1)) <| s_y y_mv <| s_y y_mv <| s_y (y_mulW (p := Q1) (q := Y)) <| s_y (y_subW (p := (u * 4294967296 % 18446744073709551616 + l1) % 18446744073709551616) (q := Q1 * Y % 18446744073709551616)) <| ?_
  rw [wrapsub (R := R1) hdm1.symm (by omega)]
  refine s_y y_as <| s_nil <| q_then <| c_seq <| c_reg <| s_y y_mv <| s_y y_mv <| s_y (y_quo64 (p := R1) (q := h)) <| s_y y_as <| s_nil <| q_then <| c_seq <| c_reg <| s_y y_mv <| s_y y_mv <| s_y y_mv <| s_y (y_mul64 (p := R1 / h) (q := h)) <| s_y (y_sub64 (p := R1) (q := R1 / h * h)) <| s_y y_as <| s_nil <| q_then <| ?_
  refine c_join [(18, U Q0), (2, U Y), (8, U s), (9, U h), (10, U e), (14, U l0), (15, U Q1), (17, U R1)] [] ?_ ?_
  · have htop := kn_top hR1Y hYe he hh
    have hge := kn_ge (u := R1) (y := Y) (h := h) (e := e) (d := l0) hYe (by omega) hl0B
    have hdm := Nat.div_add_mod R1 h
    have hml := Nat.mod_lt R1 (show 0 < h by omega)
    rw [← hQ0] at hge
    have hcm : R1 / h * h = h * (R1 / h) := Nat.mul_comm _ _
    refine c_block <| c_loop2 (fun q r => [(18, U q), (16, U r), (2, U Y), (8, U s), (9, U h), (10, U e), (14, U l0), (15, U Q1), (17, U R1)]) (fun _ _ => []) (fun q r => q * h + r = R1 ∧ r < 4294967296 ∧ Q0 ≤ q ∧ q ≤ 4294967297) (fun q _ => q) (R1 / h) (R1 - R1 / h * h) ⟨by omega, by omega, hge, htop⟩ ⟨rfl, rfl, rfl, rfl, rfl, rfl, rfl, rfl, rfl, trivial⟩ (List.Sublist.refl _) ?_
    intro q r ⟨hq, hr, hQq, hqt⟩
    refine c_seq <| c_join ([(18, U q), (16, U r), (2, U Y), (8, U s), (9, U h), (10, U e), (14, U l0), (15, U Q1), (17, U R1), (113, .bool (decide (4294967296 ≤ q ∨ 4294967296 * r + l0 < q * e)))]) [] ?_ ?_
    · refine c_reg <| s_y y_mv <| s_ifd (y_geq (p := q) (q := 4294967296)) (fun h1 => ?_) (fun h1 => ?_)
      · have h2 : 4294967296 ≤ q ∨ 4294967296 * r + l0 < q * e := .inl (by omega)
        refine s_y y_mv <| s_no <| s_no <| s_no <| s_no <| s_no <| s_no <| s_no <| s_no <| s_y (y_pkT (v := .bool true)) <| s_nil <| q_join ⟨rfl, rfl, rfl, rfl, rfl, rfl, rfl, rfl, rfl, by rw [decide_eq_true h2]; rfl, trivial⟩ (List.Sublist.refl _)
      · have hqe := kn_small (q := q) (e := e) (by omega) he
        refine s_y y_mv <| s_y y_mv <| s_y y_mv <| s_y (y_mul64 (p := q) (q := e)) <| s_y y_mv <| s_y (y_mul64 (p := 4294967296) (q := r)) <| s_y y_mv <| s_y (y_add64 (p := 4294967296 * r) (q := l0)) <| s_y (y_gtr (p := ((q * e : Nat) : Int)) (q := ((4294967296 * r + l0 : Nat) : Int))) <| s_y (y_pkF (v := .bool (decide (((4294967296 * r + l0 : Nat) : Int) < ((q * e : Nat) : Int))))) <| s_nil <| q_join ⟨rfl, rfl, rfl, rfl, rfl, rfl, rfl, rfl, rfl, by rw [show decide (4294967296 ≤ q ∨ 4294967296 * r + l0 < q * e) = decide (((4294967296 * r + l0 : Nat) : Int) < ((q * e : Nat) : Int)) from decide_eq_decide.2 ⟨fun h9 => by omega, fun h9 => .inr (by omega)⟩]; rfl, trivial⟩ (List.Sublist.refl _)
    · refine c_ifd (fun h3 => ?_) (fun h3 => ?_)
      · have hlt := kn_true hR1Y hYe hq h3 hl0B
        rw [← hQ0] at hlt
        have hq1 : (q - 1) * h + (r + h) = R1 := by
          have : q * h = (q - 1) * h + h := by rw [← Nat.succ_mul]; congr 1; omega
          omega
        refine c_skip <| q_then <| c_block <| c_seq <| c_reg <| s_y y_mv <| s_y (y_sub64 (p := q) (q := 1)) <| s_y y_as <| s_nil <| q_then <| c_seq <| c_reg <| s_y y_mv <| s_y y_mv <| s_y (y_add64 (p := r) (q := h)) <| s_y y_as <| s_nil <| q_then <| c_seq <| c_reg <| s_y y_mv <| s_y (y_geq (p := ((r + h : Nat) : Int)) (q := 4294967296)) <| s_nil <| q_then <| c_ifd (fun h4 => ?_) (fun h4 => ?_)
        · have hqe := kn_small (q := q - 1) (e := e) (by omega) he
          have hle := kn_le (d := l0) (by omega) hYe hq1 (by omega)
          rw [← hQ0] at hle
          have hqQ : q - 1 = Q0 := by omega
          rw [hqQ]
          refine c_exit <| q_exn rfl <| q_ex <| q_exb <| q_join ⟨rfl, rfl, rfl, rfl, rfl, rfl, rfl, rfl, trivial⟩ (List.Sublist.refl _)
        · refine c_skip <| q_nb <| q_round2 (y := r) (q - 1) (r + h) ⟨hq1, by omega, by omega, by omega⟩ (by omega) ⟨rfl, rfl, rfl, rfl, rfl, rfl, rfl, rfl, rfl, trivial⟩ (List.Sublist.refl _)
      · have hle := kn_le (d := l0) (by omega) hYe hq (by omega)
        rw [← hQ0] at hle
        have hqQ : q = Q0 := by omega
        subst hqQ
        refine c_exit <| q_ex <| q_ex <| q_exb <| q_join ⟨rfl, rfl, rfl, rfl, rfl, rfl, rfl, rfl, trivial⟩ (List.Sublist.refl _)
  refine c_seq <| c_reg <| s_y y_mv <| s_y (y_mul64 (p := Q1) (q := 4294967296) (hp := mulA hQ1B)) <| s_y y_mv <| s_y (y_add64 (p := Q1 * 4294967296) (q := Q0) (hp := addA hQ1B hQ0B)) <| s_y y_mv <| s_y (y_mulW (p := R1) (q := 4294967296)) <| s_y y_mv <| s_y (y_addW (p := R1 * 4294967296 % 18446744073709551616) (q := l0)) <| s_y y_mv <| s_y y_mv <| s_y (y_mulW (p := Q0) (q := Y)) <| s_y (y_subW (p := (R1 * 4294967296 % 18446744073709551616 + l0) % 18446744073709551616) (q := Q0 * Y % 18446744073709551616)) <| ?_
  rw [wrapsub (R := R0) hdm0.symm (by omega)]
  refine s_y y_mv <| s_y (y_shrW s) <| s_y y_as <| s_y y_as <| s_nil <| q_then <| c_ret <| ?_
  exact ret2 Tryz.results206 rv_t rv_t fun w' hw => ⟨rfl, hw⟩
end Go.Proofs.YtejdjnkilikehaaGreatDoor
end
section
namespace Dv
def rst (y : Nat) (l : List UInt8) : Nat := l.foldl (fun r b => (r * 256 + b.toNat) % y) 0
theorem rst_fold {y : Nat} (hy : 0 < y) : ∀ (l : List UInt8) (r : Nat), r < y → l.foldl (fun r b => (r * 256 + b.toNat) % y) r < y
  | [], _, h => h
  | _ :: l, _, _ => rst_fold hy l _ (Nat.mod_lt _ hy)
theorem rst_lt {y : Nat} (hy : 0 < y) (l : List UInt8) : rst y l < y := rst_fold hy l 0 hy
theorem rst_take (y : Nat) (l : List UInt8) (i : Nat) (h : i < l.length) : rst y (l.take (i + 1)) = (rst y (l.take i) * 256 + (l[i]).toNat) % y := by
  unfold rst
  rw [List.take_add_one, List.getElem?_eq_getElem h, List.foldl_append]; rfl
theorem orb {r b : Nat} (hb : b < 256) : r * 2 ^ 8 % 18446744073709551616 ||| b = 256 * (r % 72057594037927936) + b := by
  have e : r * 2 ^ 8 % 18446744073709551616 = 2 ^ 8 * (r % 72057594037927936) := by omega
  rw [e, ← Nat.two_pow_add_eq_or_of_lt (i := 8) (by simpa using hb)]
theorem hilo {r b : Nat} : r / 2 ^ 56 * 18446744073709551616 + (256 * (r % 72057594037927936) + b) = r * 256 + b := by omega
theorem prod_odd {a b c m : Nat} (h : b % 2 = 1) : ((c + a) % m + (a + a) % m * (b / 2)) % m = (c + a * b) % m := by
  have e : c + a * b = c + a + (a + a) * (b / 2) := by
    have : b = 1 + 2 * (b / 2) := by omega
    generalize b / 2 = k at *
    subst this
    rw [Nat.mul_add, Nat.mul_one, ← Nat.mul_assoc, Nat.mul_two, Nat.add_assoc]
  rw [e, Nat.add_mod (c + a), Nat.add_mod ((c + a) % m), Nat.mod_mod, Nat.mul_mod, Nat.mod_mod, ← Nat.mul_mod]
theorem prod_even {a b c m : Nat} (h : b % 2 = 0) : (c + (a + a) % m * (b / 2)) % m = (c + a * b) % m := by
  have e : c + a * b = c + (a + a) * (b / 2) := by
    have : b = 2 * (b / 2) := by omega
    generalize b / 2 = k at *
    subst this
    rw [← Nat.mul_assoc, Nat.mul_two]
  rw [e, Nat.add_mod c, Nat.mul_mod, Nat.mod_mod, ← Nat.mul_mod, ← Nat.add_mod]
end Dv
namespace Go.Proofs.YtejdjnkilikehaaGreatDoor
open Go Eng Sha Cod Dv
theorem rest_1_ok (w : World) (b4 b3 : Nat) (b : UInt8) (r y : Nat) (hp : (Res.blk b4 (.cells #[U r] 146 (0, 0))).holds w) (hy : Rd w (some ⟨b3, 0, none⟩) [U y]) (hne : b3 ≠ b4) (hr : r < y) (hyM : y < 18446744073709551616) :
    Gives Tryz.prog 224 [B b, .pointer (some ⟨b4, 0, none⟩), .pointer (some ⟨b3, 0, none⟩)] w (keys [.blk b4 (.cells #[U r] 146 (0, 0))]) (fun _ : Unit => .tuple #[]) (fun _ => [.blk b4 (.cells #[U ((r * 256 + b.toNat) % y)] 146 (0, 0))]) (fun _ => True) := by
  have hb := b.toNat_lt
  have hap : ∀ b' ∈ keys [Res.blk b4 (.cells #[U r] 146 (0, 0))], (some (⟨b3, 0, none⟩ : Addr)).map (·.block) ≠ some b' := fun b' hb' e => by
    obtain ⟨q', hq', hk⟩ := mem_keys.1 hb'
    rw [List.mem_singleton] at hq'
    subst hq'
    cases hk; cases e; exact hne rfl
  refine enterR Tryz.func224 Tryz.ntmps224 hp ?_
  refine c_reg <| s_y (y_ld (v := U r)) <| s_y (y_shrW 56) <| s_y (y_ld (v := U r)) <| s_y (y_shlW 8) <| s_y y_mv <| s_y (y_cvn (k := .u64) (p := (b.toNat : Int)) (hw := wrap_u64 (by omega) (by omega))) <| s_y (y_orU (p := r * 2 ^ 8 % 18446744073709551616) (q := b.toNat)) <| ?_
  rw [orb (by omega)]
  refine s_y (y_ldr (a := some ⟨b3, 0, none⟩) (i := 0) (xs := [U y]) (v := U y) rfl (hr := rdW hy hap)) <| s_pure (fun w' hw => bits_Div64_ok w' (r / 2 ^ 56) (256 * (r % 72057594037927936) + b.toNat) y (by omega) (by omega) hyM) <| ?_
  rw [hilo]
  refine s_y y_mv <| s_y y_ext <| s_y y_ext <| s_st (v := U ((r * 256 + b.toNat) % y)) (cs := #[U r]) (hl := Nat.zero_lt_one) ?_
  refine s_nil <| ?_
  exact ret0 Tryz.results224 (fun w' hw => ⟨(), trivial, rfl, hw⟩) _ (.inr rfl)
theorem nd2 {a b : Nat} {x y : Obj} (h : (keys [.blk a x, .blk b y]).Nodup) : b ≠ a := fun e => by
  have h9 : keys [.blk a x, .blk b y] = [a, b] := rfl
  rw [h9, e] at h
  simp at h
theorem group_rest_ok (w : World) (q : List UInt8) (y : Nat) (hq : q.length = 32) (hy : 0 < y) (hyM : y < 18446744073709551616) :
    Pure Tryz.prog 201 [.agg (bs q).toArray, U y] w (U (rst y q)) := by
  have hs32 : (bs q).toArray.size = 32 := by simp [bs_length, hq]
  refine enter Tryz.func201 Tryz.ntmps201 ?_
  refine c_seq <| c_reg <| s_box rfl fun b2 => s_box rfl fun b3 => s_alloc fun b4 => s_nil <| q_then <| c_seq <| c_reg <| s_y y_func <| s_y y_as <| s_nil <| q_then <| c_seq <| c_seq <| c_reg <| s_y (y_lda (cs := (bs q).toArray) (hl := hs32)) <| s_y y_mv <| s_nil <| q_then <| c_block <| ?_
  refine c_loop (fun i : Nat => [(4, .pointer (some ⟨b4, 0, none⟩)), (5, .func (.func 224) #[] #[.pointer (some ⟨b4, 0, none⟩), .pointer (some ⟨b3, 0, none⟩)]), (9, .agg (bs q).toArray), (10, I i)]) (fun i => [.blk b4 (.cells #[U (rst y (q.take i))] 146 (0, 0)), .blk b3 (.cells #[U y] 146 (0, 0))]) (fun i => i ≤ 32) (fun i => 32 - i) 0 (by omega) ⟨rfl, rfl, rfl, rfl, trivial⟩ (.cons_cons _ (.cons_cons _ (List.nil_sublist _))) ?_
  intro i hi
  refine c_seq <| c_reg <| s_y y_lss <| s_nil <| q_then <| c_seq <| c_ifd (fun h11 => ?_) (fun h11 => ?_)
  · have hil : i < q.length := by omega
    refine c_skip <| q_then <| c_seq <| c_block <| c_seq <| c_reg <| s_y (y_ixv (v := B q[i]) i (by rw [List.getElem?_toArray]; have := bs_get hil; rw [this]; simp [List.getD_eq_getElem?_getD, List.getElem?_eq_getElem hil])) <| s_y y_as <| s_nil <| q_then <| c_reg <| s_y y_mv <| s_y y_mv <| ?_
    have hcall : ∀ w', St w [] w' [.blk b4 (.cells #[U (rst y (q.take i))] 146 (0, 0)), .blk b3 (.cells #[U y] 146 (0, 0))] → Gives Tryz.prog 224 [B q[i], .pointer (some ⟨b4, 0, none⟩), .pointer (some ⟨b3, 0, none⟩)] w' (keys [.blk b4 (.cells #[U (rst y (q.take i))] 146 (0, 0))]) (fun _ : Unit => .tuple #[]) (fun _ => [.blk b4 (.cells #[U ((rst y (q.take i) * 256 + (q[i]).toNat) % y)] 146 (0, 0))]) (fun _ => True) := fun w' hw => by
      have h1 : (Res.blk b4 (.cells #[U (rst y (q.take i))] 146 (0, 0))).holds w' := (hw.own _ (.head _)).1
      have h2 : Rd w' (some ⟨b3, 0, none⟩) [U y] := rdB (.tail _ (.head _)) (fun i v h => by rw [Nat.zero_add]; simpa using h) w' hw
      have h3 := nd2 hw.nd
      have h4 := rst_lt hy (q.take i)
      exact rest_1_ok w' b4 b3 q[i] (rst y (q.take i)) y h1 h2 h3 h4 hyM
    refine s_upd (fs := []) (cs := [.pointer (some ⟨b4, 0, none⟩), .pointer (some ⟨b3, 0, none⟩)]) (lx := fun _ => []) hcall (fun _ => .head _) (fun _ _ => ?_)
    rw [← rst_take y q i hil]
    refine s_nil <| q_nb <| q_then <| c_reg <| s_y y_add <| s_y y_mv <| s_nil <| q_round (i + 1) (by omega) (by omega) ⟨rfl, rfl, rfl, rfl, trivial⟩ (List.Sublist.refl _)
  · have h32 : q.take i = q := List.take_of_length_le (by omega)
    rw [h32]
    refine c_exit <| q_ex <| q_ex <| q_exb <| q_then <| c_seq <| c_reg <| s_y (y_ld (v := U (rst y q))) <| s_st (v := U (rst y q)) (hl := Nat.zero_lt_one) ?_
    refine s_nil <| q_then <| c_ret <| ?_
    exact ret1 Tryz.results201 (rv_cf (v := U (rst y q))) fun w' hw => ⟨rfl, hw.sub (List.nil_sublist _)⟩
def scal (t q : List UInt8) : Nat := 1 + rst 2305843009213688668 (tagged t q)
theorem scal_lt (t q : List UInt8) : 0 < scal t q ∧ scal t q < 2305843009213688669 := by
  have := rst_lt (y := 2305843009213688668) (by decide) (tagged t q)
  unfold scal; omega
theorem group_Scalar_ok (w : World) (t : List UInt8) (a : Option Addr) (c : Nat) (q : List UInt8) (hg : LS w) (ht : t.length < 1152921504606846976) (hr : Rd w a (bs q)) (hl : q.length ≤ 140737488355000) :
    Pure Tryz.prog 151 [.string (sb t), .slice a q.length c] w (I (scal t q)) := by
  have hlt := rst_lt (y := 2305843009213688668) (by decide) (tagged t q)
  refine enter Tryz.func151 Tryz.ntmps151 ?_
  refine c_seq <| c_reg <| s_y y_as <| s_nil <| q_then <| c_seq <| c_reg <| s_y y_mv <| s_y y_mv <| s_pure (fun w' hw => digest_Tagged_ok w' t a c q (hg.st hw) ht (hr.st hw) hl) <| s_pure (fun w' hw => group_rest_ok w' (tagged t q) 2305843009213688668 (tagged_length _ _) (by decide) (by decide)) <| s_y (y_cvn (k := .i64) (p := (rst 2305843009213688668 (tagged t q) : Int))) <| s_y (y_add (p := 1) (q := (rst 2305843009213688668 (tagged t q) : Int))) <| ?_
  rw [show (1 : Int) + (rst 2305843009213688668 (tagged t q) : Int) = (scal t q : Int) by unfold scal; omega]
  refine s_y y_as <| s_nil <| q_then <| c_ret <| ?_
  exact ret1 Tryz.results151 rv_t fun w' hw => ⟨rfl, hw⟩
theorem ref04_sum_ok (w : World) (a b m : Nat) (ha : a < m) (hb : b < m) (hm : m < 4611686018427387904) : Pure Tryz.prog 215 [I a, I b, I m] w (I ((a + b) % m : Nat)) := by
  refine enter Tryz.func215 Tryz.ntmps215 ?_
  refine c_seq <| c_reg <| s_y y_as <| s_nil <| q_then <| c_seq <| c_reg <| s_y y_mv <| s_y y_mv <| s_y (y_add (p := a) (q := b)) <| s_y y_as <| s_nil <| q_then <| c_seq <| c_seq <| c_reg <| s_y y_mv <| s_y y_mv <| s_y (y_geq (p := (a : Int) + b) (q := m)) <| s_nil <| q_then <| c_ifd (fun h13 => ?_) (fun h13 => ?_)
  · have e : (a + b) % m = a + b - m := by rw [Nat.mod_eq_sub_mod (by omega), Nat.mod_eq_of_lt (by omega)]
    refine c_seq <| c_reg <| s_y y_mv <| s_y y_mv <| s_y (y_sub (p := (a : Int) + b) (q := m)) <| s_y y_as <| s_nil <| q_then <| c_ret <| q_ret <| ?_
    refine ret1 Tryz.results215 rv_t fun w' hw => ⟨?_, hw⟩
    rw [e, show (a : Int) + b - m = ((a + b - m : Nat) : Int) by omega]
  · have e : (a + b) % m = a + b := Nat.mod_eq_of_lt (by omega)
    refine c_skip <| q_then <| c_seq <| c_reg <| s_y y_mv <| s_y y_as <| s_nil <| q_then <| c_ret <| ?_
    refine ret1 Tryz.results215 rv_t fun w' hw => ⟨?_, hw⟩
    rw [e, show (a : Int) + b = ((a + b : Nat) : Int) by omega]
theorem ref04_Product_ok (w : World) (a b m : Nat) (ha : a < m) (hb : b < 4611686018427387904) (hm : m < 4611686018427387904) : Pure Tryz.prog 179 [I a, I b, I m] w (I (a * b % m : Nat)) := by
  refine enter Tryz.func179 Tryz.ntmps179 ?_
  refine c_seq <| c_reg <| s_y y_as <| s_nil <| q_then <| c_seq <| c_reg <| s_y y_as <| s_nil <| q_then <| c_seq <| c_block <| ?_
  refine c_loop3 (fun (a' b' c' : Nat) => [(0, I a'), (1, I b'), (2, I m), (7, I c')]) (fun _ _ _ => []) (fun a' b' c' => (c' + a' * b') % m = a * b % m ∧ a' < m ∧ c' < m ∧ b' < 4611686018427387904) (fun _ b' _ => b') a b 0 ⟨by rw [Nat.zero_add], ha, by omega, hb⟩ ⟨rfl, rfl, rfl, rfl, trivial⟩ (List.Sublist.refl _) ?_
  intro a' b' c' ⟨h1, h2, h3, h4⟩
  refine c_seq <| c_seq <| c_reg <| s_y y_mv <| s_y (y_gtr (p := b') (q := 0)) <| s_nil <| q_then <| c_ifd (fun h9 => ?_) (fun h9 => ?_)
  · refine c_skip <| q_then <| c_block <| c_seq <| c_seq <| c_reg <| s_y y_mv <| s_y (y_rem (p := b') (q := 2)) <| s_y (y_eql (p := (b' : Int) % 2) (q := 1)) <| s_nil <| q_then <| c_ifd (fun h12 => ?_) (fun h12 => ?_)
    · have h5 := prod_odd (a := a') (b := b') (c := c') (m := m) (by omega)
      refine c_reg <| s_y y_mv <| s_y y_mv <| s_y y_mv <| s_pure (fun w' hw => ref04_sum_ok w' c' a' m h3 h2 hm) <| s_y y_as <| s_nil <| q_then <| c_seq <| c_reg <| s_y y_mv <| s_y y_mv <| s_y y_mv <| s_pure (fun w' hw => ref04_sum_ok w' a' a' m h2 h2 hm) <| s_y y_as <| s_nil <| q_then <| c_reg <| s_y y_mv <| s_y (y_quo (p := b') (q := 2)) <| ?_
      rw [show (b' : Int) / 2 = ((b' / 2 : Nat) : Int) by omega]
      refine s_y y_as <| s_nil <| q_nb <| q_round3 (x := a') (y := b') (z := c') ((a' + a') % m) (b' / 2) ((c' + a') % m) ⟨by rw [h5]; exact h1, Nat.mod_lt _ (by omega), Nat.mod_lt _ (by omega), by omega⟩ (by omega) ⟨rfl, rfl, rfl, rfl, trivial⟩ (List.Sublist.refl _)
    · have h5 := prod_even (a := a') (b := b') (c := c') (m := m) (by omega)
      refine c_skip <| q_then <| c_seq <| c_reg <| s_y y_mv <| s_y y_mv <| s_y y_mv <| s_pure (fun w' hw => ref04_sum_ok w' a' a' m h2 h2 hm) <| s_y y_as <| s_nil <| q_then <| c_reg <| s_y y_mv <| s_y (y_quo (p := b') (q := 2)) <| ?_
      rw [show (b' : Int) / 2 = ((b' / 2 : Nat) : Int) by omega]
      refine s_y y_as <| s_nil <| q_nb <| q_round3 (x := a') (y := b') (z := c') ((a' + a') % m) (b' / 2) c' ⟨by rw [h5]; exact h1, Nat.mod_lt _ (by omega), h3, by omega⟩ (by omega) ⟨rfl, rfl, rfl, rfl, trivial⟩ (List.Sublist.refl _)
  · have hb0 : b' = 0 := by omega
    subst hb0
    rw [Nat.mul_zero, Nat.add_zero, Nat.mod_eq_of_lt h3] at h1
    refine c_exit <| q_ex <| q_ex <| q_exb <| q_then <| c_seq <| c_reg <| s_y y_mv <| s_y y_as <| s_nil <| q_then <| c_ret <| ?_
    exact ret1 Tryz.results179 rv_t fun w' hw => ⟨by rw [h1], hw⟩
end Go.Proofs.YtejdjnkilikehaaGreatDoor
namespace Go.Proofs.YtejdjnkilikehaaGreatDoor
open Go Eng Sha Cod Dv
def dscal (k t : List UInt8) : Nat := scal scalarS (expand k t [])
theorem derive_Scalar_ok (w : World) (k t : List UInt8) (hg : LS w) (hk : k.length = 32) (ht : t.length ≤ 1000000) :
    Pure Tryz.prog 77 [.agg (bs k).toArray, .string (sb t)] w (I (dscal k t)) := by
  have hs32 : (bs k).toArray.size = 32 := by simp [bs_length, hk]
  have hel := expand_length k t []
  have hs33 : (bs (expand k t [])).toArray.size = 32 := by simp [bs_length, expand_length]
  refine enter Tryz.func77 Tryz.ntmps77 ?_
  refine c_seq <| c_reg <| s_box rfl fun b2 => s_y y_as <| s_nil <| q_then <| c_seq <| c_reg <| s_y (y_lda (cs := (bs k).toArray) (hl := hs32)) <| s_y y_mv <| s_pure (fun w' hw => derive_Expand_ok w' k t none 0 [] (hg.st hw) hk (Rd.nil _ _) (by simp) ht (by simp)) <| s_alloc fun b5 => s_sta (vs := (bs (expand k t [])).toArray) (cs := (List.replicate 32 (.int .u8 0)).toArray) (h1 := fun v hv => bs_one (by simpa using hv)) (hl := by rw [hs33]; rfl) (hs1 := hs33) ?_
  have hgs : ∀ w', St w [] w' [.blk b5 (.cells (bs (expand k t [])).toArray 24 (0, 0)), .blk b2 (.cells (bs k).toArray 24 (0, 0))] → Pure Tryz.prog 151 [.string (sb scalarS), .slice (some ⟨b5, 0, none⟩) 32 32] w' (I (dscal k t)) := fun w' hw => by
    have := group_Scalar_ok w' scalarS (some ⟨b5, 0, none⟩) 32 (expand k t []) (hg.st hw) (by decide) (rd_blkB (e := 24) (.head _) w' hw) (by omega)
    rwa [hel] at this
  refine s_nil <| q_then <| c_seq <| c_reg <| s_y y_sla <| s_pure hgs <| s_y y_as <| s_nil <| q_then <| c_ret <| ?_
  exact ret1 Tryz.results77 rv_t fun w' hw => ⟨rfl, hw.sub (List.nil_sublist _)⟩
end Go.Proofs.YtejdjnkilikehaaGreatDoor
end
section
namespace Eng
open Go Go.RowKit
section
variable {r : Option Nat} {P : Program} {n : Nat} {D : List Deferred} {W : World} {Bo : List Nat} {F F0 F1 : List (Nat × Value)} {l l' l1 l2 l3 : SH} {e : TypeId}
  {dd : Nat} {ty : TypeId} {ps : String} {af : Array Edge} {g : Option (Nat × Bool)} {Q : Exit → Act → World → Prop} {ops : Array Oper} {rest : List Oper} {c : Code}
theorem St.putObj {w : World} {b : Nat} {o o' : Obj} (hw : St W Bo w l) (hr : Rep (.blk b o) (.blk b o') l l') : St W Bo (w.putObj b o') l' := by
  have hb := (hw.own _ hr.mem).1
  have hlt := (Array.getElem?_eq_some_iff.1 hb).1
  refine hw.change hr rfl rfl rfl (by simp [World.putObj]) (fun k _ hk => World.putObj_heap_other (fun e => hk (by rw [e]; rfl))) (World.putObj_heap_same hlt) (fun k hk => .inl hk)
theorem s_yield {fo : Operand} {ao : Array Operand} {ts : Array TypeId} {L : Nat} {rc : Loop} {v : Value} {σ : Type} (val : σ → Value) (lx : σ → SH) (φ : σ → Prop)
    (hm : Res.blk L (.loop rc) ∈ l) (hpz : rc.params.size = 1)
    (hr : ∀ w, St W Bo w l → RoundIn (Fw none) 0 P L rc.fn ((rc.params.zip #[v]).foldl (fun tmps (t, a) => tmps.setIfInBounds t a) rc.tmps) rc.assign rc.body w fun e w' => ∃ x, φ x ∧ e = .returned (val x) ∧ St W Bo w' (lx x))
    (h : ∀ x, φ x → LP none P n D W Bo ops Q rest ((dd, val x) :: F) (lx x))
    (hfo : evO F fo = some (.func (.yield L) #[] #[]) := by rfl) (hargs : evL F ao.toList = some [v] := by rfl) (hn : Nat.blt dd n = true := by rfl) (hg : Wn ops F g := by first | exact .none | exact .some rfl rfl) :
    LP none P n D W Bo ops Q (⟨some dd, .call ⟨.value fo, ao, ts⟩, ty, ps, af, g⟩ :: rest) F l := by
  intro a w ha hw
  refine wpListIn_of (hg.wanted rfl ha) ?_
  refine ⟨fun f _ => trivial, ?_⟩
  have hy := run_yield (P := P) (args := #[v]) (hw.own _ hm).1 (by simp [hpz])
  have hrun : (execOp a.eval ⟨some dd, .call ⟨.value fo, ao, ts⟩, ty, ps, af, g⟩).run P w = .ok (.round L rc.fn ((rc.params.zip #[v]).foldl (fun tmps (t, a) => tmps.setIfInBounds t a) rc.tmps) rc.assign rc.body) w := by
    simp only [execOp, resolve, ha.eval hfo, evs ha hargs, Deferred.ofValue, Sem.run_bind, Sem.run_pure, Result.andThen_ok, invoke]
    simpa using hy
  rw [semAt_eq _ (by simp), hrun]
  refine ⟨by simp [Fw, Fence.wide], (hr w hw).mono ?_⟩
  rintro e w' ⟨x, hx, rfl, hw'⟩
  exact h x hx _ _ (ha.put dd _ hn) hw'
theorem round_ok {tmps : Array Value} {ac : Act} {L : Nat} {rc : Loop} {R : Ending → World → Prop} {w : World} (hw : St W Bo w l) (hfr : Fr n F0 [] ac) (htm : { tmps := tmps, defers := [] } = ac)
    (hst : rc.state = .ready) (hL : Rep (.blk L (.loop rc)) (.blk L (.loop { rc with state := .busy })) l1 l2)
    (ha : CP (some L) P n [] W Bo rc.assign (Exit.then (Jn n [] W Bo F1 l1) (fun _ _ _ => False)) F0 l)
    (hb : CP (some L) P n [] W Bo rc.body (roundPost P L R) F1 l2) : RoundIn (Fw none) 0 P L rc.fn tmps rc.assign rc.body w R := by
  refine roundIn_of_wpIn (Fw_fn _ _) ?_
  rw [htm]
  refine wpIn_mono (ha _ w hfr hw) ?_
  intro e a1 w1 q
  cases e with
  | normal => exact ⟨_, run_beginRound (q.2.own _ hL.mem).1 hst, hb _ _ q.1 (q.2.putObj hL)⟩
  | exit id => exact q
  | goto l => exact q
  | ret => exact q
  | panic ch => exact q
  | outgrown => exact q
theorem q_rn {L : Nat} {rc : Loop} {R : Ending → World → Prop} (hL : Rep (.blk L (.loop rc)) (.blk L (.loop { rc with state := .ready, pending := none })) l l') (h : ∀ w, St W Bo w l' → R (.returned (.bool true)) w) : QP n D W Bo (roundPost P L R) .normal F l :=
  fun _ _ _ hw => ⟨_, _, run_endRound none (hw.own _ hL.mem).1, h _ (hw.putObj hL)⟩
theorem enterM {k : FuncId} {fn : Func} {args : List Value} {R : Ending → World → Prop} (hf : P.funcs[k]? = some fn) (hn : fn.ntmps = n) (h : CP none P n [] W [] c (bodyPostM (Fw none) 0 P fn R) (argsF 0 args) [])
    (hb : fn.body = some c := by rfl) (hle : Nat.ble args.length n = true := by rfl) : Calls P k args.toArray W R := by
  refine (callsIn_wide (n := 0)).1 ?_
  refine callsIn_of_wp_marks hf hb trivial ?_
  have hle' := Nat.le_of_ble_eq_true hle
  refine h _ W ⟨by simp; omega, rfl, ?_⟩ (St.refl W)
  intro t v ht
  have := (argsF_look args 0 t v ht).2
  simp only [Nat.sub_zero] at this
  have hlt : t < args.length := by
    rcases Nat.lt_or_ge t args.length with h1 | h1
    · exact h1
    · rw [List.getElem?_eq_none h1] at this; cases this
  rw [Array.getElem?_append_left (by simpa using hlt)]
  simpa using this
theorem ret2D {fn : Func} {R : Ending → World → Prop} {a b : ResultVar} {v u : Value} {Dk : Nat} (hf : fn.results = #[a, b]) (hL : Rep (.blk Dk (.deferred (some []))) (.blk Dk (.deferred none)) l l') (h : RV P n W Bo F l' a v) (h2 : RV P n W Bo F l' b u) (hR : ∀ w, St W Bo w l' → R (.returned (.tuple #[v, u])) w) :
    QP n [{ target := .collected Dk, args := #[] }] W Bo (bodyPostM (Fw none) 0 P fn R) .ret F l := by
  intro ac w ha hw
  have h0 : QP n [] W Bo (bodyPost P fn R) .ret F l' := ret2 hf h h2 hR
  have hw' := hw.putObj hL
  have h3 := h0 { ac with defers := [] } _ ⟨ha.size, rfl, ha.slot⟩ hw'
  obtain ⟨hd, h4⟩ := h3
  show LeavesInM _ _ _ _ _ _ ac.defers .returning w
  rw [ha.defers]
  exact ⟨by simp, .inl ⟨Dk, _, rfl, run_takeDeferred (hw.own _ hL.mem).1, h4⟩⟩
end
end Eng
end
section
namespace Num
def IsPrime (n : Nat) : Prop := 2 ≤ n ∧ ∀ d, d ∣ n → d = 1 ∨ d = n
theorem exists_prime : ∀ k : Nat, 2 ≤ k → ∃ q, IsPrime q ∧ q ∣ k := by
  intro k
  induction k using Nat.strongRecOn with
  | ind k ih =>
    intro hk
    by_cases h : ∀ d, d ∣ k → d = 1 ∨ d = k
    · exact ⟨k, ⟨hk, h⟩, Nat.dvd_refl k⟩
    · have h' : ∃ d, d ∣ k ∧ d ≠ 1 ∧ d ≠ k := by
        apply Classical.byContradiction
        intro hn
        apply h
        intro d hd
        apply Classical.byContradiction
        intro hc
        exact hn ⟨d, hd, fun e => hc (.inl e), fun e => hc (.inr e)⟩
      obtain ⟨d, hd, h1, h2⟩ := h'
      have hle := Nat.le_of_dvd (by omega) hd
      have hpos : d ≠ 0 := by rintro rfl; have := Nat.eq_zero_of_zero_dvd hd; omega
      obtain ⟨q, hq, hqd⟩ := ih d (by omega) (by omega)
      exact ⟨q, hq, Nat.dvd_trans hqd hd⟩
theorem IsPrime.dvd_mul {q a b : Nat} (hq : IsPrime q) (h : q ∣ a * b) : q ∣ a ∨ q ∣ b := by
  by_cases ha : q ∣ a
  · exact .inl ha
  · refine .inr ?_
    have hg : Nat.gcd q a = 1 := by
      rcases hq.2 _ (Nat.gcd_dvd_left q a) with h1 | h1
      · exact h1
      · exact absurd (h1 ▸ Nat.gcd_dvd_right q a) ha
    exact Nat.Coprime.dvd_of_dvd_mul_left hg h
theorem IsPrime.eq_of_dvd {q p : Nat} (hq : IsPrime q) (hp : IsPrime p) (h : q ∣ p) : q = p := by
  rcases hp.2 q h with h1 | h1
  · have := hq.1; omega
  · exact h1
def pwGo (m : Nat) : Nat → Nat → Nat → Nat → Nat
  | 0, _, _, c => c
  | f + 1, a, n, c => pwGo m f (a * a % m) (n / 2) (if n % 2 = 1 then c * a % m else c)
def pw (a n m : Nat) : Nat := pwGo m 64 (a % m) n (1 % m)
theorem pwGo_eq (m : Nat) : ∀ (f a n c : Nat), n < 2 ^ f → pwGo m f a n c % m = c * a ^ n % m := by
  intro f
  induction f with
  | zero => intro a n c h; have : n = 0 := by simpa using h
            subst this; simp [pwGo]
  | succ f ih =>
    intro a n c h
    rw [pwGo, ih _ _ _ (by rw [Nat.pow_succ] at h; omega)]
    have hn : n = 2 * (n / 2) + n % 2 := by omega
    have hs : (a * a % m) ^ (n / 2) % m = a ^ (2 * (n / 2)) % m := by
      rw [Nat.pow_mul, ← Nat.pow_mod, Nat.pow_two]
    split
    · rename_i h1
      rw [Nat.mul_mod, hs, Nat.mod_mod, ← Nat.mul_mod]
      conv => rhs; rw [hn, h1, Nat.pow_succ]
      rw [Nat.mul_assoc, Nat.mul_comm a]
    · rename_i h1
      rw [Nat.mul_mod, hs, ← Nat.mul_mod]
      conv => rhs; rw [hn]
      have : n % 2 = 0 := by omega
      rw [this]; simp
theorem pwGo_lt (m : Nat) (hm : 0 < m) : ∀ (f a n c : Nat), c < m → pwGo m f a n c < m := by
  intro f
  induction f with
  | zero => intro a n c h; exact h
  | succ f ih =>
    intro a n c h
    rw [pwGo]
    apply ih
    split
    · exact Nat.mod_lt _ hm
    · exact h
theorem pw_eq (a n m : Nat) (hm : 0 < m) (hn : n < 2 ^ 64) : a ^ n % m = pw a n m := by
  have h := pwGo_eq m 64 (a % m) n (1 % m) hn
  rw [Nat.mod_eq_of_lt (pwGo_lt m hm _ _ _ _ (Nat.mod_lt _ hm))] at h
  rw [pw, h, Nat.mul_mod, Nat.mod_mod, ← Nat.mul_mod, Nat.one_mul, ← Nat.pow_mod]
theorem pow_add_mod (g a b n : Nat) : g ^ (a + b) % n = (g ^ a % n) * (g ^ b % n) % n := by
  rw [Nat.pow_add, Nat.mul_mod]
theorem pow_mul_one {g o n : Nat} (h : g ^ o % n = 1 % n) (k : Nat) : g ^ (o * k) % n = 1 % n := by
  rw [Nat.pow_mul, Nat.pow_mod, h, ← Nat.pow_mod, Nat.one_pow]
theorem order_dvd {g n o N : Nat} (ho : g ^ o % n = 1 % n) (hpos : 0 < o) (hmin : ∀ i, 0 < i → i < o → g ^ i % n ≠ 1 % n)
    (hN : g ^ N % n = 1 % n) : o ∣ N := by
  have h1 : N = o * (N / o) + N % o := (Nat.div_add_mod N o).symm
  have h2 : g ^ (N % o) % n = 1 % n := by
    rw [h1, Nat.pow_add, Nat.mul_mod, pow_mul_one ho, ← Nat.mul_mod, Nat.one_mul] at hN
    exact hN
  by_cases h0 : N % o = 0
  · exact Nat.dvd_of_mod_eq_zero h0
  · exact absurd h2 (hmin _ (by omega) (Nat.mod_lt _ hpos))
theorem exists_order {g n N : Nat} (hN : 0 < N) (h : g ^ N % n = 1 % n) :
    ∃ o, 0 < o ∧ g ^ o % n = 1 % n ∧ ∀ i, 0 < i → i < o → g ^ i % n ≠ 1 % n := by
  induction N using Nat.strongRecOn with
  | ind N ih =>
    by_cases hm : ∀ i, 0 < i → i < N → g ^ i % n ≠ 1 % n
    · exact ⟨N, hN, h, hm⟩
    · have : ∃ i, 0 < i ∧ i < N ∧ g ^ i % n = 1 % n := by
        apply Classical.byContradiction
        intro hc
        apply hm
        intro i h1 h2 h3
        exact hc ⟨i, h1, h2, h3⟩
      obtain ⟨i, h1, h2, h3⟩ := this
      exact ih i h2 h1 h3
theorem order_full {g n N : Nat} (hN : 0 < N) (h : g ^ N % n = 1 % n)
    (hq : ∀ q, IsPrime q → q ∣ N → g ^ (N / q) % n ≠ 1 % n) : ∀ i, 0 < i → i < N → g ^ i % n ≠ 1 % n := by
  obtain ⟨o, ho, h1, hmin⟩ := exists_order hN h
  have hd := order_dvd h1 ho hmin h
  obtain ⟨k, rfl⟩ := hd
  by_cases hk : k = 1
  · subst hk; rw [Nat.mul_one]; exact hmin
  · have hk0 : k ≠ 0 := by rintro rfl; simp at hN
    obtain ⟨q, hqp, c, rfl⟩ := exists_prime k (by omega)
    have := hq q hqp ⟨o * c, by rw [Nat.mul_left_comm]⟩
    rw [show o * (q * c) / q = o * c by rw [Nat.mul_left_comm, Nat.mul_div_cancel_left _ (by have := hqp.1; omega)]] at this
    exact absurd (pow_mul_one h1 c) this
theorem pow_coprime {g n N : Nat} (hn : 2 ≤ n) (hN : 0 < N) (h : g ^ N % n = 1 % n) (i : Nat) : Nat.Coprime (g ^ i % n) n := by
  have hg : Nat.Coprime (g ^ i) n := by
    have h1 : Nat.Coprime (g ^ N) n := by
      unfold Nat.Coprime
      rw [Nat.gcd_comm, Nat.gcd_rec, h, Nat.mod_eq_of_lt (by omega)]
      exact Nat.gcd_one_left n
    have h2 : Nat.Coprime g n := by
      have h3 : g ∣ g ^ N := by
        obtain ⟨m, rfl⟩ : ∃ m, N = m + 1 := ⟨N - 1, by omega⟩
        exact ⟨g ^ m, by rw [Nat.pow_succ, Nat.mul_comm]⟩
      exact Nat.Coprime.coprime_dvd_left h3 h1
    exact Nat.Coprime.pow_left i h2
  unfold Nat.Coprime at *
  rw [← Nat.gcd_rec, Nat.gcd_comm]
  exact hg
theorem pow_inj {g n N : Nat} (h : g ^ N % n = 1 % n) (hmin : ∀ i, 0 < i → i < N → g ^ i % n ≠ 1 % n)
    {i j : Nat} (hi : i < N) (hj : j < N) (e : g ^ i % n = g ^ j % n) : i = j := by
  have key : ∀ i j : Nat, i < j → j < N → g ^ i % n = g ^ j % n → False := by
    intro i j hij hj e
    have e1 : g ^ (j - i + (N - j) + i) % n = 1 % n := by rw [show j - i + (N - j) + i = N by omega]; exact h
    have e2 : g ^ (i + (N - j)) % n = 1 % n := by
      rw [Nat.pow_add, Nat.mul_mod, e, ← Nat.mul_mod, ← Nat.pow_add, show j + (N - j) = N by omega]; exact h
    exact hmin (i + (N - j)) (by omega) (by omega) e2
  rcases Nat.lt_trichotomy i j with h1 | h1 | h1
  · exact (key i j h1 hj e).elim
  · exact h1
  · exact (key j i h1 hi e.symm).elim
theorem pigeon (n : Nat) : ∀ (l : List Nat), l.Nodup → (∀ x ∈ l, x < n) → l.length ≤ n := by
  induction n with
  | zero =>
    intro l _ hx
    cases l with
    | nil => simp
    | cons a l => exact absurd (hx a (by simp)) (by omega)
  | succ n ih =>
    intro l hl hx
    have h1 : (l.filter (· != n)).length ≤ n := ih _ (hl.sublist List.filter_sublist) (by
      intro x hxm
      rw [List.mem_filter] at hxm
      have := hx x hxm.1
      have h2 : x ≠ n := by simpa using hxm.2
      omega)
    have h2 : (l.filter (· == n)).length ≤ 1 := by
      have := List.nodup_iff_count.1 hl n
      rw [List.count_eq_length_filter] at this
      exact this
    have h3 : ∀ (l : List Nat), l.length = (l.filter (· == n)).length + (l.filter (· != n)).length := by
      intro l
      induction l with
      | nil => rfl
      | cons a l ih =>
        by_cases h : a = n
        · subst h; simp; omega
        · simp [h]; omega
    rw [h3 l]; omega
theorem surj {g n : Nat} (hn : 2 ≤ n) (h : g ^ (n - 1) % n = 1 % n) (hmin : ∀ i, 0 < i → i < n - 1 → g ^ i % n ≠ 1 % n)
    {a : Nat} (ha : 0 < a) (han : a < n) : ∃ i, i < n - 1 ∧ g ^ i % n = a := by
  apply Classical.byContradiction
  intro hc
  have hne : ∀ i, i < n - 1 → g ^ i % n ≠ a := fun i hi e => hc ⟨i, hi, e⟩
  let l := (List.range (n - 1)).map (fun i => g ^ i % n)
  have hnd : l.Nodup := by
    rw [List.nodup_iff_pairwise_ne, List.pairwise_map]
    refine List.Pairwise.imp_of_mem ?_ (List.nodup_range (n := n - 1))
    intro i j hi hj hij e
    rw [List.mem_range] at hi hj
    exact hij (pow_inj h hmin hi hj e)
  have hall : ∀ x ∈ a :: 0 :: l, x < n := by
    intro x hx
    simp only [List.mem_cons] at hx
    rcases hx with rfl | rfl | hx
    · exact han
    · omega
    · obtain ⟨i, _, rfl⟩ := List.mem_map.1 hx
      exact Nat.mod_lt _ (by omega)
  have hnd2 : (a :: 0 :: l).Nodup := by
    rw [List.nodup_cons, List.nodup_cons]
    refine ⟨?_, ?_, hnd⟩
    · intro hx
      rcases List.mem_cons.1 hx with rfl | hx
      · omega
      · obtain ⟨i, hi, e⟩ := List.mem_map.1 hx
        exact hne i (List.mem_range.1 hi) e
    · intro hx
      obtain ⟨i, hi, e⟩ := List.mem_map.1 hx
      have := pow_coprime hn (by omega) h i
      rw [e] at this
      unfold Nat.Coprime at this
      rw [Nat.gcd_zero_left] at this
      omega
  have := pigeon n _ hnd2 hall
  simp [l] at this
  omega
theorem prime_of_root {g n : Nat} (hn : 2 ≤ n) (h : g ^ (n - 1) % n = 1 % n) (hmin : ∀ i, 0 < i → i < n - 1 → g ^ i % n ≠ 1 % n) : IsPrime n := by
  refine ⟨hn, fun d hd => ?_⟩
  by_cases e : d = n
  · exact .inr e
  · have hle := Nat.le_of_dvd (by omega) hd
    have h0 : d ≠ 0 := by rintro rfl; have := Nat.eq_zero_of_zero_dvd hd; omega
    obtain ⟨i, _, hi⟩ := surj hn h hmin (a := d) (by omega) (by omega)
    have := pow_coprime hn (by omega) h i
    rw [hi] at this
    unfold Nat.Coprime at this
    rw [Nat.gcd_eq_left hd] at this
    exact .inl this
theorem fermat_of_root {g n : Nat} (hn : 2 ≤ n) (h : g ^ (n - 1) % n = 1 % n) (hmin : ∀ i, 0 < i → i < n - 1 → g ^ i % n ≠ 1 % n)
    {a : Nat} (ha : a % n ≠ 0) : a ^ (n - 1) % n = 1 := by
  obtain ⟨i, _, hi⟩ := surj hn h hmin (a := a % n) (by omega) (Nat.mod_lt _ (by omega))
  rw [Nat.pow_mod, ← hi, ← Nat.pow_mod, ← Nat.pow_mul, Nat.mul_comm, Nat.pow_mul, Nat.pow_mod, h, ← Nat.pow_mod, Nat.one_pow, Nat.mod_eq_of_lt (by omega)]
def noDiv (n : Nat) : Nat → Nat → Bool
  | 0, _ => true
  | f + 1, d => n % d != 0 && noDiv n f (d + 1)
theorem noDiv_spec (n : Nat) : ∀ f d, noDiv n f d = true → ∀ x, d ≤ x → x < d + f → ¬ x ∣ n := by
  intro f
  induction f with
  | zero => intro d _ x h1 h2; omega
  | succ f ih =>
    intro d h x h1 h2
    rw [noDiv, Bool.and_eq_true] at h
    by_cases e : x = d
    · subst e
      intro hd
      have := Nat.mod_eq_zero_of_dvd hd
      simp [this] at h
    · exact ih (d + 1) h.2 x (by omega) (by omega)
theorem prime_of_noDiv {n f : Nat} (hn : 2 ≤ n) (h : noDiv n f 2 = true) (hf : n < (f + 2) * (f + 2)) : IsPrime n := by
  refine ⟨hn, fun d hd => ?_⟩
  obtain ⟨c, rfl⟩ := hd
  have hd0 : 0 < d := Nat.pos_of_ne_zero (by rintro rfl; simp at hn)
  have hc0 : 0 < c := Nat.pos_of_ne_zero (by rintro rfl; simp at hn)
  by_cases h1 : d = 1
  · exact .inl h1
  by_cases h2 : c = 1
  · subst h2; exact .inr (by omega)
  exfalso
  by_cases h3 : d < f + 2
  · exact noDiv_spec _ _ _ h d (by omega) (by omega) ⟨c, rfl⟩
  by_cases h4 : c < f + 2
  · exact noDiv_spec _ _ _ h c (by omega) (by omega) ⟨d, by rw [Nat.mul_comm]⟩
  have := Nat.mul_le_mul (Nat.le_of_not_lt h3) (Nat.le_of_not_lt h4)
  omega
theorem prime_2 : IsPrime 2 := prime_of_noDiv (f := 0) (by omega) (by decide) (by omega)
theorem prime_3 : IsPrime 3 := prime_of_noDiv (f := 0) (by omega) (by decide) (by omega)
theorem prime_73 : IsPrime 73 := prime_of_noDiv (f := 10) (by omega) (by decide +kernel) (by omega)
theorem prime_2311 : IsPrime 2311 := prime_of_noDiv (f := 50) (by omega) (by decide +kernel) (by omega)
theorem prime_11 : IsPrime 11 := prime_of_noDiv (f := 2) (by omega) (by decide) (by omega)
theorem prime_17 : IsPrime 17 := prime_of_noDiv (f := 3) (by omega) (by decide) (by omega)
theorem prime_7930907 : IsPrime 7930907 := prime_of_noDiv (f := 2900) (by omega) (by decide +kernel) (by omega)
theorem root_of_pw {g n N : Nat} (hn : 2 ≤ n) (hN : 0 < N) (hl : N < 2 ^ 64) (h : pw g N n = 1) (hq : ∀ q, IsPrime q → q ∣ N → pw g (N / q) n ≠ 1) :
    g ^ N % n = 1 % n ∧ ∀ i, 0 < i → i < N → g ^ i % n ≠ 1 % n := by
  have h1 : g ^ N % n = 1 % n := by rw [pw_eq _ _ _ (by omega) hl, h, Nat.mod_eq_of_lt (by omega)]
  refine ⟨h1, order_full hN h1 fun q hp hd => ?_⟩
  rw [pw_eq _ _ _ (by omega) (Nat.lt_of_le_of_lt (Nat.div_le_self _ _) hl), Nat.mod_eq_of_lt (a := 1) (by omega)]
  exact hq q hp hd
theorem prime_of_pw {g n : Nat} (hn : 2 ≤ n) (hl : n - 1 < 2 ^ 64) (h : pw g (n - 1) n = 1) (hq : ∀ q, IsPrime q → q ∣ n - 1 → pw g ((n - 1) / q) n ≠ 1) : IsPrime n :=
  have r := root_of_pw hn (by omega) hl h hq
  prime_of_root hn r.1 r.2
theorem prime_11864636873 : IsPrime 11864636873 := by
  refine prime_of_pw (g := 5) (by decide) (by decide) (by decide +kernel) ?_
  intro q hq hd
  have hd' : q ∣ 2 * (2 * (2 * (11 * (17 * 7930907)))) := hd
  have hc : q = 2 ∨ q = 11 ∨ q = 17 ∨ q = 7930907 := by
    have h2 : ∀ x, q ∣ 2 * x → q = 2 ∨ q ∣ x := fun x hx => (hq.dvd_mul hx).imp (hq.eq_of_dvd prime_2) id
    have h11 : ∀ x, q ∣ 11 * x → q = 11 ∨ q ∣ x := fun x hx => (hq.dvd_mul hx).imp (hq.eq_of_dvd prime_11) id
    have h17 : ∀ x, q ∣ 17 * x → q = 17 ∨ q ∣ x := fun x hx => (hq.dvd_mul hx).imp (hq.eq_of_dvd prime_17) id
    rcases h2 _ hd' with h1 | h1
    · exact .inl h1
    rcases h2 _ h1 with h1 | h1
    · exact .inl h1
    rcases h2 _ h1 with h1 | h1
    · exact .inl h1
    rcases h11 _ h1 with h1 | h1
    · exact .inr (.inl h1)
    rcases h17 _ h1 with h1 | h1
    · exact .inr (.inr (.inl h1))
    exact .inr (.inr (.inr (hq.eq_of_dvd prime_7930907 h1)))
  rcases hc with rfl | rfl | rfl | rfl <;> decide +kernel
theorem prime_1732236983459 : IsPrime 1732236983459 := by
  refine prime_of_pw (g := 2) (by decide) (by decide) (by decide +kernel) ?_
  intro q hq hd
  have hd' : q ∣ 2 * (73 * 11864636873) := hd
  have hc : q = 2 ∨ q = 73 ∨ q = 11864636873 := by
    have h2 : ∀ x, q ∣ 2 * x → q = 2 ∨ q ∣ x := fun x hx => (hq.dvd_mul hx).imp (hq.eq_of_dvd prime_2) id
    have h73 : ∀ x, q ∣ 73 * x → q = 73 ∨ q ∣ x := fun x hx => (hq.dvd_mul hx).imp (hq.eq_of_dvd prime_73) id
    rcases h2 _ hd' with h1 | h1
    · exact .inl h1
    rcases h73 _ h1 with h1 | h1
    · exact .inr (.inl h1)
    exact .inr (.inr (hq.eq_of_dvd prime_11864636873 h1))
  rcases hc with rfl | rfl | rfl <;> decide +kernel
theorem prime_249442125618097 : IsPrime 249442125618097 := by
  refine prime_of_pw (g := 5) (by decide) (by decide) (by decide +kernel) ?_
  intro q hq hd
  have hd' : q ∣ 2 * (2 * (2 * (2 * (3 * (3 * 1732236983459))))) := hd
  have hc : q = 2 ∨ q = 3 ∨ q = 1732236983459 := by
    have h2 : ∀ x, q ∣ 2 * x → q = 2 ∨ q ∣ x := fun x hx => (hq.dvd_mul hx).imp (hq.eq_of_dvd prime_2) id
    have h3 : ∀ x, q ∣ 3 * x → q = 3 ∨ q ∣ x := fun x hx => (hq.dvd_mul hx).imp (hq.eq_of_dvd prime_3) id
    rcases h2 _ hd' with h1 | h1
    · exact .inl h1
    rcases h2 _ h1 with h1 | h1
    · exact .inl h1
    rcases h2 _ h1 with h1 | h1
    · exact .inl h1
    rcases h2 _ h1 with h1 | h1
    · exact .inl h1
    rcases h3 _ h1 with h1 | h1
    · exact .inr (.inl h1)
    rcases h3 _ h1 with h1 | h1
    · exact .inr (.inl h1)
    exact .inr (.inr (hq.eq_of_dvd prime_1732236983459 h1))
  rcases hc with rfl | rfl | rfl <;> decide +kernel
def Q : Nat := 2305843009213688669
def P : Nat := 4611686018427377339
theorem root_Q : 2 ^ (Q - 1) % Q = 1 % Q ∧ ∀ i, 0 < i → i < Q - 1 → 2 ^ i % Q ≠ 1 % Q := by
  refine root_of_pw (by decide) (by decide) (by decide) (by decide +kernel) ?_
  intro q hq hd
  have hd' : q ∣ 2 * (2 * (2311 * 249442125618097)) := hd
  have hc : q = 2 ∨ q = 2311 ∨ q = 249442125618097 := by
    have h2 : ∀ x, q ∣ 2 * x → q = 2 ∨ q ∣ x := fun x hx => (hq.dvd_mul hx).imp (hq.eq_of_dvd prime_2) id
    have h2311 : ∀ x, q ∣ 2311 * x → q = 2311 ∨ q ∣ x := fun x hx => (hq.dvd_mul hx).imp (hq.eq_of_dvd prime_2311) id
    rcases h2 _ hd' with h1 | h1
    · exact .inl h1
    rcases h2 _ h1 with h1 | h1
    · exact .inl h1
    rcases h2311 _ h1 with h1 | h1
    · exact .inr (.inl h1)
    exact .inr (.inr (hq.eq_of_dvd prime_249442125618097 h1))
  rcases hc with rfl | rfl | rfl <;> decide +kernel
theorem prime_Q : IsPrime Q := prime_of_root (g := 2) (by decide) root_Q.1 root_Q.2
theorem fermat_Q {a : Nat} (ha : a % Q ≠ 0) : a ^ (Q - 1) % Q = 1 := fermat_of_root (by decide) root_Q.1 root_Q.2 ha
theorem four : 4 ^ Q % P = 1 % P ∧ ∀ i, 0 < i → i < Q → 4 ^ i % P ≠ 1 % P := by
  refine root_of_pw (by decide) (by decide) (by decide) (by decide +kernel) ?_
  intro q hq hd
  have e := hq.eq_of_dvd prime_Q hd
  subst e
  decide +kernel
end Num
end
section
namespace Dv
theorem half {a b : Nat} (ha : a < 4294967296) (hb : b < 4294967296) : a * b ≤ 18446744065119617025 := by
  have := Nat.mul_le_mul (show a ≤ 4294967295 by omega) (show b ≤ 4294967295 by omega)
  omega
theorem mul_hi {x0 x1 y0 y1 a b c d t w1 : Nat} (ha : x0 * y0 = a) (hb : x1 * y0 = b) (hc : x0 * y1 = c) (hd : x1 * y1 = d) (ht : t = b + a / 4294967296) (hw : w1 = t % 4294967296 + c) :
    (x1 * 4294967296 + x0) * (y1 * 4294967296 + y0) / 18446744073709551616 = d + t / 4294967296 + w1 / 4294967296 := by
  have e : (x1 * 4294967296 + x0) * (y1 * 4294967296 + y0) = d * 18446744073709551616 + (b + c) * 4294967296 + a := by
    rw [Nat.add_mul, Nat.mul_add, Nat.mul_add, ← ha, ← hb, ← hc, ← hd]
    have h1 : x1 * 4294967296 * (y1 * 4294967296) = x1 * y1 * 18446744073709551616 := by
      rw [Nat.mul_assoc, Nat.mul_left_comm 4294967296, Nat.mul_assoc]
    have h2 : x1 * 4294967296 * y0 = x1 * y0 * 4294967296 := Nat.mul_right_comm _ _ _
    have h3 : x0 * (y1 * 4294967296) = x0 * y1 * 4294967296 := (Nat.mul_assoc _ _ _).symm
    rw [h1, h2, h3]
    generalize x1 * y1 = d at *
    generalize x1 * y0 = b at *
    generalize x0 * y1 = c at *
    generalize x0 * y0 = a at *
    omega
  rw [e]
  clear e ha hb hc hd
  subst ht hw
  omega
theorem split2 (x : Nat) : x / 2 ^ 32 * 4294967296 + x % 2 ^ 32 = x := by omega
theorem pow_step (b e i m : Nat) : let a := b ^ (e / 2 ^ (i + 1)) % m
    b ^ (e / 2 ^ i) % m = if e / 2 ^ i % 2 = 1 then (a * a % m) * b % m else a * a % m := by
  intro a
  have h1 : e / 2 ^ (i + 1) = e / 2 ^ i / 2 := by rw [Nat.pow_succ, Nat.div_div_eq_div_mul]
  have ha : a * a % m = b ^ (2 * (e / 2 ^ i / 2)) % m := by
    show b ^ (e / 2 ^ (i + 1)) % m * (b ^ (e / 2 ^ (i + 1)) % m) % m = _
    rw [← Nat.mul_mod, ← Nat.pow_add, h1, Nat.two_mul]
  rw [ha]
  have h2 := Nat.div_add_mod (e / 2 ^ i) 2
  by_cases h : e / 2 ^ i % 2 = 1
  · rw [if_pos h]
    rw [h] at h2
    conv => lhs; rw [← h2]
    rw [Nat.pow_succ, Nat.mod_mul_mod]
  · rw [if_neg h]
    have h0 : e / 2 ^ i % 2 = 0 := by omega
    rw [h0, Nat.add_zero] at h2
    rw [h2]
end Dv
namespace Dv
theorem prod_lt {x y p : Nat} (hx : x < p) (hy : y < p) (hp : p < 18446744073709551616) : x * y / 18446744073709551616 < p := by
  refine Nat.div_lt_of_lt_mul ?_
  rw [Nat.mul_comm]
  exact Nat.mul_lt_mul'' (Nat.lt_trans hy hp) hx
end Dv
namespace Eng
open Go Go.RowKit
section
variable {P : Program} {n : Nat} {D : List Deferred} {W : World} {Bo : List Nat} {F : List (Nat × Value)} {l : SH} {Q : Exit → Act → World → Prop}
theorem c_rangeN {gf : FuncId} [hf : HF P gf] {go : Operand} {prs : Array Tmp} {assign body : Code} {fs cs : List Value} {σ : Type} (lx : σ → SH) (φ : σ → Prop)
    (hcall : ∀ (fn : FuncId) (tm : Array Value) (Dk L : Nat), (∀ D', Fr n F D' { tmps := tm, defers := D' }) → ∀ w, St W Bo w (.blk L (.loop { state := .ready, pending := none, fn, tmps := tm, params := prs, assign, body, defers := Dk }) :: .blk Dk (.deferred (some [])) :: l) →
      Calls P gf (fs ++ [Value.func (.yield L) #[] #[]] ++ cs).toArray w fun e w' => (∃ v, e = .returned v) ∧ ∃ x, φ x ∧ St W Bo w' (.blk L (.loop { state := .ready, pending := none, fn, tmps := tm, params := prs, assign, body, defers := Dk }) :: .blk Dk (.deferred (some [])) :: lx x))
    (hx : ∀ Dk x, φ x → QP n ({ target := .collected Dk, args := #[] } :: D) W Bo Q .normal F (.blk Dk (.deferred (some [])) :: lx x))
    (hgo : evO F go = some (.func (.func gf) fs.toArray cs.toArray) := by rfl) : CP none P n D W Bo (.rangeFunc go prs assign body) Q F l := by
  intro a w ha hw
  refine wpIn_rangeFunc ?_
  intro fn _
  obtain ⟨fnd, bc, h1, h2, h3⟩ := hf.h
  have hcf : ∀ w' : World, (callFunc gf (fs ++ [Value.func (.yield (w.heap.size + 1)) #[] #[]] ++ cs).toArray).run P w' = .ok (.enter gf (fs ++ [Value.func (.yield (w.heap.size + 1)) #[] #[]] ++ cs).toArray) w' := fun w' => by
    have h4 : fnd.name ≠ "runtime.NumGoroutine" := by simpa using h3
    simp [callFunc, h1, h4, h2]
  have hw1 : St W Bo ((w.alloc (.deferred (some []))).alloc (.loop { state := .ready, pending := none, fn, tmps := a.tmps, params := prs, assign, body, defers := w.heap.size })) (.blk (w.heap.size + 1) (.loop { state := .ready, pending := none, fn, tmps := a.tmps, params := prs, assign, body, defers := w.heap.size }) :: .blk w.heap.size (.deferred (some [])) :: l) := by
    have := (hw.alloc (.deferred (some []))).alloc (.loop { state := .ready, pending := none, fn, tmps := a.tmps, params := prs, assign, body, defers := w.heap.size })
    rwa [World.size_alloc] at this
  obtain ⟨W1, hW1⟩ : ∃ W1, W1 = (w.alloc (.deferred (some []))).alloc (.loop { state := .ready, pending := none, fn, tmps := a.tmps, params := prs, assign, body, defers := w.heap.size }) := ⟨_, rfl⟩
  rw [← hW1] at hw1
  refine ⟨w.heap.size + 1, [{ target := .collected w.heap.size, args := #[] }], W1, { target := .fn (.func gf) cs.toArray, args := fs.toArray ++ #[Value.func (.yield (w.heap.size + 1)) #[] #[]] }, W1, gf, (fs ++ [Value.func (.yield (w.heap.size + 1)) #[] #[]] ++ cs).toArray, W1,
    by rw [hW1]; exact run_enterLoop_outer _ _ _ _ _, ?_, fun f' _ => trivial, ?_, by simp [Fw, Fence.wide], ?_⟩
  · simp only [resolve, ha.eval hgo]
    simp [go_sem, Deferred.ofValue]
  · simp only [invoke]
    simpa using hcf _
  · refine callsFw ((hcall fn a.tmps w.heap.size (w.heap.size + 1) (fun D' => ⟨ha.size, rfl, ha.slot⟩) _ hw1).mono ?_)
    rintro e w' ⟨⟨v, rfl⟩, x, hx', hw'⟩
    refine ⟨_, _, run_endLoop (hw'.own _ (.head _)).1 (by simp), ?_⟩
    refine hx w.heap.size x hx' _ _ ⟨ha.size, by simp [ha.defers], ha.slot⟩ ?_
    have := hw'.putObj (Rep.head (p' := .blk (w.heap.size + 1) (.loop { state := .exhausted, pending := none, fn, tmps := a.tmps, params := prs, assign, body, defers := w.heap.size })) _)
    exact this.sub (.cons _ (.refl _))
theorem ret1E {fn : Func} {R : Ending → World → Prop} {a : ResultVar} {v : Value} {Dk : Nat} {l' : SH} (hf : fn.results = #[a]) (hL : Rep (.blk Dk (.deferred (some []))) (.blk Dk (.deferred none)) l l') (h : RV P n W Bo F l' a v) (hR : ∀ w, St W Bo w l' → R (.returned v) w) :
    QP n [{ target := .collected Dk, args := #[] }] W Bo (bodyPostM (Fw none) 0 P fn R) .ret F l := by
  intro ac w ha hw
  have h0 : QP n [] W Bo (bodyPost P fn R) .ret F l' := ret1 hf h hR
  have h3 := h0 { ac with defers := [] } _ ⟨ha.size, rfl, ha.slot⟩ (hw.putObj hL)
  obtain ⟨hd, h4⟩ := h3
  show LeavesInM _ _ _ _ _ _ ac.defers .returning w
  rw [ha.defers]
  exact ⟨by simp, .inl ⟨Dk, _, rfl, run_takeDeferred (hw.own _ hL.mem).1, h4⟩⟩
end
end Eng
namespace Go.Proofs.YtejdjnkilikehaaGreatDoor
open Go Eng Dv
theorem bits_Mul64_ok (w : World) (x y : Nat) (hx : x < 18446744073709551616) (hy : y < 18446744073709551616) :
    Pure Tryz.prog 205 [U x, U y] w (.tuple #[U (x * y / 18446744073709551616), U (x * y % 18446744073709551616)]) := by
  obtain ⟨x0, hx0⟩ : ∃ x0, x0 = x % 2 ^ 32 := ⟨_, rfl⟩
  obtain ⟨x1, hx1⟩ : ∃ x1, x1 = x / 2 ^ 32 := ⟨_, rfl⟩
  obtain ⟨y0, hy0⟩ : ∃ y0, y0 = y % 2 ^ 32 := ⟨_, rfl⟩
  obtain ⟨y1, hy1⟩ : ∃ y1, y1 = y / 2 ^ 32 := ⟨_, rfl⟩
  have bx0 : x0 < 4294967296 := by omega
  have bx1 : x1 < 4294967296 := by omega
  have by0 : y0 < 4294967296 := by omega
  have by1 : y1 < 4294967296 := by omega
  have ex : x1 * 4294967296 + x0 = x := by rw [hx1, hx0]; exact split2 x
  have ey : y1 * 4294967296 + y0 = y := by rw [hy1, hy0]; exact split2 y
  have ba := half bx0 by0
  have bb := half bx1 by0
  have bc := half bx0 by1
  have bd := half bx1 by1
  obtain ⟨a, ha⟩ : ∃ a, x0 * y0 = a := ⟨_, rfl⟩
  obtain ⟨b, hb⟩ : ∃ b, x1 * y0 = b := ⟨_, rfl⟩
  obtain ⟨c, hc⟩ : ∃ c, x0 * y1 = c := ⟨_, rfl⟩
  obtain ⟨d, hd⟩ : ∃ d, x1 * y1 = d := ⟨_, rfl⟩
  rw [ha] at ba
  rw [hb] at bb
  rw [hc] at bc
  rw [hd] at bd
  obtain ⟨t, ht⟩ : ∃ t, t = b + a / 4294967296 := ⟨_, rfl⟩
  obtain ⟨w1, hw1⟩ : ∃ w1, w1 = t % 4294967296 + c := ⟨_, rfl⟩
  have hh := mul_hi ha hb hc hd ht hw1
  rw [ex, ey] at hh
  have hlt : x * y / 18446744073709551616 < 18446744073709551616 := Nat.div_lt_of_lt_mul (Nat.mul_lt_mul'' hx hy)
  rw [hh] at hlt
  refine enter Tryz.func205 Tryz.ntmps205 ?_
  refine c_seq <| c_reg <| s_y y_as <| s_y y_as <| s_nil <| q_then <| c_seq <| c_reg <| s_y y_mv <| s_y (y_mask (p := x) 32) <| ?_
  rw [← hx0]
  refine s_y y_as <| s_nil <| q_then <| c_seq <| c_reg <| s_y y_mv <| s_y (y_shrW 32) <| ?_
  rw [← hx1]
  refine s_y y_as <| s_nil <| q_then <| c_seq <| c_reg <| s_y y_mv <| s_y (y_mask (p := y) 32) <| ?_
  rw [← hy0]
  refine s_y y_as <| s_nil <| q_then <| c_seq <| c_reg <| s_y y_mv <| s_y (y_shrW 32) <| ?_
  rw [← hy1]
  refine s_y y_as <| s_nil <| q_then <| c_seq <| c_reg <| s_y y_mv <| s_y y_mv <| s_y (y_mul64 (p := x0) (q := y0)) <| ?_
  rw [ha]
  refine s_y y_as <| s_nil <| q_then <| c_seq <| c_reg <| s_y y_mv <| s_y y_mv <| s_y (y_mul64 (p := x1) (q := y0)) <| ?_
  rw [hb]
  refine s_y y_mv <| s_y (y_shrW 32) <| s_y (y_add64 (p := b) (q := a / 2 ^ 32)) <| ?_
  rw [show b + a / 2 ^ 32 = t from ht.symm]
  refine s_y y_as <| s_nil <| q_then <| c_seq <| c_reg <| s_y y_mv <| s_y (y_mask (p := t) 32) <| s_y y_as <| s_nil <| q_then <| c_seq <| c_reg <| s_y y_mv <| s_y (y_shrW 32) <| s_y y_as <| s_nil <| q_then <| c_seq <| c_reg <| s_y y_mv <| s_y y_mv <| s_y y_mv <| s_y (y_mul64 (p := x0) (q := y1)) <| ?_
  rw [hc]
  refine s_y (y_add64 (p := t % 2 ^ 32) (q := c)) <| ?_
  rw [show t % 2 ^ 32 + c = w1 from hw1.symm]
  refine s_y y_as <| s_nil <| q_then <| c_seq <| c_reg <| s_y y_mv <| s_y y_mv <| s_y (y_mul64 (p := x1) (q := y1)) <| ?_
  rw [hd]
  refine s_y y_mv <| s_y (y_add64 (p := d) (q := t / 2 ^ 32)) <| s_y y_mv <| s_y (y_shrW 32) <| s_y (y_add64 (p := d + t / 2 ^ 32) (q := w1 / 2 ^ 32)) <| ?_
  rw [show d + t / 2 ^ 32 + w1 / 2 ^ 32 = x * y / 18446744073709551616 from hh.symm]
  refine s_y y_as <| s_nil <| q_then <| c_seq <| c_reg <| s_y y_mv <| s_y y_mv <| s_y (y_mulW (p := x) (q := y)) <| s_y y_as <| s_nil <| q_then <| c_ret <| ?_
  exact ret2 Tryz.results205 rv_t rv_t fun w' hw => ⟨rfl, hw⟩
theorem group_times_ok (w : World) (x y : Nat) (hx : x < 4611686018427377339) (hy : y < 4611686018427377339) :
    Pure Tryz.prog 154 [U x, U y] w (U (x * y % 4611686018427377339)) := by
  have hd := Nat.div_add_mod (x * y) 18446744073709551616
  have hp := prod_lt hx hy (by decide)
  refine enter Tryz.func154 Tryz.ntmps154 ?_
  refine c_seq <| c_reg <| s_y y_as <| s_nil <| q_then <| c_seq <| c_reg <| s_y y_mv <| s_y y_mv <| s_pure (fun w' hw => bits_Mul64_ok w' x y (Nat.lt_trans hx (by decide)) (Nat.lt_trans hy (by decide))) <| s_y y_mv <| s_y y_ext <| s_y y_ext <| s_y y_as <| s_y y_as <| s_nil <| q_then <| c_seq <| c_reg <| s_y y_mv <| s_y y_mv <| s_pure (fun w' hw => bits_Div64_ok w' (x * y / 18446744073709551616) (x * y % 18446744073709551616) 4611686018427377339 hp (Nat.mod_lt _ (by decide)) (by decide)) <| ?_
  rw [Nat.mul_comm (x * y / 18446744073709551616), hd]
  refine s_y y_mv <| s_y y_ext <| s_y y_ext <| s_y y_as <| s_y y_as <| s_nil <| q_then <| c_seq <| c_reg <| s_y y_mv <| s_y y_as <| s_nil <| q_then <| c_ret <| ?_
  exact ret1 Tryz.results154 rv_t fun w' hw => ⟨rfl, hw⟩
end Go.Proofs.YtejdjnkilikehaaGreatDoor
namespace Go.Proofs.YtejdjnkilikehaaGreatDoor
open Go Eng Dv
theorem group_digits_ok (w : World) (e : Nat) : Gives Tryz.prog 202 [U e] w [] (fun b : Nat => .func (.func 225) #[] #[.pointer (some ⟨b, 0, none⟩)]) (fun b => [.blk b (.cells #[U e] 146 (0, 0))]) (fun _ => True) := by
  refine enter Tryz.func202 Tryz.ntmps202 ?_
  refine c_seq <| c_reg <| s_box rfl fun b1 => s_y y_as <| s_nil <| q_then <| c_seq <| c_reg <| s_y y_func <| s_y y_as <| s_nil <| q_then <| c_ret <| ?_
  exact ret1 Tryz.results202 rv_t fun w' hw => ⟨b1, trivial, rfl, hw⟩
def pwM (L Dk : Nat) (rc : Loop) (b5 b2 b1 e b acc : Nat) : SH :=
  [.blk L (.loop rc), .blk Dk (.deferred (some [])), .blk b1 (.cells #[U e] 146 (0, 0)), .blk b5 (.cells #[U acc] 146 (0, 0)), .blk b2 (.cells #[U b] 146 (0, 0))]
theorem digits1_ok (w' : World) (rc : Loop) (L Dk b5 b2 b1 e b p : Nat) (he : e < 18446744073709551616) (hp : 1 < p)
    (hs : ∀ q ∈ pwM L Dk rc b5 b2 b1 e b 1, q.holds w') (hnd : (keys (pwM L Dk rc b5 b2 b1 e b 1)).Nodup) (hpz : rc.params.size = 1)
    (hround : ∀ (i : Nat) (w2 : World), St w' (keys (pwM L Dk rc b5 b2 b1 e b 1)) w2 (pwM L Dk rc b5 b2 b1 e b (b ^ (e / 2 ^ (i + 1)) % p)) →
      RoundIn (Fw none) 0 Tryz.prog L rc.fn ((rc.params.zip #[.bool (decide (e / 2 ^ i % 2 = 1))]).foldl (fun tmps (t, a) => tmps.setIfInBounds t a) rc.tmps) rc.assign rc.body w2 fun e' w3 => ∃ _ : Unit, True ∧ e' = .returned (.bool true) ∧ St w' (keys (pwM L Dk rc b5 b2 b1 e b 1)) w3 (pwM L Dk { rc with state := .ready, pending := none } b5 b2 b1 e b (b ^ (e / 2 ^ i) % p)))
    (hrdy : rc = { rc with state := .ready, pending := none } := by rfl) :
    Calls Tryz.prog 225 #[.func (.yield L) #[] #[], .pointer (some ⟨b1, 0, none⟩)] w' fun e' w2 => (∃ v, e' = .returned v) ∧ St w' (keys (pwM L Dk rc b5 b2 b1 e b 1)) w2 (pwM L Dk rc b5 b2 b1 e b (b ^ e % p)) := by
  obtain ⟨len, hlen, hl1, _, hlz⟩ := bits_Len64_ok e he
  refine enterL (args := [.func (.yield L) #[] #[], .pointer (some ⟨b1, 0, none⟩)]) Tryz.func225 Tryz.ntmps225 hs hnd ?_
  obtain ⟨bo, hbo⟩ : ∃ bo, bo = keys (pwM L Dk rc b5 b2 b1 e b 1) := ⟨_, rfl⟩
  rw [← hbo] at hround ⊢
  have h1p : b ^ (e / 2 ^ len) % p = 1 := by rw [Nat.div_eq_of_lt hl1, Nat.pow_zero, Nat.mod_eq_of_lt hp]
  refine c_seq <| c_reg <| s_y (y_ld (v := U e)) <| s_pure (fun w2 _ => hlz w2) <| s_y (y_sub (p := len) (q := 1)) <| s_y y_as <| s_nil <| q_then <| c_block <| ?_
  refine c_loop (fun j : Nat => [(0, .func (.yield L) #[] #[]), (1, .pointer (some ⟨b1, 0, none⟩)), (3, I ((j : Int) - 1))]) (fun j => pwM L Dk rc b5 b2 b1 e b (b ^ (e / 2 ^ j) % p)) (fun j => j ≤ 64) (fun j => j) len hlen ⟨rfl, rfl, rfl, trivial⟩ (by rw [h1p]; exact .refl _) ?_
  intro j hj
  refine c_seq <| c_seq <| c_reg <| s_y y_mv <| s_y (y_geq (p := (j : Int) - 1) (q := 0)) <| s_nil <| q_then <| c_ifd (fun h8 => ?_) (fun h8 => ?_)
  · obtain ⟨i, rfl⟩ : ∃ i, j = i + 1 := ⟨j - 1, by omega⟩
    rw [show ((i + 1 : Nat) : Int) - 1 = (i : Int) by omega]
    refine c_skip <| q_then <| c_seq <| c_block <| c_seq <| c_reg <| s_y y_mv <| s_y (y_ld (v := U e)) <| s_y y_mv <| s_y (y_shrW i) <| s_y (y_mask (p := e / 2 ^ i) 1 (hp := by simp only [IntKind.bits]; exact Nat.lt_of_le_of_lt (Nat.div_le_self _ _) he)) <| s_y (y_eql (p := ((e / 2 ^ i % 2 ^ 1 : Nat) : Int)) (q := 1)) <| ?_
    rw [show decide (((e / 2 ^ i % 2 ^ 1 : Nat) : Int) = 1) = decide (e / 2 ^ i % 2 = 1) from decide_eq_decide.2 ⟨fun h => by omega, fun h => by omega⟩]
    refine s_yield (L := L) (rc := rc) (σ := Unit) (fun _ => .bool true) (fun _ => pwM L Dk { rc with state := .ready, pending := none } b5 b2 b1 e b (b ^ (e / 2 ^ i) % p)) (fun _ => True) (.head _) hpz (fun w2 h2 => hround i w2 h2) (fun _ _ => ?_)
    rw [← hrdy]
    refine s_y (v := .bool false) (y_not (b := true)) <| s_nil <| q_then <| c_f <| c_skip <| q_nb <| q_then <| c_reg <| s_y y_mv <| s_y (y_sub (p := (i : Int)) (q := 1)) <| s_y y_as <| s_nil <| q_round i (by omega) (by omega) ⟨rfl, rfl, rfl, trivial⟩ (.refl _)
  · obtain rfl : j = 0 := by omega
    rw [Nat.pow_zero, Nat.div_one]
    refine c_exit <| q_ex <| q_ex <| q_exb <| ?_
    exact ret0 Tryz.results225 (fun w2 h2 => ⟨⟨_, rfl⟩, h2⟩) _ (.inr rfl)
theorem group_power_ok (w : World) (b e : Nat) (hb : b < 4611686018427377339) (he : e < 18446744073709551616) :
    Pure Tryz.prog 152 [U b, U e] w (U (b ^ e % 4611686018427377339)) := by
  refine enterM Tryz.func152 Tryz.ntmps152 ?_
  refine c_seq <| c_reg <| s_box rfl fun b2 => s_y y_as <| s_nil <| q_then <| c_seq <| c_reg <| s_alloc fun b5 => s_st (b := b5) (v := U 1) (cs := #[U 0]) (hl := Nat.zero_lt_one) ?_
  refine s_nil <| q_then <| c_seq <| c_seq <| c_reg <| s_y y_mv <| s_gives (fun w' hw => group_digits_ok w' e) fun b1 _ => s_nil <| q_then <| c_block <| ?_
  refine c_rangeN (σ := Unit) (fun _ => [.blk b1 (.cells #[U e] 146 (0, 0)), .blk b5 (.cells #[U (b ^ e % 4611686018427377339)] 146 (0, 0)), .blk b2 (.cells #[U b] 146 (0, 0))]) (fun _ => True) (fun fn tm Dk L hfr w' hw' => ?_) (fun Dk _ _ => ?_)
  rotate_left
  · refine q_nb <| q_then <| c_seq <| c_reg <| s_y (y_ld (b := b5) (v := U (b ^ e % 4611686018427377339))) <| s_y y_as <| s_nil <| q_then <| c_ret <| ?_
    exact ret1E Tryz.results152 (.head _) rv_t fun w' hw => ⟨rfl, hw.sub (List.nil_sublist _)⟩
  · have hps := (show St w [] w' (pwM L Dk _ b5 b2 b1 e b 1 ++ []) by rw [List.append_nil]; exact hw').has
    refine (digits1_ok w' _ L Dk b5 b2 b1 e b 4611686018427377339 he (by decide) hps.1 hps.2 rfl (fun i w2 h2 => ?_)).mono fun e' w2 ⟨hv, h2⟩ => ⟨hv, (), trivial, by have h9 := hw'.transL (l2 := []) (by rw [List.append_nil]; exact .refl _) h2; rw [List.append_nil] at h9; exact h9⟩
    have hf9 := (hfr []).put 9 (.bool (decide (e / 2 ^ i % 2 = 1))) rfl
    have hst := pow_step b e i 4611686018427377339
    dsimp only at hst
    obtain ⟨a, ha⟩ : ∃ a, b ^ (e / 2 ^ (i + 1)) % 4611686018427377339 = a := ⟨_, rfl⟩
    have hal : a < 4611686018427377339 := by rw [← ha]; exact Nat.mod_lt _ (by decide)
    rw [ha] at hst h2
    refine round_ok (F1 := [(2, .pointer (some ⟨b2, 0, none⟩)), (5, .pointer (some ⟨b5, 0, none⟩)), (6, .bool (decide (e / 2 ^ i % 2 = 1)))]) h2 hf9 (by simp [Act.put]) (by rfl) (.head _) (l1 := pwM L Dk _ b5 b2 b1 e b a) ?_ ?_
    · refine c_reg <| s_y y_as <| s_nil <| q_join ⟨rfl, rfl, rfl, trivial⟩ (List.Sublist.refl _)
    · refine c_block <| c_seq <| c_reg <| s_y (y_ld (b := b5) (v := U a)) <| s_y (y_ld (b := b5) (v := U a)) <| s_pure (fun w3 h3 => group_times_ok w3 a a hal hal) <| s_st (b := b5) (v := U (a * a % 4611686018427377339)) (cs := #[U a]) (hl := Nat.zero_lt_one) ?_
      refine s_nil <| q_then <| c_seq <| c_reg <| s_y y_mv <| s_nil <| q_then <| c_ifd (fun h13 => ?_) (fun h13 => ?_)
      · rw [if_pos h13] at hst
        refine c_reg <| s_y (y_ld (b := b5) (v := U (a * a % 4611686018427377339))) <| s_y (y_ld (b := b2) (v := U b)) <| s_pure (fun w3 h3 => group_times_ok w3 (a * a % 4611686018427377339) b (Nat.mod_lt _ (by decide)) hb) <| s_st (b := b5) (v := U (a * a % 4611686018427377339 * b % 4611686018427377339)) (cs := #[U (a * a % 4611686018427377339)]) (hl := Nat.zero_lt_one) ?_
        refine s_nil <| q_nb <| q_rn (.head _) fun w3 h3 => ⟨(), trivial, rfl, ?_⟩
        rw [hst]; exact h3
      · rw [if_neg h13] at hst
        refine c_skip <| q_nb <| q_rn (.head _) fun w3 h3 => ⟨(), trivial, rfl, ?_⟩
        rw [hst]; exact h3
end Go.Proofs.YtejdjnkilikehaaGreatDoor
namespace Go.Proofs.YtejdjnkilikehaaGreatDoor
open Go Eng Sha Cod Dv
theorem four_Q : 4 ^ Num.Q % 4611686018427377339 = 1 := by
  have h := Num.four.1
  rw [show Num.P = 4611686018427377339 from rfl, show 1 % 4611686018427377339 = 1 from rfl] at h
  exact h
end Go.Proofs.YtejdjnkilikehaaGreatDoor
end
section
namespace Gf
open Eng
theorem pp_ex : ∃ f : Nat → Nat → Nat, ∀ a k, f a k = a ^ k % 4611686018427377339 := ⟨fun a k => a ^ k % 4611686018427377339, fun _ _ => rfl⟩
noncomputable def pp : Nat → Nat → Nat := Classical.choose pp_ex
theorem pp_def (a k : Nat) : pp a k = a ^ k % 4611686018427377339 := Classical.choose_spec pp_ex a k
theorem qq_ex : ∃ f : Nat → Nat → Nat, ∀ a k, f a k = a ^ k % 2305843009213688669 := ⟨fun a k => a ^ k % 2305843009213688669, fun _ _ => rfl⟩
noncomputable def qq : Nat → Nat → Nat := Classical.choose qq_ex
theorem qq_def (a k : Nat) : qq a k = a ^ k % 2305843009213688669 := Classical.choose_spec qq_ex a k
noncomputable def el (a : Int) : Bool := decide (1 ≤ a) && (decide (a < 4611686018427377339) && decide (pp a.toNat Num.Q = 1))
noncomputable def chk (a : Int) : Int := bif el a then 0 else 40
def sc (a : Int) : Bool := decide (0 ≤ a) && decide (a < 2305843009213688669)
noncomputable def expE (a k : Int) : Int := bif el a then (bif sc k then 0 else 1) else 40
noncomputable def expV (a k : Int) : Int := bif el a && sc k then ((pp a.toNat k.toNat : Nat) : Int) else 0
noncomputable def mulE (a b : Int) : Int := bif el a && el b then 0 else 40
noncomputable def mulV (a b : Int) : Int := bif el a && el b then ((a.toNat * b.toNat % 4611686018427377339 : Nat) : Int) else 0
theorem el_of {x : Nat} (h0 : 0 < x) (h1 : x < 4611686018427377339) : el (x : Int) = decide (pp x Num.Q = 1) := by
  unfold el
  rw [decide_eq_true (show (1 : Int) ≤ (x : Int) by omega), decide_eq_true (show (x : Int) < 4611686018427377339 by omega), Int.toNat_natCast, Bool.true_and, Bool.true_and]
theorem el_nat {a : Int} (h : el a = true) : ∃ x : Nat, a = (x : Int) ∧ 0 < x ∧ x < 4611686018427377339 ∧ pp x Num.Q = 1 := by
  unfold el at h
  simp only [Bool.and_eq_true, decide_eq_true_eq] at h
  exact ⟨a.toNat, by omega, by omega, by omega, h.2.2⟩
theorem sc_nat {a : Int} (h : sc a = true) : ∃ x : Nat, a = (x : Int) ∧ x < 2305843009213688669 := by
  unfold sc at h
  simp only [Bool.and_eq_true, decide_eq_true_eq] at h
  exact ⟨a.toNat, by omega, by omega⟩
theorem sc_of {x : Nat} (h : x < 2305843009213688669) : sc (x : Int) = true := by
  unfold sc
  rw [decide_eq_true (show (0 : Int) ≤ (x : Int) by omega), decide_eq_true (show (x : Int) < 2305843009213688669 by omega)]; rfl
theorem sc_lo {a : Int} (h : a < 0) : sc a = false := by unfold sc; rw [decide_eq_false (show ¬ 0 ≤ a by omega)]; rfl
theorem sc_hi {a : Int} (h : 2305843009213688669 ≤ a) : sc a = false := by unfold sc; rw [decide_eq_false (show ¬ a < 2305843009213688669 by omega)]; simp
theorem pp_lt (a k : Nat) : pp a k < 4611686018427377339 := by rw [pp_def]; exact Nat.mod_lt _ (by decide)
theorem qq_lt (a k : Nat) : qq a k < 2305843009213688669 := by rw [qq_def]; exact Nat.mod_lt _ (by decide)
/-- an element: a number -/
structure El (x : Nat) : Prop where
  pos : 0 < x
  lt : x < 4611686018427377339
  one : pp x Num.Q = 1
theorem El.el {x : Nat} (h : El x) : Gf.el (x : Int) = true := by rw [el_of h.pos h.lt, decide_eq_true h.one]
theorem pp_add (a m n : Nat) : pp a (m + n) = pp a m * pp a n % 4611686018427377339 := by rw [pp_def, pp_def, pp_def]; exact Num.pow_add_mod a m n _
theorem pp_pp (a m n : Nat) : pp (pp a m) n = pp a (m * n) := by rw [pp_def, pp_def, pp_def, ← Nat.pow_mod, ← Nat.pow_mul]
theorem pp_mul (a b k : Nat) : pp (a * b % 4611686018427377339) k = pp a k * pp b k % 4611686018427377339 := by
  rw [pp_def, pp_def, pp_def, ← Nat.pow_mod, Nat.mul_pow, Nat.mul_mod]
theorem pp_one (k : Nat) : pp 1 k = 1 := by rw [pp_def, Nat.one_pow]
theorem pp_self {x : Nat} (h : x < 4611686018427377339) : pp x 1 = x := by rw [pp_def]; rw [Nat.pow_one, Nat.mod_eq_of_lt h]
theorem El.pos' {y : Nat} (h : pp y Num.Q = 1) : 0 < y := by
  rcases Nat.eq_zero_or_pos y with h0 | h0
  · subst h0
    rw [pp_def, Nat.zero_pow (show 0 < Num.Q from (show 0 < 2305843009213688669 by decide))] at h
    exact absurd h (by decide)
  · exact h0
theorem El.mk' {y : Nat} (hl : y < 4611686018427377339) (h : pp y Num.Q = 1) : El y := ⟨El.pos' h, hl, h⟩
theorem El.pow {x : Nat} (h : El x) (k : Nat) : El (pp x k) := El.mk' (pp_lt _ _) (by rw [pp_pp, Nat.mul_comm, ← pp_pp, h.one, pp_one])
theorem El.mul {x y : Nat} (hx : El x) (hy : El y) : El (x * y % 4611686018427377339) := El.mk' (Nat.mod_lt _ (by decide)) (by rw [pp_mul, hx.one, hy.one])
theorem El.four : El 4 := El.mk' (by decide) (by rw [pp_def]; exact Go.Proofs.YtejdjnkilikehaaGreatDoor.four_Q)
theorem El.pmod {x : Nat} (h : El x) (k : Nat) : pp x (k % Num.Q) = pp x k := by
  have e : k = Num.Q * (k / Num.Q) + k % Num.Q := (Nat.div_add_mod k Num.Q).symm
  have h1 : pp x (Num.Q * (k / Num.Q)) = 1 := by rw [← pp_pp, h.one, pp_one]
  have h2 := pp_add x (Num.Q * (k / Num.Q)) (k % Num.Q)
  rw [← e, h1, Nat.one_mul, Nat.mod_eq_of_lt (pp_lt _ _)] at h2
  exact h2.symm
theorem El.pcongr {x : Nat} (h : El x) {a b : Nat} (hab : a % Num.Q = b % Num.Q) : pp x a = pp x b := by rw [← h.pmod a, hab, h.pmod]
theorem Qeq : Num.Q = 2305843009213688669 := rfl
theorem El.inv {x : Nat} (h : El x) : x * pp x 2305843009213688668 % 4611686018427377339 = 1 := by
  have h1 := pp_add x 1 2305843009213688668
  rw [pp_self h.lt, show 1 + 2305843009213688668 = Num.Q from rfl, h.one] at h1
  exact h1.symm
theorem mulP_assoc (a b c : Nat) : a * (b * c % 4611686018427377339) % 4611686018427377339 = a * b % 4611686018427377339 * c % 4611686018427377339 := by
  rw [Nat.mul_mod, Nat.mod_mod, ← Nat.mul_mod, Nat.mul_mod (a * b % 4611686018427377339), Nat.mod_mod, ← Nat.mul_mod, Nat.mul_assoc]
theorem qq_inv {x : Nat} (h0 : 0 < x) (h1 : x < 2305843009213688669) : x * qq x 2305843009213688667 % 2305843009213688669 = 1 := by
  have h := Num.fermat_Q (a := x) (by rw [Qeq, Nat.mod_eq_of_lt h1]; omega)
  rw [qq_def]
  have h2 := Num.pow_add_mod x 1 2305843009213688667 2305843009213688669
  rw [Nat.pow_one, Nat.mod_eq_of_lt h1] at h2
  rw [← h2, show 1 + 2305843009213688667 = Num.Q - 1 from rfl]
  exact h
end Gf
end
section
namespace Sig
open Go Eng Sha Gf Go.Proofs.YtejdjnkilikehaaGreatDoor
abbrev tSign : List UInt8 := [115, 105, 103, 110]
abbrev tNonce : List UInt8 := [110, 111, 110, 99, 101]
def chal (r p : Nat) (m : List UInt8) : Nat := scal tSign (be r 8 ++ be p 8 ++ m)
def nonce (x : Nat) (m : List UInt8) : Nat := scal tNonce (be x 8 ++ m)
noncomputable def sgR (x : Nat) (m : List UInt8) : Nat := pp 4 (nonce x m)
noncomputable def sgS (x : Nat) (m : List UInt8) : Nat := (nonce x m + chal (sgR x m) (pp 4 x) m * x % 2305843009213688669) % 2305843009213688669
noncomputable def vrf (p : Int) (m : List UInt8) (r s : Int) : Bool :=
  el p && (el r && (sc s && decide (pp 4 s.toNat = r.toNat * pp p.toNat (chal r.toNat p.toNat m) % 4611686018427377339)))
theorem chal_lt (r p : Nat) (m : List UInt8) : chal r p m < 2305843009213688669 := (scal_lt _ _).2
theorem nonce_lt (x : Nat) (m : List UInt8) : nonce x m < 2305843009213688669 := (scal_lt _ _).2
theorem sgR_el (x : Nat) (m : List UInt8) : El (sgR x m) := El.four.pow _
theorem sgS_lt (x : Nat) (m : List UInt8) : sgS x m < 2305843009213688669 := Nat.mod_lt _ (by decide)
theorem vrf_sign (x : Nat) (m : List UInt8) : vrf (pp 4 x : Nat) m (sgR x m : Nat) (sgS x m : Nat) = true := by
  unfold vrf
  rw [(El.four.pow x).el, (sgR_el x m).el, sc_of (sgS_lt x m), Bool.true_and, Bool.true_and, Bool.true_and, Int.toNat_natCast, Int.toNat_natCast, Int.toNat_natCast]
  refine decide_eq_true ?_
  have h1 : pp 4 (sgS x m) = pp 4 (nonce x m + chal (sgR x m) (pp 4 x) m * x) := El.four.pcongr (by
    unfold sgS
    rw [Qeq, Nat.mod_mod, Nat.add_mod_mod])
  rw [h1, pp_add, pp_pp, Nat.mul_comm x]
  rfl
end Sig
end
section
namespace Go.Proofs.YtejdjnkilikehaaGreatDoor
open Go Eng
theorem slices_Index_int_int_ok (w : World) (a : Option Addr) (q : List Int) (c : Nat) (v : Int) (hr : Rd w a (is q)) (hl : q.length < 9223372036854775807) :
    Pure Tryz.prog 162 [.slice a q.length c, I v] w (I (fidx (fun x => decide (v = x)) q)) := by
  refine enter Tryz.func162 Tryz.ntmps162 ?_
  refine c_seq <| c_reg <| s_y y_as <| s_nil <| q_then <| c_seq <| c_seq <| c_reg <| s_y y_mv <| s_y y_len <| s_y y_mv <| s_nil <| q_then <| c_block <| ?_
  refine c_loop (fun k : Nat => [(0, .slice a q.length c), (1, I v), (7, I q.length), (8, I k)]) (fun _ => []) (fun k => k ≤ q.length ∧ ∀ i, i < k → decide (v = q.getD i 0) = false) (fun k => q.length - k) 0 ⟨by omega, by omega⟩ ⟨rfl, rfl, rfl, rfl, trivial⟩ (List.Sublist.refl _) ?_
  intro k ⟨hk, hno⟩
  refine c_seq <| c_reg <| s_y y_lss <| s_nil <| q_then <| c_seq <| ?_
  refine c_ifd (fun h9 => ?_) (fun h9 => ?_)
  · refine c_skip <| q_then <| c_seq <| c_block <| c_seq <| c_reg <| s_y y_mv <| s_y y_as <| s_nil <| q_then <| c_seq <| c_reg <| s_y y_mv <| s_y y_mv <| s_y y_mv <| s_y y_ixs1 <| s_y y_ldi <| s_y y_eql <| s_nil <| q_then <| ?_
    rw [Int.toNat_natCast]
    refine c_ifd (fun h16 => ?_) (fun h16 => ?_)
    · refine c_seq <| c_reg <| s_y y_mv <| s_y y_as <| s_nil <| q_then <| ?_
      refine c_ret <| q_retb <| q_ret <| q_ret <| q_retb <| q_ret <| ?_
      exact ret1 Tryz.results162 rv_t fun w' hw => ⟨by rw [fidx_hit (d := 0) (by omega) hno (by simpa using h16)], hw⟩
    · refine c_skip <| q_nb <| q_then <| c_reg <| s_y y_add <| s_y y_mv <| s_nil <| q_round (k + 1) ⟨by omega, ?_⟩ (by omega) ⟨rfl, rfl, rfl, rfl, trivial⟩ (List.Sublist.refl _)
      intro i hi
      by_cases e : i = k
      · subst e; simpa using h16
      · exact hno i (by omega)
  · refine c_exit <| q_ex <| q_ex <| q_exb <| q_then <| c_seq <| c_reg <| s_y y_as <| s_nil <| q_then <| ?_
    refine c_ret <| ?_
    exact ret1 Tryz.results162 rv_t fun w' hw => ⟨by rw [fidx_none (d := 0) (fun i hi => hno i (by omega))], hw⟩
theorem slices_Contains_int_int_ok (w : World) (a : Option Addr) (q : List Int) (c : Nat) (v : Int) (hr : Rd w a (is q)) (hl : q.length < 9223372036854775807) :
    Pure Tryz.prog 90 [.slice a q.length c, I v] w (.bool (q.any (fun x => decide (v = x)))) := by
  refine enter Tryz.func90 Tryz.ntmps90 ?_
  refine c_seq <| c_reg <| s_y y_as <| s_nil <| q_then <| c_seq <| c_reg <| s_y y_mv <| s_y y_mv <| s_pure (fun w' hw => slices_Index_int_int_ok w' a q c v (hr.st hw) hl) <| s_y y_geq <| s_y y_as <| s_nil <| q_then <| ?_
  refine c_ret <| ?_
  exact ret1 Tryz.results90 rv_t fun w' hw => ⟨by rw [fidx_any], hw⟩
theorem slices_IndexFunc_byte_byte_ok (w : World) (a : Option Addr) (q : List UInt8) (c : Nat) (kf : FuncId) (fs cs : List Value) [HF Tryz.prog kf] (p : UInt8 → Bool) (hp : ∀ w' x, St w [] w' [] → Pure Tryz.prog kf (fs ++ [B x] ++ cs) w' (.bool (p x))) (hr : Rd w a (bs q)) (hl : q.length < 9223372036854775807) :
    Pure Tryz.prog 163 [.slice a q.length c, .func (.func kf) fs.toArray cs.toArray] w (I (fidx p q)) := by
  refine enter Tryz.func163 Tryz.ntmps163 ?_
  refine c_seq <| c_reg <| s_y y_as <| s_nil <| q_then <| c_seq <| c_seq <| c_reg <| s_y y_mv <| s_y y_len <| s_y y_mv <| s_nil <| q_then <| c_block <| ?_
  refine c_loop (fun k : Nat => [(0, .slice a q.length c), (1, .func (.func kf) fs.toArray cs.toArray), (7, I q.length), (8, I k)]) (fun _ => []) (fun k => k ≤ q.length ∧ ∀ i, i < k → p (q.getD i 0) = false) (fun k => q.length - k) 0 ⟨by omega, by omega⟩ ⟨rfl, rfl, rfl, rfl, trivial⟩ (List.Sublist.refl _) ?_
  intro k ⟨hk, hno⟩
  refine c_seq <| c_reg <| s_y y_lss <| s_nil <| q_then <| c_seq <| ?_
  refine c_ifd (fun h9 => ?_) (fun h9 => ?_)
  · refine c_skip <| q_then <| c_seq <| c_block <| c_seq <| c_reg <| s_y y_mv <| s_y y_as <| s_nil <| q_then <| c_seq <| c_reg <| s_y y_mv <| s_y y_mv <| s_y y_mv <| s_y y_ixs1 <| s_y y_ldb <| s_pure (fun w' hw => hp w' _ hw) <| s_nil <| q_then <| ?_
    rw [Int.toNat_natCast]
    refine c_if rfl (fun h16 => ?_) (fun h16 => ?_)
    · refine c_seq <| c_reg <| s_y y_mv <| s_y y_as <| s_nil <| q_then <| ?_
      refine c_ret <| q_retb <| q_ret <| q_ret <| q_retb <| q_ret <| ?_
      exact ret1 Tryz.results163 rv_t fun w' hw => ⟨by rw [fidx_hit (d := 0) (by omega) hno h16], hw⟩
    · refine c_skip <| q_nb <| q_then <| c_reg <| s_y y_add <| s_y y_mv <| s_nil <| q_round (k + 1) ⟨by omega, ?_⟩ (by omega) ⟨rfl, rfl, rfl, rfl, trivial⟩ (List.Sublist.refl _)
      intro i hi
      by_cases e : i = k
      · subst e; exact h16
      · exact hno i (by omega)
  · refine c_exit <| q_ex <| q_ex <| q_exb <| q_then <| c_seq <| c_reg <| s_y y_as <| s_nil <| q_then <| ?_
    refine c_ret <| ?_
    exact ret1 Tryz.results163 rv_t fun w' hw => ⟨by rw [fidx_none (d := 0) (fun i hi => hno i (by omega))], hw⟩
theorem slices_ContainsFunc_byte_byte_ok (w : World) (a : Option Addr) (q : List UInt8) (c : Nat) (kf : FuncId) (fs cs : List Value) [HF Tryz.prog kf] (p : UInt8 → Bool) (hp : ∀ w' x, St w [] w' [] → Pure Tryz.prog kf (fs ++ [B x] ++ cs) w' (.bool (p x))) (hr : Rd w a (bs q)) (hl : q.length < 9223372036854775807) :
    Pure Tryz.prog 91 [.slice a q.length c, .func (.func kf) fs.toArray cs.toArray] w (.bool (q.any p)) := by
  refine enter Tryz.func91 Tryz.ntmps91 ?_
  refine c_seq <| c_reg <| s_y y_as <| s_nil <| q_then <| c_seq <| c_reg <| s_y y_mv <| s_y y_mv <| s_pure (fun w' hw => slices_IndexFunc_byte_byte_ok w' a q c kf fs cs p (fun w2 x h2 => hp w2 x ((hw.trans h2).sub (by simp))) (hr.st hw) hl) <| s_y y_geq <| s_y y_as <| s_nil <| q_then <| ?_
  refine c_ret <| ?_
  exact ret1 Tryz.results91 rv_t fun w' hw => ⟨by rw [fidx_any], hw⟩
theorem sort_Search_ok (w : World) (nn m : Int) (kf : FuncId) (fs cs : List Value) [HF Tryz.prog kf] (p : Int → Bool) (hp : ∀ w' i, St w [] w' [] → 0 ≤ i → i < nn → Pure Tryz.prog kf (fs ++ [I i] ++ cs) w' (.bool (p i)))
    (h0 : 0 ≤ m) (hm : m ≤ nn) (hn : nn ≤ 4611686018427387903) (hlo : ∀ i, 0 ≤ i → i < m → p i = false) (hhi : ∀ i, m ≤ i → i < nn → p i = true) :
    Pure Tryz.prog 78 [I nn, .func (.func kf) fs.toArray cs.toArray] w (I m) := by
  refine enter Tryz.func78 Tryz.ntmps78 ?_
  refine c_seq <| c_reg <| s_y y_as <| s_nil <| q_then <| c_seq <| c_reg <| s_y y_mv <| s_y y_as <| s_y y_as <| s_nil <| q_then <| c_seq <| c_block <| ?_
  refine c_loop2 (fun i j : Int => [(1, .func (.func kf) fs.toArray cs.toArray), (5, I i), (6, I j)]) (fun _ _ => []) (fun i j => 0 ≤ i ∧ i ≤ m ∧ m ≤ j ∧ j ≤ nn) (fun i j => (j - i).toNat) 0 nn ⟨by omega, h0, hm, by omega⟩ ⟨rfl, rfl, rfl, trivial⟩ (List.Sublist.refl _) ?_
  rintro i j ⟨hi0, him, hmj, hjn⟩
  refine c_seq <| c_seq <| c_reg <| s_y y_mv <| s_y y_mv <| s_y y_lss <| s_nil <| q_then <| ?_
  refine c_ifd (fun h11 => ?_) (fun h11 => ?_)
  · refine c_skip <| q_then <| c_block <| c_seq <| c_reg <| s_y y_mv <| s_y y_mv <| s_y y_add <| s_y y_cvn <| s_y (y_shrc 1) <| s_y y_cvn <| s_y y_as <| s_nil <| q_then <| c_seq <| c_reg <| s_y y_mv <| s_y y_mv <| s_pure (fun w' hw => hp w' ((i + j) / 2 ^ 1) hw (by omega) (by omega)) <| s_y y_not <| s_nil <| q_then <| ?_
    have hh : ∀ x, x = (i + j) / 2 ^ 1 → (p x = false → x < m) ∧ (p x = true → m ≤ x) ∧ i ≤ x ∧ x < j := by
      intro x hx
      have e : x = (i + j) / 2 := by simpa using hx
      refine ⟨fun h => ?_, fun h => ?_, by omega, by omega⟩
      · rcases Int.lt_or_le x m with h1 | h1
        · exact h1
        · rw [hhi x h1 (by omega)] at h; cases h
      · rcases Int.lt_or_le x m with h1 | h1
        · rw [hlo x (by omega) h1] at h; cases h
        · exact h1
    obtain ⟨e1, e2, e3, e4⟩ := hh _ rfl
    refine c_if rfl (fun h21 => ?_) (fun h21 => ?_)
    · have h22 := e1 (by simpa using h21)
      refine c_reg <| s_y y_mv <| s_y y_add <| s_y y_as <| s_nil <| q_nb <| q_round2 ((i + j) / 2 ^ 1 + 1) j ⟨by omega, by omega, hmj, hjn⟩ (by omega) ⟨rfl, rfl, rfl, trivial⟩ (List.Sublist.refl _)
    · have h22 := e2 (by simpa using h21)
      refine c_reg <| s_y y_mv <| s_y y_as <| s_nil <| q_nb <| q_round2 i ((i + j) / 2 ^ 1) ⟨hi0, him, h22, by omega⟩ (by omega) ⟨rfl, rfl, rfl, trivial⟩ (List.Sublist.refl _)
  · have e : i = m := by omega
    subst e
    refine c_exit <| q_ex <| q_ex <| q_exb <| q_then <| c_seq <| c_reg <| s_y y_mv <| s_y y_as <| s_nil <| q_then <| ?_
    refine c_ret <| ?_
    exact ret1 Tryz.results78 rv_t fun w' hw => ⟨rfl, hw⟩
end Go.Proofs.YtejdjnkilikehaaGreatDoor
end
section
namespace Go.Proofs.YtejdjnkilikehaaGreatDoor
open Go Eng
def lens : List Int := [64, 256, 1024, 4096, 16384, 65536]
def pcl (n : Int) : Int := if n + 4 ≤ 64 then 0 else if n + 4 ≤ 256 then 1 else if n + 4 ≤ 1024 then 2 else if n + 4 ≤ 4096 then 3 else if n + 4 ≤ 16384 then 4 else 5
def plen (i : Int) : Int := if i = 0 then 64 else if i = 1 then 256 else if i = 2 then 1024 else if i = 3 then 4096 else if i = 4 then 16384 else 65536
theorem lens_cell {i : Int} (h0 : 0 ≤ i) (h1 : i < 6) : (is lens)[i.toNat]? = some (I (plen i)) := by
  have : i = 0 ∨ i = 1 ∨ i = 2 ∨ i = 3 ∨ i = 4 ∨ i = 5 := by omega
  rcases this with rfl | rfl | rfl | rfl | rfl | rfl <;> rfl
theorem plen_le (i : Int) : 64 ≤ plen i ∧ plen i ≤ 65536 := by unfold plen; repeat' split
                                                               all_goals omega
theorem pcl_bd (n : Int) : 0 ≤ pcl n ∧ pcl n < 6 := by unfold pcl; repeat' split
                                                       all_goals omega
def clV (n : Int) : Int := if n < 0 ∨ 65532 < n then 0 else pcl n
def clE (n : Int) : Int := if n < 0 ∨ 65532 < n then 280 else 0
def lnV (i : Int) : Int := if i < 0 ∨ 6 ≤ i then 0 else plen i
def lnE (i : Int) : Int := if i < 0 ∨ 6 ≤ i then 280 else 0
def LD (w : World) : Prop := Rd w (some ⟨0, 0, none⟩) (is lens)
theorem LD.st {W w : World} {l : SH} (h : LD W) (hs : St W [] w l) : LD w := Rd.st h hs
theorem padding_Class_1_ok (w : World) (n i : Int) (b : Nat) (hg : LD w) (hb : Rd w (some ⟨b, 0, none⟩) [I n]) (h0 : 0 ≤ i) (h1 : i < 6) (hn : 0 ≤ n) (hn2 : n ≤ 65532) :
    Pure Tryz.prog 79 [I i, .pointer (some ⟨b, 0, none⟩)] w (.bool (decide (n + 4 ≤ plen i))) := by
  refine enter Tryz.func79 Tryz.ntmps79 ?_
  refine c_seq <| c_reg <| s_y y_as <| s_nil <| q_then <| c_seq <| c_regd <| d_y y_mv <| d_y y_ixa1 <| d_y (y_ldr (a := some ⟨0, 0, none⟩) (lens_cell h0 h1) (hr := rdW0 hg)) <| d_y (y_ldr (a := some ⟨b, 0, none⟩) (i := 0) (xs := [I n]) rfl (hr := rdW0 hb)) <| d_y y_add <| d_y y_geq <| d_y y_as <| d_nil <| q_then <| ?_
  refine c_ret <| ?_
  exact ret1 Tryz.results79 rv_t fun w' hw => ⟨rfl, hw⟩
theorem padding_Class_ok (w : World) (n : Int) (hg : LD w) :
    Pure Tryz.prog 32 [I n] w (.tuple #[I (clV n), I (clE n)]) := by
  refine enter Tryz.func32 Tryz.ntmps32 ?_
  refine c_seq <| c_reg <| s_box rfl fun b1 => s_y y_as <| s_y y_as <| s_nil <| q_then <| c_seq <| c_seq <| c_reg <| s_y y_ld <| s_ifd y_lss (fun h1 => s_y y_mv <| s_no <| s_no <| s_no <| s_no <| s_no <| s_y y_pk <| s_nil <| q_then <| ?_) (fun h1 => s_y y_mv <| s_y y_ld <| s_y y_ixa1 <| s_y (y_ldr (a := some ⟨0, 0, none⟩) (xs := is lens) (v := I 65536) rfl (hr := rdW0 hg)) <| s_y y_sub <| s_y y_gtr <| s_y y_pk <| s_nil <| q_then <| ?_)
  · refine c_t <| c_seq <| c_reg <| s_y y_as <| s_y y_as <| s_nil <| q_then <| ?_
    refine c_ret <| q_ret <| ?_
    exact ret2 Tryz.results32 rv_t rv_t fun w' hw => ⟨by first | (simp [clV, clE, h1]; done) | (simp [lnV, lnE, h1]; done), hw.sub (by simp)⟩
  refine c_ifd (fun h12 => ?_) (fun h12 => ?_)
  · refine c_seq <| c_reg <| s_y y_as <| s_y y_as <| s_nil <| q_then <| ?_
    refine c_ret <| q_ret <| ?_
    exact ret2 Tryz.results32 rv_t rv_t fun w' hw => ⟨by have : n < 0 ∨ 65532 < n := .inr h12; simp [clV, clE, this], hw.sub (by simp)⟩
  · refine c_skip <| q_then <| c_seq <| c_reg <| s_y y_func <| ?_
    refine s_pure (fun w' hw => sort_Search_ok w' 6 (pcl n) 79 [] [.pointer (some ⟨b1, 0, none⟩)] (fun i => decide (n + 4 ≤ plen i)) (fun w2 i h2 hi0 hi1 => padding_Class_1_ok w2 n i b1 ((hg.st hw).st h2) (Rd.st (rdB (cs := #[I n]) (.head _) (fun i v h => by simpa using h) w' hw) h2) hi0 hi1 (by omega) (by omega)) (pcl_bd n).1 (by have := pcl_bd n; omega) (by omega) ?_ ?_) <| s_y y_as <| s_y y_as <| s_nil <| q_then <| ?_
    · intro i hi0 hi1
      have hlt : i < 6 := by have := pcl_bd n; omega
      have hno : ¬ n + 4 ≤ plen i := by
        have : i = 0 ∨ i = 1 ∨ i = 2 ∨ i = 3 ∨ i = 4 ∨ i = 5 := by omega
        unfold pcl at hi1
        rcases this with rfl | rfl | rfl | rfl | rfl | rfl <;> simp [plen] <;> (repeat' split at hi1) <;> omega
      simpa using hno
    · intro i hi0 hi1
      have h0 : 0 ≤ i := by have := pcl_bd n; omega
      have hyes : n + 4 ≤ plen i := by
        have : i = 0 ∨ i = 1 ∨ i = 2 ∨ i = 3 ∨ i = 4 ∨ i = 5 := by omega
        unfold pcl at hi0
        rcases this with rfl | rfl | rfl | rfl | rfl | rfl <;> simp [plen] <;> (repeat' split at hi0) <;> omega
      simpa using hyes
    refine c_ret <| ?_
    have h9 : ¬ (n < 0 ∨ 65532 < n) := by omega
    exact ret2 Tryz.results32 rv_t rv_t fun w' hw => ⟨by simp [clV, clE, h9], hw.sub (by simp)⟩
theorem padding_Length_ok (w : World) (i : Int) (hg : LD w) :
    Pure Tryz.prog 33 [I i] w (.tuple #[I (lnV i), I (lnE i)]) := by
  refine enter Tryz.func33 Tryz.ntmps33 ?_
  refine c_seq <| c_reg <| s_y y_as <| s_y y_as <| s_nil <| q_then <| c_seq <| c_seq <| c_reg <| s_y y_mv <| s_ifd y_lss (fun h1 => s_y y_mv <| s_no <| s_no <| s_y y_pk <| s_nil <| q_then <| c_t <| ?_) (fun h1 => s_y y_mv <| s_y y_mv <| s_y y_geq <| s_y y_pk <| s_nil <| q_then <| c_ifd (fun h9 => ?_) (fun h9 => ?_))
  · refine c_seq <| c_reg <| s_y y_as <| s_y y_as <| s_nil <| q_then <| ?_
    refine c_ret <| q_ret <| ?_
    exact ret2 Tryz.results33 rv_t rv_t fun w' hw => ⟨by first | (simp [clV, clE, h1]; done) | (simp [lnV, lnE, h1]; done), hw⟩
  · refine c_seq <| c_reg <| s_y y_as <| s_y y_as <| s_nil <| q_then <| ?_
    refine c_ret <| q_ret <| ?_
    exact ret2 Tryz.results33 rv_t rv_t fun w' hw => ⟨by have : i < 0 ∨ 6 ≤ i := .inr h9; simp [lnV, lnE, this], hw⟩
  · refine c_skip <| q_then <| c_seq <| c_reg <| s_y y_mv <| s_y y_ixa1 <| s_y (y_ldr (a := some ⟨0, 0, none⟩) (lens_cell (i := i) (by omega) (by omega)) (hr := rdW0 hg)) <| s_y y_as <| s_y y_as <| s_nil <| q_then <| ?_
    refine c_ret <| ?_
    have h8 : ¬ (i < 0 ∨ 6 ≤ i) := by omega
    exact ret2 Tryz.results33 rv_t rv_t fun w' hw => ⟨by simp [lnV, lnE, h8], hw⟩
def be4 (n : Nat) : List UInt8 := [UInt8.ofNat (n / 2 ^ 24), UInt8.ofNat (n / 2 ^ 16), UInt8.ofNat (n / 2 ^ 8), UInt8.ofNat n]
def pad (q : List UInt8) : List UInt8 := if 65532 < q.length then [] else be4 q.length ++ q ++ List.replicate ((plen (pcl q.length)).toNat - 4 - q.length) 0
def padE (q : List UInt8) : Int := if 65532 < q.length then 280 else 0
theorem plen_pcl {n : Int} (h0 : 0 ≤ n) (h : n ≤ 65532) : n + 4 ≤ plen (pcl n) := by
  unfold pcl
  repeat' split
  all_goals simp [plen]
  all_goals omega
theorem pad_length {q : List UInt8} (h : q.length ≤ 65532) : ((pad q).length : Int) = plen (pcl q.length) := by
  have h1 := plen_pcl (n := q.length) (by omega) (by omega)
  rw [pad, if_neg (by omega)]
  simp [be4]
  omega
theorem be4_get (n k : Nat) (hk : k < 4) : (be4 n).getD k 0 = UInt8.ofNat ((((n : Int) / 2 ^ (8 * (3 - (k : Int))).toNat) % 256).toNat) := by
  have : k = 0 ∨ k = 1 ∨ k = 2 ∨ k = 3 := by omega
  have key : ∀ m : Nat, UInt8.ofNat (((m : Int) % 256).toNat) = UInt8.ofNat m := by
    intro m
    apply UInt8.toNat_inj.1
    simp
    omega
  have key2 : ∀ m : Nat, UInt8.ofNat (n / 2 ^ m) = UInt8.ofNat (((n : Int) / 2 ^ m) % 256).toNat := by
    intro m
    rw [← key (n / 2 ^ m)]
    simp
  rcases this with rfl | rfl | rfl | rfl
  · exact key2 24
  · exact key2 16
  · exact key2 8
  · have := key2 0
    rw [Nat.pow_zero, Nat.div_one] at this
    exact this
theorem padding_Pad_ok (w : World) (a : Option Addr) (c : Nat) (q : List UInt8) (hg : LD w) (hr : Rd w a (bs q)) (hq : q.length < 9223372036854775807) :
    Gives Tryz.prog 103 [.slice a q.length c] w [] (fun x : Option Addr × Nat => .tuple #[.slice x.1 (pad q).length x.2, I (padE q)])
      (fun x => [.row x.1 x.2 5 1 (pad q).length (bs (pad q))]) (fun _ => True) := by
  refine enter Tryz.func103 Tryz.ntmps103 ?_
  refine c_seq <| c_reg <| s_y y_as <| s_y y_as <| s_nil <| q_then <| c_seq <| c_reg <| s_y y_mv <| s_y y_len <| s_pure (fun w' hw => padding_Class_ok w' q.length (hg.st hw)) <| s_y y_mv <| s_y y_ext <| s_y y_ext <| s_y y_as <| s_y y_as <| s_nil <| q_then <| c_seq <| c_seq <| c_reg <| s_y y_mv <| s_y y_neq <| s_nil <| q_then <| c_ifn (fun h13 => ?_) (fun h13 => ?_)
  · have hbig : 65532 < q.length := by
      by_cases hc : (q.length : Int) < 0 ∨ 65532 < (q.length : Int)
      · omega
      · exact absurd (by simp [clE, hc]) h13
    have e1 : clE q.length = padE q := by
      have : (q.length : Int) < 0 ∨ 65532 < (q.length : Int) := by omega
      simp [clE, padE, hbig, this]
    have e2 : pad q = [] := by simp [pad, hbig]
    refine c_seq <| c_reg <| s_y y_mv <| s_y y_as <| s_y y_as <| s_nil <| q_then <| c_ret <| q_ret <| ?_
    refine ret2 Tryz.results103 rv_t rv_t fun w' hw => ⟨(none, 0), trivial, ?_, ?_⟩
    · rw [e1, e2]; rfl
    · rw [e2]; exact hw.nilRow _ _
  · have hsm : q.length ≤ 65532 := by
      by_cases hc : (q.length : Int) < 0 ∨ 65532 < (q.length : Int)
      · exact absurd h13 (by simp [clE, hc])
      · omega
    have e1 : clV q.length = pcl q.length := by
      have : ¬ ((q.length : Int) < 0 ∨ 65532 < (q.length : Int)) := by omega
      simp [clV, this]
    have hpb := pcl_bd q.length
    have hpl := plen_le (pcl q.length)
    have hpp := plen_pcl (n := q.length) (by omega) (by omega)
    rw [e1]
    refine c_skip <| q_then <| c_seq <| c_reg <| s_y y_mv <| s_y y_ixa1 <| s_y (y_ldr (a := some ⟨0, 0, none⟩) (lens_cell hpb.1 hpb.2) (hr := rdW0 hg)) <| s_mkb fun b18 => s_y y_as <| s_nil <| q_then <| c_seq <| c_seq <| c_reg <| s_y y_mv <| s_nil <| q_then <| c_block <| ?_
    generalize hL : plen (pcl q.length) = L at *
    refine c_loop (fun k : Nat => [(0, .slice a q.length c), (2, .slice (some ⟨b18, 0, none⟩) L.toNat L.toNat), (19, I k)]) (fun k => [.blk b18 (.cells (bs ((be4 q.length).take k ++ List.replicate (L.toNat - k) 0)).toArray 5 (0, 0))]) (fun k => k ≤ 4) (fun k => 4 - k) 0 (by omega) ⟨rfl, rfl, rfl, trivial⟩ (List.Sublist.refl _) ?_
    intro k hk
    refine c_seq <| c_reg <| s_y y_lss <| s_nil <| q_then <| c_seq <| c_ifd (fun h20 => ?_) (fun h20 => ?_)
    · refine c_skip <| q_then <| c_seq <| c_block <| c_seq <| c_reg <| s_y y_mv <| s_y y_as <| s_nil <| q_then <| c_reg <| s_y y_mv <| s_y y_mv <| s_y y_mv <| s_y y_len <| s_y y_mv <| s_y y_sub <| s_y y_mul <| s_y y_sar <| s_y y_cv8 <| s_y y_ixb1 <| s_stb (?_) (hl := ?_) 
      · rw [Int.toNat_natCast, Nat.zero_add, set_fill (be4 q.length) k L.toNat 0 _ 0 (by simp [be4]; omega) (by omega) (be4_get _ _ (by omega))]
        refine s_nil <| q_nb <| q_then <| c_reg <| s_y y_add <| s_y y_mv <| s_nil <| q_round (k + 1) (by omega) (by omega) ⟨rfl, rfl, rfl, trivial⟩ (List.Sublist.refl _)
      · simp [be4]; omega
    · have hk4 : k = 4 := by omega
      subst hk4
      refine c_exit <| q_ex <| q_ex <| q_exb <| q_then <| c_seq <| c_reg <| s_y y_mv <| s_y y_sll <| s_y y_mv <| ?_
      rw [sa_lt (by omega)]
      refine s_cpb (ys := q) (hfit := ?fit) ?_
      case fit =>
        have := Nat.min_le_left q.length (L.toNat - (4 : Int).toNat)
        have e9 : (be4 q.length).length = 4 := rfl
        have e8 : (4 : Int).toNat = 4 := rfl
        rw [List.length_append, List.length_replicate, List.length_take, e9, e8]
        rw [e8] at this
        change 0 + 4 * 1 + min q.length (L.toNat - 4) ≤ _
        omega
      refine s_nil <| q_then <| c_seq <| c_reg <| s_y y_mv <| s_y y_as <| s_y y_as <| s_nil <| q_then <| c_ret <| ?_
      have e3 : Nat.min q.length (L.toNat - (4 : Int).toNat) = q.length := by
        exact Nat.min_eq_left (by show q.length ≤ L.toNat - 4; omega)
      have e4 : (be4 q.length).take 4 = be4 q.length := rfl
      have e5 : (be4 q.length ++ List.replicate (L.toNat - 4) 0).take (0 + (4 : Int).toNat * 1) ++ q.take q.length ++ (be4 q.length ++ List.replicate (L.toNat - 4) 0).drop (0 + (4 : Int).toNat * 1 + q.length) = pad q := by
        rw [pad, if_neg (by omega), hL]
        have e8 : (be4 q.length).length = 4 := rfl
        rw [show 0 + (4 : Int).toNat * 1 = 4 from rfl, List.take_left' e8, List.take_length, List.drop_append, e8, List.drop_eq_nil_of_le (by rw [e8]; omega), List.nil_append, List.drop_replicate, show L.toNat - 4 - (4 + q.length - 4) = L.toNat - 4 - q.length by omega]
      have e6 : (pad q).length = L.toNat := by have := pad_length hsm; omega
      have e7 : padE q = 0 := by rw [padE, if_neg (by omega)]
      rw [e3, e4, e5]
      refine ret2 Tryz.results103 rv_t rv_t fun w' hw => ⟨(some ⟨b18, 0, none⟩, L.toNat), trivial, ?_, ?_⟩
      · rw [e6, e7]
      · rw [e6]; exact hw.toRowB e6 (by unfold maxLen; omega)
def bek (p : List UInt8) (k : Nat) : Nat := (p.take k).foldl (fun n x => n * 256 + x.toNat) 0
theorem bek_succ (p : List UInt8) (k : Nat) (h : k < p.length) : bek p (k + 1) = bek p k * 256 + (p.getD k 0).toNat := by
  unfold bek
  rw [take_snoc p k 0 h, List.foldl_append]
  rfl
theorem bek_lt (p : List UInt8) : ∀ k, k ≤ p.length → bek p k < 256 ^ k
  | 0, _ => by simp [bek]
  | k + 1, h => by
    rw [bek_succ p k (by omega)]
    have h1 := bek_lt p k (by omega)
    have h2 := (p.getD k 0).toNat_lt
    rw [Nat.pow_succ]
    omega
def unpOK (p : List UInt8) : Bool := lens.any (fun x => decide ((p.length : Int) = x)) && decide (bek p 4 ≤ 65532) && decide (plen (pcl (bek p 4)) = p.length) && !(p.drop (4 + bek p 4)).any (fun x => x != 0)
def unpad (p : List UInt8) : List UInt8 := bif unpOK p then (p.drop 4).take (bek p 4) else []
def unpE (p : List UInt8) : Int := bif unpOK p then 0 else 280
def unpA (p : List UInt8) (a : Option Addr) : Option Addr := bif unpOK p then sa a 4 (4 + bek p 4) 1 else none
theorem lens_any {n : Int} (h : lens.any (fun x => decide (n = x)) = true) : n = 64 ∨ n = 256 ∨ n = 1024 ∨ n = 4096 ∨ n = 16384 ∨ n = 65536 := by
  simpa [lens] using h
theorem padding_Unpad_1_ok (w : World) (x : UInt8) : Pure Tryz.prog 92 [B x] w (.bool (x != 0)) := by
  refine enter Tryz.func92 Tryz.ntmps92 ?_
  refine c_seq <| c_reg <| s_y y_as <| s_nil <| q_then <| c_seq <| c_reg <| s_y y_mv <| s_y y_neq <| s_y y_as <| s_nil <| q_then <| ?_
  refine c_ret <| ?_
  have e : (!decide ((x.toNat : Int) = 0)) = (x != 0) := by
    by_cases h : x = 0
    · subst h; rfl
    · have : ¬ ((x.toNat : Int) = 0) := by
        intro hc
        apply h
        apply UInt8.toNat_inj.1
        simpa using hc
      rw [decide_eq_false this]
      simp [h]
  exact ret1 Tryz.results92 rv_t fun w' hw => ⟨by rw [← e], hw⟩
theorem padding_Unpad_ok (w : World) (a : Option Addr) (c : Nat) (p : List UInt8) (hg : LD w) (hr : Rd w a (bs p)) (hq : p.length < 9223372036854775807) (hc : p.length ≤ c) :
    Pure Tryz.prog 38 [.slice a p.length c] w (.tuple #[.slice (unpA p a) (unpad p).length (unpad p).length, I (unpE p)]) := by
  refine enter Tryz.func38 Tryz.ntmps38 ?_
  have hl6 : lens.length = 6 := rfl
  refine c_seq <| c_reg <| s_y y_as <| s_y y_as <| s_nil <| q_then <| c_seq <| c_seq <| c_reg <| s_y y_sla <| s_y y_mv <| s_y y_len <| s_pure (fun w' hw => slices_Contains_int_int_ok w' (some ⟨0, 0, none⟩) lens 6 p.length (hg.st hw) (by simp [lens])) <| s_y y_not <| s_nil <| q_then <| c_if rfl (fun h12 => ?_) (fun h12 => ?_)
  · refine c_seq <| c_reg <| s_y y_as <| s_y y_as <| s_nil <| q_then <| c_ret <| q_ret <| ?_
    have hb : unpOK p = false := by simp only [Bool.not_eq_true'] at h12; simp [unpOK, h12]
    exact ret2 Tryz.results38 rv_t rv_t fun w' hw => ⟨by simp [unpA, unpad, unpE, hb], hw⟩
  · have hany : lens.any (fun x => decide ((p.length : Int) = x)) = true := by simpa using h12
    have hlen := lens_any hany
    have hb4 := bek_lt p 4 (by omega)
    refine c_skip <| q_then <| c_seq <| c_reg <| s_y y_as <| s_nil <| q_then <| c_seq <| c_seq <| c_reg <| s_y y_mv <| s_y y_slh <| s_y y_len <| s_y y_mv <| s_nil <| q_then <| c_block <| ?_
    refine c_loop (fun k : Nat => [(0, .slice a p.length c), (2, .slice none 0 0), (4, I (bek p k)), (14, .slice a 4 c), (15, I 4), (16, I k)]) (fun _ => []) (fun k => k ≤ 4) (fun k => 4 - k) 0 (by omega) ⟨rfl, rfl, rfl, rfl, rfl, rfl, trivial⟩ (List.Sublist.refl _) ?_
    intro k hk
    refine c_seq <| c_reg <| s_y y_lss <| s_nil <| q_then <| c_seq <| c_ifd (fun h17 => ?_) (fun h17 => ?_)
    · have hbk := bek_lt p k (by omega)
      have hbk2 : 256 ^ k ≤ 256 ^ 4 := Nat.pow_le_pow_right (by decide) hk
      have hbk3 : bek p k < 4294967296 := Nat.lt_of_lt_of_le hbk hbk2
      refine c_skip <| q_then <| c_seq <| c_block <| c_seq <| c_reg <| s_y (y_ixs1 (xs := bs p) (hl := by rw [bs_length]; omega)) <| s_y (y_ldb (q := p)) <| s_y y_as <| s_nil <| q_then <| c_reg <| s_y y_mv <| s_y (y_shln 8) <| s_y y_mv <| s_y y_cvb <| s_y y_or8 <| s_y y_as <| s_nil <| q_nb <| q_then <| c_reg <| s_y y_add <| s_y y_mv <| s_nil <| ?_
      rw [Int.toNat_natCast, ← bek_succ p k (by omega)]
      exact q_round (k + 1) (by omega) (by omega) ⟨rfl, rfl, rfl, rfl, rfl, rfl, trivial⟩ (List.Sublist.refl _)
    · have hk4 : k = 4 := by omega
      subst hk4
      refine c_exit <| q_ex <| q_ex <| q_exb <| q_then <| c_seq <| c_reg <| s_y y_mv <| s_pure (fun w' hw => padding_Class_ok w' (bek p 4) (hg.st hw)) <| s_y y_mv <| s_y y_ext <| s_y y_ext <| s_y y_as <| s_y y_as <| s_nil <| q_then <| c_seq <| c_seq <| c_reg <| s_y y_mv <| s_ifn y_neq (fun h32 => ?_) (fun h32 => ?_)
      · have hb : unpOK p = false := by
          have : ¬ bek p 4 ≤ 65532 := by
            intro h9
            exact h32 (by simp [clE]; omega)
          simp [unpOK, this]
        refine s_y y_mv <| s_no <| s_no <| s_no <| s_no <| s_no <| s_no <| s_y y_pk <| s_y y_mv <| s_no <| s_no <| s_no <| s_no <| s_no <| s_y y_pk <| s_nil <| q_then <| c_t <| c_seq <| c_reg <| s_y y_as <| s_y y_as <| s_nil <| q_then <| c_ret <| q_ret <| ?_
        exact ret2 Tryz.results38 rv_t rv_t fun w' hw => ⟨by simp [unpA, unpad, unpE, hb], hw⟩
      · have hsm : bek p 4 ≤ 65532 := by
          by_cases h9 : bek p 4 ≤ 65532
          · exact h9
          · have : (bek p 4 : Int) < 0 ∨ 65532 < (bek p 4 : Int) := by omega
            simp [clE, this] at h32
        have e1 : clV (bek p 4) = pcl (bek p 4) := by
          have : ¬ ((bek p 4 : Int) < 0 ∨ 65532 < (bek p 4 : Int)) := by omega
          simp [clV, this]
        have hpb := pcl_bd (bek p 4)
        have hpl := plen_le (pcl (bek p 4))
        have hpp := plen_pcl (n := bek p 4) (by omega) (by omega)
        rw [e1]
        refine s_y y_mv <| s_y y_mv <| s_y y_ixa1 <| s_y (y_ldr (a := some ⟨0, 0, none⟩) (lens_cell hpb.1 hpb.2) (hr := rdW0 hg)) <| s_y y_mv <| s_y y_len <| s_ifn y_neq (fun h39 => ?_) (fun h39 => ?_)
        · have hb : unpOK p = false := by simp [unpOK, h39]
          refine s_y y_pk <| s_y y_mv <| s_no <| s_no <| s_no <| s_no <| s_no <| s_y y_pk <| s_nil <| q_then <| c_t <| c_seq <| c_reg <| s_y y_as <| s_y y_as <| s_nil <| q_then <| c_ret <| q_ret <| ?_
          exact ret2 Tryz.results38 rv_t rv_t fun w' hw => ⟨by simp [unpA, unpad, unpE, hb], hw⟩
        · have e5 : p.length - (4 + (bek p 4 : Int)).toNat = (p.drop (4 + bek p 4)).length := by rw [List.length_drop]; omega
          refine s_y y_pk <| s_y y_mv <| s_y y_mv <| s_y y_mv <| s_y y_add <| s_y y_sll <| ?_
          rw [e5]
          have hr2 : Rd w (sa a (4 + (bek p 4 : Int)).toNat c 1) (bs (p.drop (4 + bek p 4))) := by
            have h := (rdW0 (W := w) (l := []) hr).sa (i := (4 + (bek p 4 : Int)).toNat) (c := c) (s := 1) (by rw [bs_length]; omega) w (St.refl w)
            rw [Nat.mul_one, ← bs_drop, show (4 + (bek p 4 : Int)).toNat = 4 + bek p 4 by omega] at h
            rw [show (4 + (bek p 4 : Int)).toNat = 4 + bek p 4 by omega]
            exact h
          refine s_pure (fun w' hw => slices_ContainsFunc_byte_byte_ok w' (sa a (4 + (bek p 4 : Int)).toNat c 1) (p.drop (4 + bek p 4)) (c - (4 + (bek p 4 : Int)).toNat) 92 [] [] (fun x => x != 0) (fun w2 x h2 => padding_Unpad_1_ok w2 x) (hr2.st hw) (by rw [List.length_drop]; omega)) <| s_y y_pk <| s_nil <| q_then <| c_if rfl (fun h47 => ?_) (fun h47 => ?_)
          · have hb : unpOK p = false := by rw [unpOK, h47]; simp
            refine c_seq <| c_reg <| s_y y_as <| s_y y_as <| s_nil <| q_then <| c_ret <| q_ret <| ?_
            exact ret2 Tryz.results38 rv_t rv_t fun w' hw => ⟨by simp [unpA, unpad, unpE, hb], hw⟩
          · have hb : unpOK p = true := by rw [unpOK, h47, hany]; simp [hsm, h39]
            refine c_skip <| q_then <| c_seq <| c_reg <| s_y y_mv <| s_y y_mv <| s_y y_add <| s_y y_mv <| s_y y_add <| s_y y_sllhm <| s_y y_as <| s_y y_as <| s_nil <| q_then <| c_ret <| ?_
            refine ret2 Tryz.results38 rv_t rv_t fun w' hw => ⟨?_, hw⟩
            have e7 : (4 + (bek p 4 : Int)).toNat = 4 + bek p 4 := by omega
            have e8 : (unpad p).length = bek p 4 := by
              rw [unpad, hb]; simp; omega
            rw [e7, e8, show 4 + bek p 4 - (4 : Int).toNat = bek p 4 by have : (4 : Int).toNat = 4 := rfl
                                                                        omega]
            rw [unpA, unpE, hb]
            rfl
theorem unpad_rd {w : World} {a : Option Addr} {p : List UInt8} (h : Rd w a (bs p)) : Rd w (unpA p a) (bs (unpad p)) := by
  unfold unpA unpad
  cases hb : unpOK p with
  | false => exact Rd.nil _ _
  | true =>
    simp only [cond_true]
    by_cases h0 : bek p 4 = 0
    · rw [h0]; exact Rd.nil _ _
    · rw [sa, if_neg (by omega), bs_take, bs_drop]
      exact (h.drop 4).take _
end Go.Proofs.YtejdjnkilikehaaGreatDoor
end
section
namespace Go.Proofs.YtejdjnkilikehaaGreatDoor
open Go Eng
theorem bek4 (x0 x1 x2 x3 : UInt8) (r : List UInt8) : bek (x0 :: x1 :: x2 :: x3 :: r) 4 = ((x0.toNat * 256 + x1.toNat) * 256 + x2.toNat) * 256 + x3.toNat := by
  simp [bek]
theorem bek_be4 (n : Nat) (hn : n < 4294967296) (r : List UInt8) : bek (be4 n ++ r) 4 = n := by
  simp only [be4, List.cons_append, bek4, UInt8.toNat_ofNat']
  omega
theorem zeros_any (n : Nat) : (List.replicate n (0 : UInt8)).any (fun x => x != 0) = false := by
  rw [List.any_eq_false]
  intro x hx
  rw [List.eq_of_mem_replicate hx]
  simp
theorem plen_any (n : Int) : lens.any (fun x => decide (plen (pcl n) = x)) = true := by
  have := pcl_bd n
  have h : pcl n = 0 ∨ pcl n = 1 ∨ pcl n = 2 ∨ pcl n = 3 ∨ pcl n = 4 ∨ pcl n = 5 := by omega
  rcases h with h | h | h | h | h | h <;> rw [h] <;> decide
theorem pad_app {q : List UInt8} (h : q.length ≤ 65532) : pad q = be4 q.length ++ q ++ List.replicate ((plen (pcl q.length)).toNat - 4 - q.length) 0 := by
  rw [pad, if_neg (by omega)]
theorem unpOK_pad {q : List UInt8} (h : q.length ≤ 65532) : unpOK (pad q) = true ∧ bek (pad q) 4 = q.length ∧ unpad (pad q) = q := by
  have hl := pad_length h
  have hb : bek (pad q) 4 = q.length := by rw [pad_app h, List.append_assoc]; exact bek_be4 _ (by omega) _
  have hpp := plen_pcl (n := q.length) (by omega) (by omega)
  have hd : (pad q).drop 4 = q ++ List.replicate ((plen (pcl q.length)).toNat - 4 - q.length) 0 := by
    rw [pad_app h, List.append_assoc]; exact List.drop_left' rfl
  have ok : unpOK (pad q) = true := by
    rw [unpOK, hb, hl, plen_any]
    have hz : (pad q).drop (4 + q.length) = List.replicate ((plen (pcl q.length)).toNat - 4 - q.length) 0 := by
      rw [← List.drop_drop, hd]; exact List.drop_left' rfl
    rw [hz, zeros_any]
    simp [h]
  refine ⟨ok, hb, ?_⟩
  rw [unpad, ok, hb, hd]
  exact List.take_left' rfl
end Go.Proofs.YtejdjnkilikehaaGreatDoor
end
section
namespace Go.Proofs.YtejdjnkilikehaaGreatDoor
open Go Eng Gf
theorem gpow_ok (w : World) (b e : Nat) (hb : b < 4611686018427377339) (he : e < 18446744073709551616) : Pure Tryz.prog 152 [U b, U e] w (U (pp b e)) := by
  rw [pp_def]; exact group_power_ok w b e hb he
theorem gpowQ_ok (w : World) (b : Nat) (hb : b < 4611686018427377339) : Pure Tryz.prog 152 [U b, U 2305843009213688669] w (U (pp b Num.Q)) := gpow_ok w b Num.Q hb (show 2305843009213688669 < 18446744073709551616 by decide)
theorem pow_odd {a c k m : Nat} (h : k % 2 = 1) : (c * a % m) * (a * a % m) ^ (k / 2) % m = c * a ^ k % m := by
  have e : c * a ^ k = (c * a) * (a * a) ^ (k / 2) := by
    rw [Nat.mul_pow, ← Nat.pow_add, Nat.mul_assoc, ← Nat.pow_add_one']; congr 2; omega
  rw [e, Nat.mul_mod, Nat.mod_mod, ← Nat.pow_mod, ← Nat.mul_mod]
theorem pow_even {a c k m : Nat} (h : k % 2 = 0) : c * (a * a % m) ^ (k / 2) % m = c * a ^ k % m := by
  have e : c * a ^ k = c * (a * a) ^ (k / 2) := by
    rw [Nat.mul_pow, ← Nat.pow_add]; congr 2; omega
  rw [e, Nat.mul_mod, ← Nat.pow_mod, ← Nat.mul_mod]
theorem rpow_ok (w : World) (b e : Nat) (hb : b < 4611686018427377339) (he : e < 4611686018427387904) : Pure Tryz.prog 177 [I b, I e] w (I (pp b e : Nat)) := by
  rw [pp_def]
  refine enter Tryz.func177 Tryz.ntmps177 ?_
  refine c_seq <| c_reg <| s_y y_as <| s_nil <| q_then <| c_seq <| c_reg <| s_y y_as <| s_nil <| q_then <| c_seq <| c_block <| ?_
  refine c_loop3 (fun (a k c : Nat) => [(0, I a), (1, I k), (5, I c)]) (fun _ _ _ => []) (fun a k c => c * a ^ k % 4611686018427377339 = b ^ e % 4611686018427377339 ∧ a < 4611686018427377339 ∧ c < 4611686018427377339 ∧ k < 4611686018427387904) (fun _ k _ => k) b e 1 ⟨by rw [Nat.one_mul], hb, by decide, he⟩ ⟨rfl, rfl, rfl, trivial⟩ (List.Sublist.refl _) ?_
  intro a k c ⟨h1, h2, h3, h4⟩
  refine c_seq <| c_seq <| c_reg <| s_y y_mv <| s_y (y_gtr (p := k) (q := 0)) <| s_nil <| q_then <| c_ifd (fun h7 => ?_) (fun h7 => ?_)
  · have hlt : ∀ u v : Nat, u * v % 4611686018427377339 < 4611686018427377339 := fun _ _ => Nat.mod_lt _ (by decide)
    refine c_skip <| q_then <| c_block <| c_seq <| c_seq <| c_reg <| s_y y_mv <| s_y (y_rem (p := k) (q := 2)) <| s_y (y_eql (p := (k : Int) % 2) (q := 1)) <| s_nil <| q_then <| c_ifd (fun h10 => ?_) (fun h10 => ?_)
    · have h5 := pow_odd (a := a) (k := k) (c := c) (m := 4611686018427377339) (by omega)
      refine c_reg <| s_y y_mv <| s_y y_mv <| s_pure (fun w' hw => ref04_Product_ok w' c a 4611686018427377339 h3 (by omega) (by decide)) <| s_y y_as <| s_nil <| q_then <| c_seq <| c_reg <| s_y y_mv <| s_y y_mv <| s_pure (fun w' hw => ref04_Product_ok w' a a 4611686018427377339 h2 (by omega) (by decide)) <| s_y y_as <| s_nil <| q_then <| c_reg <| s_y y_mv <| s_y (y_quo (p := k) (q := 2)) <| ?_
      rw [show (k : Int) / 2 = ((k / 2 : Nat) : Int) by omega]
      refine s_y y_as <| s_nil <| q_nb <| q_round3 (x := a) (y := k) (z := c) (a * a % 4611686018427377339) (k / 2) (c * a % 4611686018427377339) ⟨by rw [h5]; exact h1, hlt _ _, hlt _ _, by omega⟩ (by omega) ⟨rfl, rfl, rfl, trivial⟩ (List.Sublist.refl _)
    · have h5 := pow_even (a := a) (k := k) (c := c) (m := 4611686018427377339) (by omega)
      refine c_skip <| q_then <| c_seq <| c_reg <| s_y y_mv <| s_y y_mv <| s_pure (fun w' hw => ref04_Product_ok w' a a 4611686018427377339 h2 (by omega) (by decide)) <| s_y y_as <| s_nil <| q_then <| c_reg <| s_y y_mv <| s_y (y_quo (p := k) (q := 2)) <| ?_
      rw [show (k : Int) / 2 = ((k / 2 : Nat) : Int) by omega]
      refine s_y y_as <| s_nil <| q_nb <| q_round3 (x := a) (y := k) (z := c) (a * a % 4611686018427377339) (k / 2) c ⟨by rw [h5]; exact h1, hlt _ _, h3, by omega⟩ (by omega) ⟨rfl, rfl, rfl, trivial⟩ (List.Sublist.refl _)
  · have hk0 : k = 0 := by omega
    subst hk0
    rw [Nat.pow_zero, Nat.mul_one, Nat.mod_eq_of_lt h3] at h1
    refine c_exit <| q_ex <| q_ex <| q_exb <| q_then <| c_seq <| c_reg <| s_y y_mv <| s_y y_as <| s_nil <| q_then <| c_ret <| ?_
    exact ret1 Tryz.results177 rv_t fun w' hw => ⟨by rw [h1], hw⟩
theorem rpowQ_ok (w : World) (b : Nat) (hb : b < 4611686018427377339) : Pure Tryz.prog 177 [I b, I 2305843009213688669] w (I (pp b Num.Q : Nat)) := rpow_ok w b Num.Q hb (show 2305843009213688669 < 4611686018427387904 by decide)
theorem gCheck_yes (w : World) (x : Nat) (h : El x) : Pure Tryz.prog 80 [I x] w (I 0) := by
  have hx0 := h.pos
  have hx1 := h.lt
  refine enter Tryz.func80 Tryz.ntmps80 ?_
  refine c_seq <| c_reg <| s_y y_as <| s_nil <| q_then <| c_seq <| c_seq <| c_reg <| s_y y_mv <| s_kf (y_lss (p := (x : Int)) (q := 1)) (by have := h.pos; omega) <| s_y y_mv <| s_y y_mv <| s_kf (y_geq (p := (x : Int)) (q := 4611686018427377339)) (by have := h.lt; omega) <| s_y y_pk <| s_y y_mv <| s_y y_mv <| s_y (y_cvn (k := .u64) (p := (x : Int)) (hw := wrap_u64 (by omega) (by omega))) <| s_pure (fun w' hw => gpowQ_ok w' x (by omega)) <| s_nf (y_neq) (by rw [h.one]; rfl) <| s_y y_pk <| s_nil <| q_then <| c_f <| c_skip <| q_then <| c_seq <| c_reg <| s_y y_as <| s_nil <| q_then <| c_ret <| ?_
  exact ret1 Tryz.results80 rv_t fun w' hw => ⟨rfl, hw.sub (List.nil_sublist _)⟩
theorem gCheck_in (w : World) (x : Nat) (hx0 : 0 < x) (hx1 : x < 4611686018427377339) (h : ¬ pp x Num.Q = 1) : Pure Tryz.prog 80 [I x] w (I 40) := by
  refine enter Tryz.func80 Tryz.ntmps80 ?_
  refine c_seq <| c_reg <| s_y y_as <| s_nil <| q_then <| c_seq <| c_seq <| c_reg <| s_y y_mv <| s_kf (y_lss (p := (x : Int)) (q := 1)) (by omega) <| s_y y_mv <| s_y y_mv <| s_kf (y_geq (p := (x : Int)) (q := 4611686018427377339)) (by omega) <| s_y y_pk <| s_y y_mv <| s_y y_mv <| s_y (y_cvn (k := .u64) (p := (x : Int)) (hw := wrap_u64 (by omega) (by omega))) <| s_pure (fun w' hw => gpowQ_ok w' x (by omega)) <| s_nt (y_neq) (by omega) <| s_y y_pk <| s_nil <| q_then <| c_t <| c_seq <| c_reg <| s_y y_as <| s_nil <| q_then <| c_ret <| q_ret <| ?_
  exact ret1 Tryz.results80 rv_t fun w' hw => ⟨rfl, hw.sub (List.nil_sublist _)⟩
theorem gCheck_lo (w : World) (a : Int) (h : a < 1) : Pure Tryz.prog 80 [I a] w (I 40) := by
  refine enter Tryz.func80 Tryz.ntmps80 ?_
  refine c_seq <| c_reg <| s_y y_as <| s_nil <| q_then <| c_seq <| c_seq <| c_reg <| s_y y_mv <| s_kt (y_lss (p := a) (q := 1)) h <| s_y y_mv <| s_no <| s_no <| s_y y_pk <| s_y y_mv <| s_no <| s_no <| s_no <| s_no <| s_y y_pk <| s_nil <| q_then <| c_t <| c_seq <| c_reg <| s_y y_as <| s_nil <| q_then <| c_ret <| q_ret <| ?_
  exact ret1 Tryz.results80 rv_t fun w' hw => ⟨rfl, hw.sub (List.nil_sublist _)⟩
theorem gCheck_hi (w : World) (a : Int) (h : 4611686018427377339 ≤ a) : Pure Tryz.prog 80 [I a] w (I 40) := by
  refine enter Tryz.func80 Tryz.ntmps80 ?_
  refine c_seq <| c_reg <| s_y y_as <| s_nil <| q_then <| c_seq <| c_seq <| c_reg <| s_y y_mv <| s_kf (y_lss (p := a) (q := 1)) (by omega) <| s_y y_mv <| s_y y_mv <| s_kt (y_geq (p := a) (q := 4611686018427377339)) h <| s_y y_pk <| s_y y_mv <| s_no <| s_no <| s_no <| s_no <| s_y y_pk <| s_nil <| q_then <| c_t <| c_seq <| c_reg <| s_y y_as <| s_nil <| q_then <| c_ret <| q_ret <| ?_
  exact ret1 Tryz.results80 rv_t fun w' hw => ⟨rfl, hw.sub (List.nil_sublist _)⟩
theorem gCheck_no (w : World) (a : Int) (h : el a = false) : Pure Tryz.prog 80 [I a] w (I 40) := by
  by_cases h1 : a < 1
  · exact gCheck_lo w a h1
  by_cases h2 : 4611686018427377339 ≤ a
  · exact gCheck_hi w a h2
  obtain ⟨x, rfl⟩ : ∃ x : Nat, a = (x : Int) := ⟨a.toNat, by omega⟩
  rw [el_of (by omega) (by omega)] at h
  exact gCheck_in w x (by omega) (by omega) (of_decide_eq_false h)
theorem gCheck_ok (w : World) (a : Int) : Pure Tryz.prog 80 [I a] w (I (chk a)) := by
  cases h : el a with
  | true =>
    obtain ⟨x, rfl, h0, h1, h2⟩ := el_nat h
    rw [chk, h]
    exact gCheck_yes w x ⟨h0, h1, h2⟩
  | false => rw [chk, h]; exact gCheck_no w a h
theorem rCheck_yes (w : World) (x : Nat) (h : El x) : Pure Tryz.prog 115 [I x] w (I 0) := by
  have hx0 := h.pos
  have hx1 := h.lt
  refine enter Tryz.func115 Tryz.ntmps115 ?_
  refine c_seq <| c_reg <| s_y y_as <| s_nil <| q_then <| c_seq <| c_seq <| c_reg <| s_y y_mv <| s_kf (y_lss (p := (x : Int)) (q := 1)) (by have := h.pos; omega) <| s_y y_mv <| s_y y_mv <| s_kf (y_geq (p := (x : Int)) (q := 4611686018427377339)) (by have := h.lt; omega) <| s_y y_pk <| s_y y_mv <| s_y y_mv <| s_pure (fun w' hw => rpowQ_ok w' x (by omega)) <| s_nf (y_neq (p := (pp x Num.Q : Int)) (q := 1)) (by rw [h.one]; rfl) <| s_y y_pk <| s_nil <| q_then <| c_f <| c_skip <| q_then <| c_seq <| c_reg <| s_y y_as <| s_nil <| q_then <| c_ret <| ?_
  exact ret1 Tryz.results115 rv_t fun w' hw => ⟨rfl, hw.sub (List.nil_sublist _)⟩
theorem rCheck_in (w : World) (x : Nat) (hx0 : 0 < x) (hx1 : x < 4611686018427377339) (h : ¬ pp x Num.Q = 1) : Pure Tryz.prog 115 [I x] w (I 40) := by
  refine enter Tryz.func115 Tryz.ntmps115 ?_
  refine c_seq <| c_reg <| s_y y_as <| s_nil <| q_then <| c_seq <| c_seq <| c_reg <| s_y y_mv <| s_kf (y_lss (p := (x : Int)) (q := 1)) (by omega) <| s_y y_mv <| s_y y_mv <| s_kf (y_geq (p := (x : Int)) (q := 4611686018427377339)) (by omega) <| s_y y_pk <| s_y y_mv <| s_y y_mv <| s_pure (fun w' hw => rpowQ_ok w' x (by omega)) <| s_nt (y_neq (p := (pp x Num.Q : Int)) (q := 1)) (by omega) <| s_y y_pk <| s_nil <| q_then <| c_t <| c_seq <| c_reg <| s_y y_as <| s_nil <| q_then <| c_ret <| q_ret <| ?_
  exact ret1 Tryz.results115 rv_t fun w' hw => ⟨rfl, hw.sub (List.nil_sublist _)⟩
theorem rCheck_lo (w : World) (a : Int) (h : a < 1) : Pure Tryz.prog 115 [I a] w (I 40) := by
  refine enter Tryz.func115 Tryz.ntmps115 ?_
  refine c_seq <| c_reg <| s_y y_as <| s_nil <| q_then <| c_seq <| c_seq <| c_reg <| s_y y_mv <| s_kt (y_lss (p := a) (q := 1)) h <| s_y y_mv <| s_no <| s_no <| s_y y_pk <| s_y y_mv <| s_no <| s_no <| s_no <| s_y y_pk <| s_nil <| q_then <| c_t <| c_seq <| c_reg <| s_y y_as <| s_nil <| q_then <| c_ret <| q_ret <| ?_
  exact ret1 Tryz.results115 rv_t fun w' hw => ⟨rfl, hw.sub (List.nil_sublist _)⟩
theorem rCheck_hi (w : World) (a : Int) (h : 4611686018427377339 ≤ a) : Pure Tryz.prog 115 [I a] w (I 40) := by
  refine enter Tryz.func115 Tryz.ntmps115 ?_
  refine c_seq <| c_reg <| s_y y_as <| s_nil <| q_then <| c_seq <| c_seq <| c_reg <| s_y y_mv <| s_kf (y_lss (p := a) (q := 1)) (by omega) <| s_y y_mv <| s_y y_mv <| s_kt (y_geq (p := a) (q := 4611686018427377339)) h <| s_y y_pk <| s_y y_mv <| s_no <| s_no <| s_no <| s_y y_pk <| s_nil <| q_then <| c_t <| c_seq <| c_reg <| s_y y_as <| s_nil <| q_then <| c_ret <| q_ret <| ?_
  exact ret1 Tryz.results115 rv_t fun w' hw => ⟨rfl, hw.sub (List.nil_sublist _)⟩
theorem rCheck_no (w : World) (a : Int) (h : el a = false) : Pure Tryz.prog 115 [I a] w (I 40) := by
  by_cases h1 : a < 1
  · exact rCheck_lo w a h1
  by_cases h2 : 4611686018427377339 ≤ a
  · exact rCheck_hi w a h2
  obtain ⟨x, rfl⟩ : ∃ x : Nat, a = (x : Int) := ⟨a.toNat, by omega⟩
  rw [el_of (by omega) (by omega)] at h
  exact rCheck_in w x (by omega) (by omega) (of_decide_eq_false h)
theorem gExp_bad (w : World) (a k : Int) (h : el a = false) : Pure Tryz.prog 83 [I a, I k] w (.tuple #[I 0, I 40]) := by
  refine enter Tryz.func83 Tryz.ntmps83 ?_
  refine c_seq <| c_reg <| s_y y_as <| s_y y_as <| s_nil <| q_then <| c_seq <| c_seq <| c_reg <| s_y y_mv <| s_pure (fun w' hw => gCheck_no w' a h) <| s_y y_as <| s_nil <| q_then <| c_seq <| c_reg <| s_y y_mv <| s_nt (y_neq (p := 40) (q := 0)) (by omega) <| s_nil <| q_then <| c_t <| c_seq <| c_reg <| s_y y_mv <| s_y y_as <| s_y y_as <| s_nil <| q_then <| c_ret <| q_ret <| ?_
  exact ret2 Tryz.results83 rv_t rv_t fun w' hw => ⟨rfl, hw.sub (List.nil_sublist _)⟩
theorem gExp_lo (w : World) (x : Nat) (k : Int) (h : El x) (hk : k < 0) : Pure Tryz.prog 83 [I x, I k] w (.tuple #[I 0, I 1]) := by
  refine enter Tryz.func83 Tryz.ntmps83 ?_
  refine c_seq <| c_reg <| s_y y_as <| s_y y_as <| s_nil <| q_then <| c_seq <| c_seq <| c_reg <| s_y y_mv <| s_pure (fun w' hw => gCheck_yes w' x h) <| s_y y_as <| s_nil <| q_then <| c_seq <| c_reg <| s_y y_mv <| s_nf (y_neq (p := 0) (q := 0)) (by omega) <| s_nil <| q_then <| c_f <| c_skip <| q_then <| c_seq <| c_seq <| c_reg <| s_y y_mv <| s_kt (y_lss (p := k) (q := 0)) (by omega) <| s_y y_mv <| s_no <| s_no <| s_y y_pk <| s_nil <| q_then <| c_t <| c_seq <| c_reg <| s_y y_as <| s_y y_as <| s_nil <| q_then <| c_ret <| q_ret <| ?_
  exact ret2 Tryz.results83 rv_t rv_t fun w' hw => ⟨rfl, hw.sub (List.nil_sublist _)⟩
theorem gExp_hi (w : World) (x : Nat) (k : Int) (h : El x) (hk : 2305843009213688669 ≤ k) : Pure Tryz.prog 83 [I x, I k] w (.tuple #[I 0, I 1]) := by
  refine enter Tryz.func83 Tryz.ntmps83 ?_
  refine c_seq <| c_reg <| s_y y_as <| s_y y_as <| s_nil <| q_then <| c_seq <| c_seq <| c_reg <| s_y y_mv <| s_pure (fun w' hw => gCheck_yes w' x h) <| s_y y_as <| s_nil <| q_then <| c_seq <| c_reg <| s_y y_mv <| s_nf (y_neq (p := 0) (q := 0)) (by omega) <| s_nil <| q_then <| c_f <| c_skip <| q_then <| c_seq <| c_seq <| c_reg <| s_y y_mv <| s_kf (y_lss (p := k) (q := 0)) (by omega) <| s_y y_mv <| s_y y_mv <| s_kt (y_geq (p := k) (q := 2305843009213688669)) (by omega) <| s_y y_pk <| s_nil <| q_then <| c_t <| c_seq <| c_reg <| s_y y_as <| s_y y_as <| s_nil <| q_then <| c_ret <| q_ret <| ?_
  exact ret2 Tryz.results83 rv_t rv_t fun w' hw => ⟨rfl, hw.sub (List.nil_sublist _)⟩
theorem gExp_yes (w : World) (x k : Nat) (h : El x) (hk : k < 2305843009213688669) : Pure Tryz.prog 83 [I x, I k] w (.tuple #[I (pp x k : Nat), I 0]) := by
  have hx0 := h.pos
  have hx1 := h.lt
  have hpl := pp_lt x k
  refine enter Tryz.func83 Tryz.ntmps83 ?_
  refine c_seq <| c_reg <| s_y y_as <| s_y y_as <| s_nil <| q_then <| c_seq <| c_seq <| c_reg <| s_y y_mv <| s_pure (fun w' hw => gCheck_yes w' x h) <| s_y y_as <| s_nil <| q_then <| c_seq <| c_reg <| s_y y_mv <| s_nf (y_neq (p := 0) (q := 0)) (by omega) <| s_nil <| q_then <| c_f <| c_skip <| q_then <| c_seq <| c_seq <| c_reg <| s_y y_mv <| s_kf (y_lss (p := (k : Int)) (q := 0)) (by omega) <| s_y y_mv <| s_y y_mv <| s_kf (y_geq (p := (k : Int)) (q := 2305843009213688669)) (by omega) <| s_y y_pk <| s_nil <| q_then <| c_f <| c_skip <| q_then <| c_seq <| c_reg <| s_y y_mv <| s_y (y_cvn (k := .u64) (p := (x : Int)) (hw := wrap_u64 (by omega) (by omega))) <| s_y y_mv <| s_y (y_cvn (k := .u64) (p := (k : Int)) (hw := wrap_u64 (by omega) (by omega))) <| s_pure (fun w' hw => gpow_ok w' x k (by omega) (by omega)) <| s_y (y_cvn (k := .i64) (p := ((pp x k : Nat) : Int)) (hw := wrap_i64 (by unfold R64; omega))) <| s_y y_as <| s_y y_as <| s_nil <| q_then <| c_ret <| ?_
  exact ret2 Tryz.results83 rv_t rv_t fun w' hw => ⟨rfl, hw.sub (List.nil_sublist _)⟩
theorem gExp_ok (w : World) (a k : Int) : Pure Tryz.prog 83 [I a, I k] w (.tuple #[I (expV a k), I (expE a k)]) := by
  cases h : el a with
  | false => rw [expV, expE, h]; exact gExp_bad w a k h
  | true =>
    obtain ⟨x, rfl, h0, h1, h2⟩ := el_nat h
    by_cases hk : k < 0
    · rw [expV, expE, h, sc_lo hk]; exact gExp_lo w x k ⟨h0, h1, h2⟩ hk
    by_cases hk2 : 2305843009213688669 ≤ k
    · rw [expV, expE, h, sc_hi hk2]; exact gExp_hi w x k ⟨h0, h1, h2⟩ hk2
    obtain ⟨m, rfl⟩ : ∃ m : Nat, k = (m : Int) := ⟨k.toNat, by omega⟩
    rw [expV, expE, h, sc_of (by omega), Int.toNat_natCast, Int.toNat_natCast]
    exact gExp_yes w x m ⟨h0, h1, h2⟩ (by omega)
theorem gBase_ok (w : World) (k : Int) : Pure Tryz.prog 82 [I k] w (.tuple #[I (expV 4 k), I (expE 4 k)]) := by
  refine enter Tryz.func82 Tryz.ntmps82 ?_
  refine c_seq <| c_reg <| s_y y_as <| s_y y_as <| s_nil <| q_then <| c_seq <| c_reg <| s_y y_mv <| s_pure (fun w' hw => gExp_ok w' 4 k) <| s_y y_ext <| s_y y_ext <| s_y y_as <| s_y y_as <| s_nil <| q_then <| c_ret <| ?_
  exact ret2 Tryz.results82 rv_t rv_t fun w' hw => ⟨rfl, hw.sub (List.nil_sublist _)⟩
theorem gInv_ok (w : World) (a : Int) : Pure Tryz.prog 134 [I a] w (.tuple #[I (expV a 2305843009213688668), I (expE a 2305843009213688668)]) := by
  refine enter Tryz.func134 Tryz.ntmps134 ?_
  refine c_seq <| c_reg <| s_y y_as <| s_y y_as <| s_nil <| q_then <| c_seq <| c_reg <| s_y y_mv <| s_pure (fun w' hw => gExp_ok w' a 2305843009213688668) <| s_y y_ext <| s_y y_ext <| s_y y_as <| s_y y_as <| s_nil <| q_then <| c_ret <| ?_
  exact ret2 Tryz.results134 rv_t rv_t fun w' hw => ⟨rfl, hw.sub (List.nil_sublist _)⟩
theorem gMul_ok (w : World) (a b : Int) : Pure Tryz.prog 85 [I a, I b] w (.tuple #[I (mulV a b), I (mulE a b)]) := by
  refine enter Tryz.func85 Tryz.ntmps85 ?_
  refine c_seq <| c_reg <| s_y y_as <| s_y y_as <| s_nil <| q_then <| c_seq <| c_seq <| c_reg <| s_y y_mv <| s_y y_mv <| s_y (y_blda (cs := [I a, I b])) <| s_y y_mv <| s_nil <| q_then <| c_block <| ?_
  refine c_loop (fun i : Nat => [(0, I a), (1, I b), (11, .agg #[I a, I b]), (12, I i)]) (fun _ => []) (fun i => i ≤ 2 ∧ (0 < i → el a = true) ∧ (1 < i → el b = true)) (fun i => 2 - i) 0 ⟨by omega, fun h => by omega, fun h => by omega⟩ ⟨rfl, rfl, rfl, rfl, trivial⟩ (List.Sublist.refl _) ?_
  intro i ⟨hi, hia, hib⟩
  refine c_seq <| c_reg <| s_y (y_lss (p := i) (q := 2)) <| s_nil <| q_then <| c_seq <| c_ifd (fun h13 => ?_) (fun h13 => ?_)
  · obtain ⟨z, hz, hz0, hz1⟩ : ∃ z : Int, (#[I a, I b] : Array Value)[i]? = some (I z) ∧ (i = 0 → z = a) ∧ (i = 1 → z = b) := by
      obtain rfl | rfl : i = 0 ∨ i = 1 := by omega
      · exact ⟨a, rfl, fun _ => rfl, fun h => by omega⟩
      · exact ⟨b, rfl, fun h => by omega, fun _ => rfl⟩
    refine c_skip <| q_then <| c_seq <| c_block <| c_seq <| c_reg <| s_y (y_ixv (v := I z) i hz) <| s_y y_as <| s_nil <| q_then <| c_seq <| c_reg <| s_y y_mv <| s_pure (fun w' hw => gCheck_ok w' z) <| s_y y_as <| s_nil <| q_then <| c_seq <| c_reg <| s_y y_mv <| s_y (y_neq (p := chk z) (q := 0)) <| s_nil <| q_then <| c_ifn (fun h18 => ?_) (fun h18 => ?_)
    · have hz9 : el z = false := by
        cases h9 : el z with
        | false => rfl
        | true => exact absurd (by rw [chk, h9]; rfl) h18
      have e1 : mulV a b = 0 ∧ mulE a b = 40 := by
        unfold mulV mulE
        obtain rfl | rfl : i = 0 ∨ i = 1 := by omega
        · rw [← hz0 rfl, hz9]; exact ⟨rfl, rfl⟩
        · rw [← hz1 rfl, hz9, Bool.and_false]; exact ⟨rfl, rfl⟩
      have e2 : chk z = 40 := by rw [chk, hz9]; rfl
      rw [e1.1, e1.2, e2]
      refine c_seq <| c_reg <| s_y y_mv <| s_y y_as <| s_y y_as <| s_nil <| q_then <| c_ret <| q_retb <| q_ret <| q_ret <| q_retb <| q_ret <| ?_
      exact ret2 Tryz.results85 rv_t rv_t fun w' hw => ⟨rfl, hw⟩
    · have hz9 : el z = true := by
        cases h9 : el z with
        | true => rfl
        | false => rw [chk, h9] at h18; exact absurd h18 (by decide)
      refine c_skip <| q_nb <| q_then <| c_reg <| s_y (y_add (p := i) (q := 1)) <| s_y y_mv <| s_nil <| q_round (i + 1) ⟨by omega, fun _ => ?_, fun h => ?_⟩ (by omega) ⟨rfl, rfl, rfl, rfl, trivial⟩ (List.Sublist.refl _)
      · rcases Nat.eq_zero_or_pos i with h0 | h0
        · rw [← hz0 h0]; exact hz9
        · exact hia h0
      · rw [← hz1 (by omega)]; exact hz9
  · obtain ⟨x, rfl, hx0, hx1, hx2⟩ := el_nat (hia (by omega))
    obtain ⟨y, rfl, hy0, hy1, hy2⟩ := el_nat (hib (by omega))
    have e1 : mulV (x : Int) (y : Int) = ((x * y % 4611686018427377339 : Nat) : Int) ∧ mulE (x : Int) (y : Int) = 0 := by
      unfold mulV mulE
      rw [hia (by omega), hib (by omega), Int.toNat_natCast, Int.toNat_natCast]; exact ⟨rfl, rfl⟩
    have hml : x * y % 4611686018427377339 < 4611686018427377339 := Nat.mod_lt _ (by decide)
    rw [e1.1, e1.2]
    refine c_exit <| q_ex <| q_ex <| q_exb <| q_then <| c_seq <| c_reg <| s_y y_mv <| s_y (y_cvn (k := .u64) (p := (x : Int)) (hw := wrap_u64 (by omega) (by omega))) <| s_y y_mv <| s_y (y_cvn (k := .u64) (p := (y : Int)) (hw := wrap_u64 (by omega) (by omega))) <| s_pure (fun w' hw => group_times_ok w' x y hx1 hy1) <| s_y (y_cvn (k := .i64) (p := ((x * y % 4611686018427377339 : Nat) : Int)) (hw := wrap_i64 (by unfold R64; omega))) <| s_y y_as <| s_y y_as <| s_nil <| q_then <| c_ret <| ?_
    exact ret2 Tryz.results85 rv_t rv_t fun w' hw => ⟨rfl, hw⟩
end Go.Proofs.YtejdjnkilikehaaGreatDoor
end
section
namespace Go.Proofs.YtejdjnkilikehaaGreatDoor
open Go Eng Gf Dv
theorem Qmod (a b : Nat) : a * b % 2305843009213688669 < 2305843009213688669 := Nat.mod_lt _ (by decide)
theorem f_product_ok (w : World) (x y : Nat) (hx : x < 2305843009213688669) (hy : y < 2305843009213688669) :
    Pure Tryz.prog 164 [I x, I y] w (I (x * y % 2305843009213688669 : Nat)) := by
  have hd := Nat.div_add_mod (x * y) 18446744073709551616
  have hp := prod_lt hx hy (by decide)
  have hml := Qmod x y
  refine enter Tryz.func164 Tryz.ntmps164 ?_
  refine c_seq <| c_reg <| s_y y_as <| s_nil <| q_then <| c_seq <| c_reg <| s_y y_mv <| s_y (y_cvn (k := .u64) (p := (x : Int)) (hw := wrap_u64 (by omega) (by omega))) <| s_y y_mv <| s_y (y_cvn (k := .u64) (p := (y : Int)) (hw := wrap_u64 (by omega) (by omega))) <| s_pure (fun w' hw => bits_Mul64_ok w' x y (Nat.lt_trans hx (by decide)) (Nat.lt_trans hy (by decide))) <| s_y y_mv <| s_y y_ext <| s_y y_ext <| s_y y_as <| s_y y_as <| s_nil <| q_then <| c_seq <| c_reg <| s_y y_mv <| s_y y_mv <| s_pure (fun w' hw => bits_Div64_ok w' (x * y / 18446744073709551616) (x * y % 18446744073709551616) 2305843009213688669 hp (Nat.mod_lt _ (by decide)) (by decide)) <| ?_
  rw [Nat.mul_comm (x * y / 18446744073709551616), hd]
  refine s_y y_mv <| s_y y_ext <| s_y y_ext <| s_y y_as <| s_y y_as <| s_nil <| q_then <| c_seq <| c_reg <| s_y y_mv <| s_y (y_cvn (k := .i64) (p := ((x * y % 2305843009213688669 : Nat) : Int)) (hw := wrap_i64 (by unfold R64; omega))) <| s_y y_as <| s_nil <| q_then <| c_ret <| ?_
  exact ret1 Tryz.results164 rv_t fun w' hw => ⟨rfl, hw⟩
theorem bits_Len_ok (p : Nat) (hp : p < 18446744073709551616) : ∃ len : Nat, len ≤ 64 ∧ p < 2 ^ len ∧ ∀ w : World, Pure Tryz.prog 234 [U p] w (I len) := by
  obtain ⟨len, h1, h2, _, hu⟩ := bits_Len64_ok p hp
  refine ⟨len, h1, h2, fun w => ?_⟩
  refine enter Tryz.func234 Tryz.ntmps234 ?_
  refine c_seq <| c_reg <| s_y y_as <| s_nil <| q_then <| c_seq <| c_f <| c_skip <| q_then <| c_seq <| c_reg <| s_y y_mv <| s_pure (fun w' _ => hu w') <| s_y y_as <| s_nil <| q_then <| c_ret <| ?_
  exact ret1 Tryz.results234 rv_t fun w' hw => ⟨rfl, hw⟩
theorem f_binary_ok (w : World) (e : Nat) : Gives Tryz.prog 214 [I e] w [] (fun b : Nat => .func (.func 233) #[] #[.pointer (some ⟨b, 0, none⟩)]) (fun b => [.blk b (.cells #[I e] 3 (0, 0))]) (fun _ => True) := by
  refine enter Tryz.func214 Tryz.ntmps214 ?_
  refine c_seq <| c_reg <| s_box rfl fun b1 => s_y y_as <| s_nil <| q_then <| c_seq <| c_reg <| s_y y_func <| s_y y_as <| s_nil <| q_then <| c_ret <| ?_
  exact ret1 Tryz.results214 rv_t fun w' hw => ⟨b1, trivial, rfl, hw⟩
theorem f_power1_ok (w : World) (b5 acc z : Nat) (hp : (Res.blk b5 (.cells #[I acc] 3 (0, 0))).holds w) (ha : acc < 2305843009213688669) (hz : z < 2305843009213688669) :
    Gives Tryz.prog 213 [I z, .pointer (some ⟨b5, 0, none⟩)] w (keys [.blk b5 (.cells #[I acc] 3 (0, 0))]) (fun _ : Unit => .tuple #[]) (fun _ => [.blk b5 (.cells #[I (acc * z % 2305843009213688669 : Nat)] 3 (0, 0))]) (fun _ => True) := by
  refine enterR Tryz.func213 Tryz.ntmps213 hp ?_
  refine c_reg <| s_y (y_ld (v := I acc)) <| s_y y_mv <| s_pure (fun w' hw => f_product_ok w' acc z ha hz) <| s_st (v := I (acc * z % 2305843009213688669 : Nat)) (cs := #[I acc]) (hl := Nat.zero_lt_one) ?_
  refine s_nil <| ?_
  exact ret0 Tryz.results213 (fun w' hw => ⟨(), trivial, rfl, hw⟩) _ (.inr rfl)
abbrev fpF (b5 : Nat) : Value := .func (.func 213) #[] #[.pointer (some ⟨b5, 0, none⟩)]
def fpM (L Dk : Nat) (rc : Loop) (b6 b5 b2 b1 e b acc : Nat) : SH :=
  [.blk L (.loop rc), .blk Dk (.deferred (some [])), .blk b1 (.cells #[I e] 3 (0, 0)), .blk b6 (.cells #[fpF b5] 213 (0, 0)), .blk b5 (.cells #[I acc] 3 (0, 0)), .blk b2 (.cells #[I b] 3 (0, 0))]
theorem binary1_ok (w' : World) (rc : Loop) (L Dk b6 b5 b2 b1 e b p : Nat) (he : e < 9223372036854775808) (hp : 1 < p)
    (hs : ∀ q ∈ fpM L Dk rc b6 b5 b2 b1 e b 1, q.holds w') (hnd : (keys (fpM L Dk rc b6 b5 b2 b1 e b 1)).Nodup) (hpz : rc.params.size = 1)
    (hround : ∀ (i : Nat) (w2 : World), St w' (keys (fpM L Dk rc b6 b5 b2 b1 e b 1)) w2 (fpM L Dk rc b6 b5 b2 b1 e b (b ^ (e / 2 ^ (i + 1)) % p)) →
      RoundIn (Fw none) 0 Tryz.prog L rc.fn ((rc.params.zip #[.bool (decide (e / 2 ^ i % 2 = 1))]).foldl (fun tmps (t, a) => tmps.setIfInBounds t a) rc.tmps) rc.assign rc.body w2 fun e' w3 => ∃ _ : Unit, True ∧ e' = .returned (.bool true) ∧ St w' (keys (fpM L Dk rc b6 b5 b2 b1 e b 1)) w3 (fpM L Dk { rc with state := .ready, pending := none } b6 b5 b2 b1 e b (b ^ (e / 2 ^ i) % p)))
    (hrdy : rc = { rc with state := .ready, pending := none } := by rfl) :
    Calls Tryz.prog 233 #[.func (.yield L) #[] #[], .pointer (some ⟨b1, 0, none⟩)] w' fun e' w2 => (∃ v, e' = .returned v) ∧ St w' (keys (fpM L Dk rc b6 b5 b2 b1 e b 1)) w2 (fpM L Dk rc b6 b5 b2 b1 e b (b ^ e % p)) := by
  obtain ⟨len, hlen, hl1, hlz⟩ := bits_Len_ok e (by omega)
  refine enterL (args := [.func (.yield L) #[] #[], .pointer (some ⟨b1, 0, none⟩)]) Tryz.func233 Tryz.ntmps233 hs hnd ?_
  obtain ⟨bo, hbo⟩ : ∃ bo, bo = keys (fpM L Dk rc b6 b5 b2 b1 e b 1) := ⟨_, rfl⟩
  rw [← hbo] at hround ⊢
  have h1p : b ^ (e / 2 ^ len) % p = 1 := by rw [Nat.div_eq_of_lt hl1, Nat.pow_zero, Nat.mod_eq_of_lt hp]
  refine c_seq <| c_reg <| s_y (y_ld (b := b1) (v := I e)) <| s_y (y_cvn (k := .u64) (p := (e : Int)) (hw := wrap_u64 (by omega) (by omega))) <| s_pure (fun w2 _ => hlz w2) <| s_y (y_sub (p := len) (q := 1)) <| s_y y_as <| s_nil <| q_then <| c_block <| ?_
  refine c_loop (fun j : Nat => [(0, .func (.yield L) #[] #[]), (1, .pointer (some ⟨b1, 0, none⟩)), (3, I ((j : Int) - 1))]) (fun j => fpM L Dk rc b6 b5 b2 b1 e b (b ^ (e / 2 ^ j) % p)) (fun j => j ≤ 64) (fun j => j) len hlen ⟨rfl, rfl, rfl, trivial⟩ (by rw [h1p]; exact .refl _) ?_
  intro j hj
  refine c_seq <| c_seq <| c_reg <| s_y y_mv <| s_y (y_geq (p := (j : Int) - 1) (q := 0)) <| s_nil <| q_then <| c_ifd (fun h8 => ?_) (fun h8 => ?_)
  · obtain ⟨i, rfl⟩ : ∃ i, j = i + 1 := ⟨j - 1, by omega⟩
    rw [show ((i + 1 : Nat) : Int) - 1 = (i : Int) by omega]
    refine c_skip <| q_then <| c_seq <| c_block <| c_seq <| c_reg <| s_y y_mv <| s_y (y_ld (b := b1) (v := I e)) <| s_y y_mv <| s_y (y_shr (p := e) (q := (i : Int))) <| ?_
    rw [Int.toNat_natCast]
    have hdl : e / 2 ^ i < 9223372036854775808 := Nat.lt_of_le_of_lt (Nat.div_le_self _ _) he
    refine s_y (y_mask (p := e / 2 ^ i) 1) <| s_y (y_eql (p := ((e / 2 ^ i % 2 ^ 1 : Nat) : Int)) (q := 1)) <| ?_
    rw [show decide (((e / 2 ^ i % 2 ^ 1 : Nat) : Int) = 1) = decide (e / 2 ^ i % 2 = 1) from decide_eq_decide.2 ⟨fun h => by omega, fun h => by omega⟩]
    refine s_yield (L := L) (rc := rc) (σ := Unit) (fun _ => .bool true) (fun _ => fpM L Dk { rc with state := .ready, pending := none } b6 b5 b2 b1 e b (b ^ (e / 2 ^ i) % p)) (fun _ => True) (.head _) hpz (fun w2 h2 => hround i w2 h2) (fun _ _ => ?_)
    rw [← hrdy]
    refine s_y (v := .bool false) (y_not (b := true)) <| s_nil <| q_then <| c_f <| c_skip <| q_nb <| q_then <| c_reg <| s_y y_mv <| s_y (y_sub (p := (i : Int)) (q := 1)) <| s_y y_as <| s_nil <| q_round i (by omega) (by omega) ⟨rfl, rfl, rfl, trivial⟩ (.refl _)
  · obtain rfl : j = 0 := by omega
    rw [Nat.pow_zero, Nat.div_one]
    refine c_exit <| q_ex <| q_ex <| q_exb <| ?_
    exact ret0 Tryz.results233 (fun w2 h2 => ⟨⟨_, rfl⟩, h2⟩) _ (.inr rfl)
theorem f_power_ok (w : World) (b e : Nat) (hb : b < 2305843009213688669) (he : e < 9223372036854775808) :
    Pure Tryz.prog 165 [I b, I e] w (I (qq b e : Nat)) := by
  rw [qq_def]
  refine enterM Tryz.func165 Tryz.ntmps165 ?_
  refine c_seq <| c_reg <| s_box rfl fun b2 => s_y y_as <| s_nil <| q_then <| c_seq <| c_reg <| s_alloc fun b5 => s_st (b := b5) (v := I 1) (cs := #[I 0]) (hl := Nat.zero_lt_one) ?_
  refine s_nil <| q_then <| c_seq <| c_reg <| s_y y_func <| s_alloc fun b6 => s_st (b := b6) (v := fpF b5) (cs := #[.nilFunc]) (hl := Nat.zero_lt_one) ?_
  refine s_nil <| q_then <| c_seq <| c_seq <| c_reg <| s_y y_mv <| s_gives (fun w' hw => f_binary_ok w' e) fun b1 _ => s_nil <| q_then <| c_block <| ?_
  refine c_rangeN (σ := Unit) (fun _ => [.blk b1 (.cells #[I e] 3 (0, 0)), .blk b6 (.cells #[fpF b5] 213 (0, 0)), .blk b5 (.cells #[I (b ^ e % 2305843009213688669 : Nat)] 3 (0, 0)), .blk b2 (.cells #[I b] 3 (0, 0))]) (fun _ => True) (fun fn tm Dk L hfr w' hw' => ?_) (fun Dk _ _ => ?_)
  rotate_left
  · refine q_nb <| q_then <| c_seq <| c_reg <| s_y (y_ld (b := b5) (v := I (b ^ e % 2305843009213688669 : Nat))) <| s_y y_as <| s_nil <| q_then <| c_ret <| ?_
    exact ret1E Tryz.results165 (.head _) rv_t fun w' hw => ⟨rfl, hw.sub (List.nil_sublist _)⟩
  · have hps := (show St w [] w' (fpM L Dk _ b6 b5 b2 b1 e b 1 ++ []) by rw [List.append_nil]; exact hw').has
    refine (binary1_ok w' _ L Dk b6 b5 b2 b1 e b 2305843009213688669 he (by decide) hps.1 hps.2 rfl (fun i w2 h2 => ?_)).mono fun e' w2 ⟨hv, h2⟩ => ⟨hv, (), trivial, by have h9 := hw'.transL (l2 := []) (by rw [List.append_nil]; exact .refl _) h2; rw [List.append_nil] at h9; exact h9⟩
    have hf9 := (hfr []).put 11 (.bool (decide (e / 2 ^ i % 2 = 1))) rfl
    have hst := pow_step b e i 2305843009213688669
    dsimp only at hst
    obtain ⟨a, ha⟩ : ∃ a, b ^ (e / 2 ^ (i + 1)) % 2305843009213688669 = a := ⟨_, rfl⟩
    have hal : a < 2305843009213688669 := by rw [← ha]; exact Nat.mod_lt _ (by decide)
    rw [ha] at hst h2
    refine round_ok (F1 := [(2, .pointer (some ⟨b2, 0, none⟩)), (5, .pointer (some ⟨b5, 0, none⟩)), (6, .pointer (some ⟨b6, 0, none⟩)), (7, .bool (decide (e / 2 ^ i % 2 = 1)))]) h2 hf9 (by simp [Act.put]) (by rfl) (.head _) (l1 := fpM L Dk _ b6 b5 b2 b1 e b a) ?_ ?_
    · refine c_reg <| s_y y_as <| s_nil <| q_join ⟨rfl, rfl, rfl, rfl, trivial⟩ (List.Sublist.refl _)
    · refine c_block <| c_seq <| c_reg <| s_y (y_ld (b := b6) (v := fpF b5)) <| s_y (y_ld (b := b5) (v := I a)) <| s_upd (fs := []) (cs := [.pointer (some ⟨b5, 0, none⟩)]) (lx := fun _ => []) (fun w3 h3 => f_power1_ok w3 b5 a a (h3.own _ (.tail _ (.tail _ (.tail _ (.tail _ (.head _)))))).1 hal hal) (fun _ => .tail _ (.tail _ (.tail _ (.tail _ (.head _))))) (fun _ _ => ?_)
      refine s_nil <| q_then <| c_seq <| c_reg <| s_y y_mv <| s_nil <| q_then <| c_ifd (fun h13 => ?_) (fun h13 => ?_)
      · rw [if_pos h13] at hst
        refine c_reg <| s_y (y_ld (b := b6) (v := fpF b5)) <| s_y (y_ld (b := b2) (v := I b)) <| s_upd (fs := []) (cs := [.pointer (some ⟨b5, 0, none⟩)]) (lx := fun _ => []) (fun w3 h3 => f_power1_ok w3 b5 (a * a % 2305843009213688669) b (h3.own _ (.tail _ (.tail _ (.tail _ (.tail _ (.head _)))))).1 (Nat.mod_lt _ (by decide)) hb) (fun _ => .tail _ (.tail _ (.tail _ (.tail _ (.head _))))) (fun _ _ => ?_)
        refine s_nil <| q_nb <| q_rn (.head _) fun w3 h3 => ⟨(), trivial, rfl, ?_⟩
        rw [hst]; exact h3
      · rw [if_neg h13] at hst
        refine c_skip <| q_nb <| q_rn (.head _) fun w3 h3 => ⟨(), trivial, rfl, ?_⟩
        rw [hst]; exact h3
theorem f_outside1_lo (w : World) (a : Int) (h : a < 0) : Pure Tryz.prog 204 [I a] w (.bool true) := by
  refine enter Tryz.func204 Tryz.ntmps204 ?_
  refine c_seq <| c_reg <| s_y y_as <| s_nil <| q_then <| c_seq <| c_reg <| s_y y_mv <| s_kt (y_lss (p := a) (q := 0)) h <| s_y y_mv <| s_no <| s_no <| s_y y_pk <| s_y y_as <| s_nil <| q_then <| c_ret <| ?_
  exact ret1 Tryz.results204 rv_t fun w' hw => ⟨rfl, hw.sub (List.nil_sublist _)⟩
theorem f_outside1_hi (w : World) (a : Int) (h : 2305843009213688669 ≤ a) : Pure Tryz.prog 204 [I a] w (.bool true) := by
  refine enter Tryz.func204 Tryz.ntmps204 ?_
  refine c_seq <| c_reg <| s_y y_as <| s_nil <| q_then <| c_seq <| c_reg <| s_y y_mv <| s_kf (y_lss (p := a) (q := 0)) (by omega) <| s_y y_mv <| s_y y_mv <| s_kt (y_geq (p := a) (q := 2305843009213688669)) h <| s_y y_pk <| s_y y_as <| s_nil <| q_then <| c_ret <| ?_
  exact ret1 Tryz.results204 rv_t fun w' hw => ⟨rfl, hw.sub (List.nil_sublist _)⟩
theorem f_outside1_in (w : World) (x : Nat) (h : x < 2305843009213688669) : Pure Tryz.prog 204 [I x] w (.bool false) := by
  refine enter Tryz.func204 Tryz.ntmps204 ?_
  refine c_seq <| c_reg <| s_y y_as <| s_nil <| q_then <| c_seq <| c_reg <| s_y y_mv <| s_kf (y_lss (p := (x : Int)) (q := 0)) (by omega) <| s_y y_mv <| s_y y_mv <| s_kf (y_geq (p := (x : Int)) (q := 2305843009213688669)) (by omega) <| s_y y_pk <| s_y y_as <| s_nil <| q_then <| c_ret <| ?_
  exact ret1 Tryz.results204 rv_t fun w' hw => ⟨rfl, hw.sub (List.nil_sublist _)⟩
theorem f_outside1_ok (w : World) (a : Int) : Pure Tryz.prog 204 [I a] w (.bool (!sc a)) := by
  by_cases h1 : a < 0
  · rw [sc_lo h1]; exact f_outside1_lo w a h1
  by_cases h2 : 2305843009213688669 ≤ a
  · rw [sc_hi h2]; exact f_outside1_hi w a h2
  obtain ⟨x, rfl⟩ : ∃ x : Nat, a = (x : Int) := ⟨a.toNat, by omega⟩
  rw [sc_of (by omega)]
  exact f_outside1_in w x (by omega)
theorem IndexFunc_sc_ok (w : World) (a : Option Addr) (c : Nat) (q : List Int) (hr : Rd w a (is q)) (hl : q.length ≤ 1000000000000000000) :
    Pure Tryz.prog 227 [.slice a q.length c, .func (.func 204) #[] #[]] w (I (fidx (fun n => !sc n) q)) := by
  refine enter Tryz.func227 Tryz.ntmps227 ?_
  refine c_seq <| c_reg <| s_y y_as <| s_nil <| q_then <| c_seq <| c_seq <| c_reg <| s_y y_mv <| s_y y_len <| s_y y_mv <| s_nil <| q_then <| c_block <| ?_
  refine c_loop (fun i : Nat => [(0, .slice a q.length c), (1, .func (.func 204) #[] #[]), (7, I q.length), (8, I i)]) (fun _ => []) (fun i => i ≤ q.length ∧ ∀ j, j < i → (!sc (q.getD j 0)) = false) (fun i => q.length - i) 0 ⟨by omega, fun _ h => by omega⟩ ⟨rfl, rfl, rfl, rfl, trivial⟩ (List.Sublist.refl _) ?_
  intro i ⟨hi, hj⟩
  refine c_seq <| c_reg <| s_y (y_lss (p := i) (q := q.length)) <| s_nil <| q_then <| c_seq <| c_ifd (fun h9 => ?_) (fun h9 => ?_)
  · have hiq : i < q.length := by omega
    refine c_skip <| q_then <| c_seq <| c_block <| c_seq <| c_reg <| s_y y_mv <| s_y y_as <| s_nil <| q_then <| c_seq <| c_reg <| s_y y_mv <| s_y y_mv <| s_y y_mv <| s_y (y_ixs1 (i := i) (xs := is q)) <| s_y (y_ldi (i := i) (q := q)) <| s_pure (fun w' hw => f_outside1_ok w' (q.getD i 0)) <| s_nil <| q_then <| c_if rfl (fun h16 => ?_) (fun h16 => ?_)
    · rw [fidx_hit (d := 0) hiq hj h16]
      refine c_seq <| c_reg <| s_y y_mv <| s_y y_as <| s_nil <| q_then <| c_ret <| q_retb <| q_ret <| q_ret <| q_retb <| q_ret <| ?_
      exact ret1 Tryz.results227 rv_t fun w' hw => ⟨rfl, hw⟩
    · refine c_skip <| q_nb <| q_then <| c_reg <| s_y (y_add (p := i) (q := 1)) <| s_y y_mv <| s_nil <| q_round (i + 1) ⟨by omega, fun j h => (Nat.lt_or_ge j i).elim (hj j) fun h8 => by obtain rfl : j = i := (by omega); exact h16⟩ (by omega) ⟨rfl, rfl, rfl, rfl, trivial⟩ (List.Sublist.refl _)
  · rw [fidx_none (d := 0) (p := fun n => !sc n) (l := q) fun j h => hj j (by omega)]
    refine c_exit <| q_ex <| q_ex <| q_exb <| q_then <| c_seq <| c_reg <| s_y y_as <| s_nil <| q_then <| c_ret <| ?_
    exact ret1 Tryz.results227 rv_t fun w' hw => ⟨rfl, hw⟩
theorem ContainsFunc_sc_ok (w : World) (a : Option Addr) (c : Nat) (q : List Int) (hr : Rd w a (is q)) (hl : q.length ≤ 1000000000000000000) :
    Pure Tryz.prog 203 [.slice a q.length c, .func (.func 204) #[] #[]] w (.bool (q.any fun n => !sc n)) := by
  rw [← fidx_any]
  refine enter Tryz.func203 Tryz.ntmps203 ?_
  refine c_seq <| c_reg <| s_y y_as <| s_nil <| q_then <| c_seq <| c_reg <| s_y y_mv <| s_y y_mv <| s_pure (fun w' hw => IndexFunc_sc_ok w' a c q (hr.st hw) hl) <| s_y (y_geq (p := fidx (fun n => !sc n) q) (q := 0)) <| s_y y_as <| s_nil <| q_then <| c_ret <| ?_
  exact ret1 Tryz.results203 rv_t fun w' hw => ⟨rfl, hw⟩
theorem f_outside_ok (w : World) (a : Option Addr) (c : Nat) (q : List Int) (hr : Rd w a (is q)) (hl : q.length ≤ 1000000000000000000) :
    Pure Tryz.prog 153 [.slice a q.length c] w (.bool (q.any fun n => !sc n)) := by
  refine enter Tryz.func153 Tryz.ntmps153 ?_
  refine c_seq <| c_reg <| s_y y_as <| s_nil <| q_then <| c_seq <| c_reg <| s_y y_mv <| s_pure (fun w' hw => ContainsFunc_sc_ok w' a c q (hr.st hw) hl) <| s_y y_as <| s_nil <| q_then <| c_ret <| ?_
  exact ret1 Tryz.results153 rv_t fun w' hw => ⟨rfl, hw⟩
theorem f_Mul_yes (w : World) (x y : Nat) (hx : x < 2305843009213688669) (hy : y < 2305843009213688669) : Pure Tryz.prog 98 [I x, I y] w (.tuple #[I (x * y % 2305843009213688669 : Nat), I 0]) := by
  refine enter Tryz.func98 Tryz.ntmps98 ?_
  refine c_seq <| c_reg <| s_y y_as <| s_y y_as <| s_nil <| q_then <| c_seq <| c_seq <| c_reg <| s_y y_mv <| s_y y_mv <| s_bslr (cs := is [(x : Int), (y : Int)]) fun b8 => s_pure (fun w' hw => (by have h9 := f_outside_ok w' (some ⟨b8, 0, none⟩) 2 [(x : Int), (y : Int)] (rdR (.head _) w' hw) (by simp); rw [show ([(x : Int), (y : Int)].any fun n => !sc n) = false by simp [sc_of hx, sc_of hy]] at h9; exact h9)) <| s_nil <| q_then <| c_f <| c_skip <| q_then <| c_seq <| c_reg <| s_y y_mv <| s_y y_mv <| s_pure (fun w' hw => f_product_ok w' x y (by omega) (by omega)) <| s_y y_as <| s_y y_as <| s_nil <| q_then <| c_ret <| ?_
  exact ret2 Tryz.results98 rv_t rv_t fun w' hw => ⟨rfl, hw.sub (List.nil_sublist _)⟩
theorem f_Inv_yes (w : World) (x : Nat) (h0 : 0 < x) (hx : x < 2305843009213688669) : Pure Tryz.prog 99 [I x] w (.tuple #[I (qq x 2305843009213688667 : Nat), I 0]) := by
  refine enter Tryz.func99 Tryz.ntmps99 ?_
  refine c_seq <| c_reg <| s_y y_as <| s_y y_as <| s_nil <| q_then <| c_seq <| c_block <| c_seq <| c_reg <| s_y y_mv <| s_bslr (cs := is [(x : Int)]) fun b6 => s_pure (fun w' hw => (by have h9 := f_outside_ok w' (some ⟨b6, 0, none⟩) 1 [(x : Int)] (rdR (.head _) w' hw) (by simp); rw [show ([(x : Int)].any fun n => !sc n) = false by simp [sc_of hx]] at h9; exact h9)) <| s_y y_as <| s_nil <| q_then <| c_f <| c_seq <| c_reg <| s_y y_mv <| s_kf (y_eql (p := (x : Int)) (q := 0)) (by omega) <| s_y y_as <| s_nil <| q_then <| c_f <| c_skip <| q_nb <| q_then <| c_seq <| c_reg <| s_y y_mv <| s_pure (fun w' hw => f_power_ok w' x 2305843009213688667 (by omega) (by decide)) <| s_y y_as <| s_y y_as <| s_nil <| q_then <| c_ret <| ?_
  exact ret2 Tryz.results99 rv_t rv_t fun w' hw => ⟨rfl, hw.sub (List.nil_sublist _)⟩
end Go.Proofs.YtejdjnkilikehaaGreatDoor
end
section
namespace Eng
open Go Go.RowKit
section
variable {r : Option Nat} {P : Program} {n : Nat} {D : List Deferred} {W : World} {Bo : List Nat} {F : List (Nat × Value)} {l l' l2 ps0 lx : SH}
  {d : Option Tmp} {dd : Nat} {ty : TypeId} {ps : String} {af : Array Edge} {g : Option (Nat × Bool)} {x y z : Operand} {v u : Value} {ta tb t e : TypeId}
  {Q : Exit → Act → World → Prop} {ops : Array Oper} {rest : List Oper} {td : TypeDesc} {c : Code}
def Dies (P : Program) (k : FuncId) (args : List Value) (w : World) (v : Value) : Prop :=
  Calls P k args.toArray w fun e w' => e = .panicked [{ v := v, recovered := false }] ∧ St w [] w' []
theorem s_dies {k : FuncId} [hf : HF P k] {fo : Operand} {fs cs vs args : List Value} {ao : Array Operand} {ts : Array TypeId}
    (hc : ∀ w, St W Bo w l → Dies P k args w v)
    (h : QP n D W Bo Q (.panic [{ v := v, recovered := false }]) F l)
    (hfo : evO F fo = some (.func (.func k) fs.toArray cs.toArray) := by rfl) (hargs : evL F ao.toList = some vs := by rfl) (hap : args = fs ++ vs ++ cs := by rfl) (hg : Wn ops F g := by first | exact .none | exact .some rfl rfl) :
    LP r P n D W Bo ops Q (⟨d, .call ⟨.value fo, ao, ts⟩, ty, ps, af, g⟩ :: rest) F l := by
  intro a w ha hw
  refine wpListIn_of (hg.wanted rfl ha) ?_
  refine ⟨fun f _ => trivial, ?_⟩
  rw [semAt_eq _ (by simp), run_call hfo hargs ha]
  refine ⟨by simp [Fw, Fence.wide], callsFw ((hap ▸ hc w hw : Dies P k (fs ++ vs ++ cs) w v).mono ?_)⟩
  rintro e w' ⟨rfl, hw'⟩
  exact h _ _ ha ((hw.trans hw').sub (by simp))
theorem s_panic {T : TypeId} (h : QP n D W Bo Q (.panic [{ v := .iface T v, recovered := false }]) F l) (hx : evO F x = some (.iface T v) := by rfl) (hg : Wn ops F g := by first | exact .none | exact .some rfl rfl) :
    LP r P n D W Bo ops Q (⟨d, .panic x, ty, ps, af, g⟩ :: rest) F l := by
  intro a w ha hw
  refine wpListIn_of (hg.wanted rfl ha) ?_
  refine ⟨fun f _ => trivial, ?_⟩
  have e : (execOp a.eval ⟨d, .panic x, ty, ps, af, g⟩).run P w = .halt (.panic (.iface T v)) w := by
    simp only [execOp, ha.eval hx, Sem.run_bind]
    rfl
  rw [semAt_eq _ (by simp), e]
  exact h _ _ ha hw
theorem q_pb {id : Nat} {ch : List PanicEntry} (h : QP n D W Bo Q (.panic ch) F l) : QP n D W Bo (Exit.inBlock id Q) (.panic ch) F l := h
theorem q_pt {K : Act → World → Prop} {ch : List PanicEntry} (h : QP n D W Bo Q (.panic ch) F l) : QP n D W Bo (Exit.then K Q) (.panic ch) F l := h
theorem die {fn : Func} {R : Ending → World → Prop} {ch : List PanicEntry} (hR : ∀ w, St W Bo w l → R (.panicked ch) w) : QP n [] W Bo (bodyPost P fn R) (.panic ch) F l :=
  fun _ _ ha hw => ⟨ha.defers, hR _ hw⟩
theorem s_deferC {k : FuncId} {cs : List Value} {ts : Array TypeId} (h : LP none P n ({ target := .fn (.func k) cs.toArray, args := #[] } :: D) W Bo ops Q rest F l) (hx : evO F x = some (.func (.func k) #[] cs.toArray) := by rfl) :
    LP none P n D W Bo ops Q (⟨none, .defer ⟨.value x, #[], ts⟩, ty, ps, af, none⟩ :: rest) F l := by
  intro a w ha hw
  refine wpListIn_of (by simp [Region.wanted]) ?_
  refine ⟨fun f _ => trivial, ?_⟩
  have e : (Oper.semAt (Fw none).round a.eval ⟨none, .defer ⟨.value x, #[], ts⟩, ty, ps, af, none⟩).run P w = .ok (.defer { target := .fn (.func k) cs.toArray, args := #[] }) w := by
    rw [show (Fw none).round = none from rfl, Oper.semAt_none]
    simp [execOp, resolve, ha.eval hx, Deferred.ofValue]
  rw [e]
  exact h _ _ ⟨ha.size, by simp [Act.put, ha.defers], fun t v ht => ha.slot t v ht⟩ hw
def GivesD (P : Program) (k : FuncId) (args : List Value) (m : FrameMode) (w : World) (bo : List Nat) (m' : FrameMode) (lx : SH) : Prop :=
  CallsD P k args.toArray m w fun e u w' => e = .returned (.tuple #[]) ∧ u = m' ∧ St w bo w' lx
theorem ret_0D {fn : Func} {R : Ending → World → Prop} {rvs : List ResultVar} {vs : List Value} (hf : fn.results = rvs.toArray) (h : RVs P n W Bo F l rvs vs) (hR : ∀ w, St W Bo w l → R (.returned (outV vs)) w) :
    QP n [] W Bo (bodyPostD P fn R) .ret F l := by
  intro a w ha hw
  obtain ⟨_, h4⟩ := (ret_n hf h _ (.inl rfl) hR : QP n [] W Bo (bodyPost P fn R) .ret F l) a w ha hw
  show Leaves P fn a.tmps R a.defers .returning w
  rw [ha.defers]; exact h4
theorem leave_D {fn : Func} {R : Ending → World → Prop} {rvs : List ResultVar} {vs : List Value} {k : FuncId} [hk : HF P k] {cs : List Value} {m m' : FrameMode} {e : Exit}
    (he : ∀ (a : Act) (w : World), Leaves P fn a.tmps R a.defers m w → bodyPostD P fn R e a w) (hm : m ≠ .run) (hm' : settle m' = .returning)
    (hperm : l.Perm (ps0 ++ l2)) (hd : ∀ w, St W Bo w (ps0 ++ l2) → GivesD P k cs m w (keys ps0) m' lx)
    (hf : fn.results = rvs.toArray) (h : RVs P n W Bo F (lx ++ l2) rvs vs) (hR : ∀ w, St W Bo w (lx ++ l2) → R (.returned (outV vs)) w) :
    QP n [{ target := .fn (.func k) cs.toArray, args := #[] }] W Bo (bodyPostD P fn R) e F l := by
  intro a w ha hw
  refine he a w ?_
  rw [ha.defers]
  obtain ⟨fnd, bc, h1, h2, h3⟩ := hk.h
  have hi : (invoke (.fn (.func k) cs.toArray) #[]).run P w = .ok (.enter k cs.toArray) w := by
    have h4 : fnd.name ≠ "runtime.NumGoroutine" := by simpa using h3
    simp [invoke, callFunc, h1, h4, h2]
  refine leaves_cons (f := k) (args := cs.toArray) hm hi ?_
  refine (hd w (hw.perm hperm.symm)).mono fun e' u' w' ⟨h5, h6, h7⟩ => ?_
  subst h5 h6
  show Leaves P fn a.tmps R [] (settle _) w'
  rw [hm']
  have hw' := hw.transL hperm h7
  obtain ⟨_, h4⟩ := (ret_n hf h _ (.inl rfl) hR : QP n [] W Bo (bodyPost P fn R) .ret F (lx ++ l2)) { a with defers := [] } w' ⟨ha.size, rfl, ha.slot⟩ hw'
  exact h4
theorem leave_R {fn : Func} {R : Ending → World → Prop} {rvs : List ResultVar} {vs : List Value} {k : FuncId} [hk : HF P k] {cs : List Value}
    (hd : ∀ w, St W Bo w l → GivesD P k cs .returning w [] .returning [])
    (hf : fn.results = rvs.toArray) (h : RVs P n W Bo F l rvs vs) (hR : ∀ w, St W Bo w l → R (.returned (outV vs)) w) :
    QP n [{ target := .fn (.func k) cs.toArray, args := #[] }] W Bo (bodyPostD P fn R) .ret F l :=
  leave_D (ps0 := []) (l2 := l) (lx := []) (m := .returning) (m' := .returning) (fun _ _ h => h) (by simp) rfl (.refl _) hd hf h hR
theorem leave_P {fn : Func} {R : Ending → World → Prop} {rvs : List ResultVar} {vs : List Value} {k : FuncId} [hk : HF P k] {cs : List Value} {v : Value} {p p' : Res}
    (hd : ∀ w, St W Bo w (p :: l2) → GivesD P k cs (.panicking [{ v := v, recovered := false }]) w (keys [p]) (.panicking [{ v := v, recovered := true }]) [p'])
    (hf : fn.results = rvs.toArray) (hperm : l.Perm (p :: l2)) (h : RVs P n W Bo F (p' :: l2) rvs vs) (hR : ∀ w, St W Bo w (p' :: l2) → R (.returned (outV vs)) w) :
    QP n [{ target := .fn (.func k) cs.toArray, args := #[] }] W Bo (bodyPostD P fn R) (.panic [{ v := v, recovered := false }]) F l :=
  leave_D (ps0 := [p]) (l2 := l2) (lx := [p']) (m := .panicking [{ v := v, recovered := false }]) (m' := .panicking [{ v := v, recovered := true }]) (fun _ _ h => h) (by simp) rfl hperm hd hf h hR
theorem recov {k kc : FuncId} [hkc : HF P kc] {fn : Func} {t1 t2 : TypeId} {p1 p2 : String} {a1 a2 : Array Edge} {ts : Array TypeId} {id : Nat} (hf : P.funcs[k]? = some fn)
    (hb : fn.body = some (.region id #[⟨some 1, .call ⟨.builtin .recover, #[], #[]⟩, t1, p1, a1, none⟩, ⟨some 2, .call ⟨.value (.func kc), #[.tmp 1, .tmp 0], ts⟩, t2, p2, a2, none⟩] false))
    (hn : fn.ntmps = 3) (hr : fn.results = #[]) {q rv : Value} {m m' : FrameMode} {w : World} {bo : List Nat}
    (hm : (m = .returning ∧ m' = .returning ∧ rv = .nilIface) ∨ ∃ v, m = .panicking [{ v := v, recovered := false }] ∧ m' = .panicking [{ v := v, recovered := true }] ∧ rv = v)
    (hc : Gives P kc [rv, q] w bo (fun _ : Unit => .tuple #[]) (fun _ => lx) (fun _ => True)) : GivesD P k [q] m w bo m' lx := by
  refine callsD_of_wpS hf hb fun c₀ cs hu => ?_
  apply wpS_region
  have hrec : (match recoverD (c₀ :: cs) with | some (v, cs') => (v, cs') | none => (.nilIface, c₀ :: cs)) = (rv, { c₀ with mode := m' } :: cs) := by
    rcases hm with ⟨rfl, rfl, rfl⟩ | ⟨v, rfl, rfl, rfl⟩
    · simp only [recoverD, hu]
      rw [← hu]
    · simp only [recoverD, hu]
  have e1 : ∀ (a : Act), (execOp a.eval ⟨some 1, .call ⟨.builtin .recover, #[], #[]⟩, t1, p1, a1, none⟩).run P w = .ok .recover w := fun a => rfl
  obtain ⟨fnd, bc, h1, h2, h3⟩ := hkc.h
  have h4 : fnd.name ≠ "runtime.NumGoroutine" := by simpa using h3
  have e2 : ∀ (a : Act), a.tmps[0]? = some q → a.tmps[1]? = some rv → (execOp a.eval ⟨some 2, .call ⟨.value (.func kc), #[.tmp 1, .tmp 0], ts⟩, t2, p2, a2, none⟩).run P w = .ok (.enter kc [rv, q].toArray) w := fun a ha hb => by
    have e3 : a.eval (.tmp 1) = rv := by simp [Act.eval, Array.getD_eq_getD_getElem?, hb]
    have e4 : a.eval (.tmp 0) = q := by simp [Act.eval, Array.getD_eq_getD_getElem?, ha]
    simp [execOp, resolve, Deferred.ofValue, invoke, callFunc, h1, h4, h2, e3, e4, Act.eval]
    simp [Act.eval] at e3 e4
    simp [e3, e4]
  have hend : ∀ (cs' : List Frame) (a : Act), a.tmps[0]? = some q → a.tmps[1]? = some rv → a.defers = [] → cs' = { c₀ with mode := m' } :: cs →
      (Oper.upon P ⟨some 2, .call ⟨.value (.func kc), #[.tmp 1, .tmp 0], ts⟩, t2, p2, a2, none⟩ a (fun a' w' => bodyPostS P fn c₀ cs (fun e u w' => e = .returned (.tuple #[]) ∧ u = m' ∧ St w bo w' lx) .normal a' cs' w') (fun e a' w' => bodyPostS P fn c₀ cs (fun e u w' => e = .returned (.tuple #[]) ∧ u = m' ∧ St w bo w' lx) e a' cs' w') (.ok (.enter kc [rv, q].toArray) w)) := fun cs' a _ _ hd hcs => by
    show Calls P kc _ w _
    refine hc.mono fun e w' ⟨_, _, he, hw'⟩ => ?_
    subst he
    exact ⟨by simp [Act.put, hd], m', hcs, .tuple #[], by rw [results_eq, hr]; simp, rfl, rfl, hw'⟩
  have ht0 : (#[q] ++ Array.replicate (fn.ntmps - 1) undef : Array Value) = #[q, undef, undef] := by rw [hn]; rfl
  simp only [List.size_toArray, List.length_cons, List.length_nil, Nat.zero_add, ht0]
  show wpOpsS P _ _ [0, 1] _ _ w
  unfold wpOpsS
  simp only [List.getElem?_toArray, List.getElem?_cons_zero, Region.wanted, if_true, e1]
  have key : ∀ (v : Value) (cs' : List Frame), v = rv → cs' = { c₀ with mode := m' } :: cs → wpOpsS P #[⟨some 1, .call ⟨.builtin .recover, #[], #[]⟩, t1, p1, a1, none⟩, ⟨some 2, .call ⟨.value (.func kc), #[.tmp 1, .tmp 0], ts⟩, t2, p2, a2, none⟩] (bodyPostS P fn c₀ cs fun e u w' => e = .returned (.tuple #[]) ∧ u = m' ∧ St w bo w' lx) [1] (({ tmps := #[q, undef, undef], defers := [] } : Act).put (some 1) v) cs' w := fun v cs' hv hcs => by
    subst hv
    unfold wpOpsS
    simp only [List.getElem?_toArray, List.getElem?_cons_succ, List.getElem?_cons_zero, Region.wanted, if_true]
    rw [e2 _ rfl rfl]
    exact hend cs' _ rfl rfl rfl hcs
  cases hq : recoverD (c₀ :: cs) with
  | none => rw [hq] at hrec; simp only [Prod.mk.injEq] at hrec; exact key _ _ hrec.1 hrec.2
  | some y => obtain ⟨v, cs'⟩ := y; rw [hq] at hrec; simp only [Prod.mk.injEq] at hrec; exact key _ _ hrec.1 hrec.2
end
end Eng
end
section
namespace Go.Proofs.YtejdjnkilikehaaGreatDoor
open Go Eng Sha Cod
end Go.Proofs.YtejdjnkilikehaaGreatDoor
end
section
namespace Eng
open Go Go.RowKit
section
variable {P : Program} {n : Nat} {D : List Deferred} {W : World} {Bo : List Nat} {F : List (Nat × Value)} {l : SH}
  {d : Option Tmp} {ty : TypeId} {ps : String} {af : Array Edge} {g : Option (Nat × Bool)} {x y : Operand} {ta tb e : TypeId}
theorem run_part1 [hf : HT P e true] {by' : Nat} [hs : HS P e 1 by'] {cs : Array Value} {v : Value} {i : Nat} (hv : cs[i]? = some v) (w : World) : (part e cs i).run P w = .ok v w := by
  simp [part, run_isAgg hf, run_sizeOf' hs, hv]
theorem eqItems_b [hf : HT P e true] {by' : Nat} [hs : HS P e 1 by'] [hi : HU P e (.int .u8)] {p q : List UInt8} (w : World) : ∀ is : List Nat, (∀ i ∈ is, i < p.length ∧ i < q.length) →
    (Op.eqItems 9999 e 1 (bs p).toArray (bs q).toArray is).run P w = .ok (is.all fun i => p[i]? == q[i]?) w
  | [], _ => by simp [Op.eqItems]
  | i :: is, h => by
    obtain ⟨h1, h2⟩ := h i (.head _)
    have e1 : (bs p).toArray[i]? = some (B p[i]) := by rw [List.getElem?_toArray, bs_get h1]; simp [List.getD_eq_getElem?_getD, List.getElem?_eq_getElem h1]
    have e2 : (bs q).toArray[i]? = some (B q[i]) := by rw [List.getElem?_toArray, bs_get h2]; simp [List.getD_eq_getElem?_getD, List.getElem?_eq_getElem h2]
    have e3 : (Op.equalIn 9999 e (B p[i]) (B q[i])).run P w = .ok (((p[i].toNat : Nat) : Int) == ((q[i].toNat : Nat) : Int)) w := run_equalIn_int w 9998 e .u8 .u8 _ _ hi.h
    have e4 : (((p[i].toNat : Nat) : Int) == ((q[i].toNat : Nat) : Int)) = (p[i]? == q[i]?) := by
      rw [List.getElem?_eq_getElem h1, List.getElem?_eq_getElem h2]
      by_cases hpq : p[i] = q[i]
      · simp [hpq]
      · have : p[i].toNat ≠ q[i].toNat := fun e => hpq (UInt8.toNat_inj.1 e)
        have h5 : (((p[i].toNat : Nat) : Int) == ((q[i].toNat : Nat) : Int)) = false := by rw [beq_eq_false_iff_ne]; omega
        have h6 : (some p[i] == some q[i]) = false := by simpa using hpq
        rw [h5, h6]
    simp only [Op.eqItems, Sem.run_bind, Nat.mul_one, run_part1 e1, run_part1 e2, Result.andThen_ok, e3, List.all_cons, ← e4]
    cases ((p[i].toNat : Nat) : Int) == ((q[i].toNat : Nat) : Int) with
    | false => simp
    | true => simpa using eqItems_b w is fun j hj => h j (.tail _ hj)
theorem all_eq {p q : List UInt8} {m : Nat} (hp : p.length = m) (hq : q.length = m) : ((List.range m).all fun i => p[i]? == q[i]?) = decide (p = q) := by
  by_cases h : p = q
  · subst h; simp
  · rw [decide_eq_false h, List.all_eq_false]
    apply Classical.byContradiction
    intro hc
    refine h (List.ext_getElem? fun i => ?_)
    rcases Nat.lt_or_ge i m with hi | hi
    · apply Classical.byContradiction
      intro hne
      exact hc ⟨i, List.mem_range.2 hi, by simpa using hne⟩
    · rw [List.getElem?_eq_none (by omega), List.getElem?_eq_none (by omega)]
theorem run_eqa {m : Nat} [hu : HU P ta (.array m e)] [hf : HT P e true] {by' : Nat} [hs : HS P e 1 by'] [hi : HU P e (.int .u8)] {p q : List UInt8} (hp : p.length = m) (hq : q.length = m) (w : World) :
    (Op.equalIn 10000 ta (.agg (bs p).toArray) (.agg (bs q).toArray)).run P w = .ok (decide (p = q)) w := by
  obtain ⟨inf, h1, h2, h3⟩ := hs.h
  have h4 := run_equalIn_array w 9999 (bs p).toArray (bs q).toArray hu.h h1
  have h5 : P.cellsOf e = 1 := by simp [Program.cellsOf, h1, h2]
  rw [h5, eqItems_b w (List.range m) (fun i hi => by have := List.mem_range.1 hi; omega), all_eq hp hq] at h4
  exact h4
theorem y_eqla {m : Nat} [hu : HU P ta (.array m e)] [hf : HT P e true] {by' : Nat} [hs : HS P e 1 by'] [hi : HU P e (.int .u8)] {p q : List UInt8} (hp : p.length = m) (hq : q.length = m) (hgd : P.eqGuardType P.depth ta = false)
    (hx : evO F x = some (.agg (bs p).toArray) := by rfl) (hy : evO F y = some (.agg (bs q).toArray) := by rfl) : Y P n D W Bo ⟨d, .binOp .eql ta x y tb, ty, ps, af, g⟩ F l (.bool (decide (p = q))) :=
  .mk (by simp) fun ac w ha _ => by
    simp only [execOp, ha.eval hx, ha.eval hy, Sem.run_bind, run_eqGuard_agg w .eql ta x y _ _ hgd, Result.andThen_ok, run_eql_struct, run_eqa hp hq, Sem.run_pure]
theorem y_neqa {m : Nat} [hu : HU P ta (.array m e)] [hf : HT P e true] {by' : Nat} [hs : HS P e 1 by'] [hi : HU P e (.int .u8)] {p q : List UInt8} (hp : p.length = m) (hq : q.length = m) (hgd : P.eqGuardType P.depth ta = false)
    (hx : evO F x = some (.agg (bs p).toArray) := by rfl) (hy : evO F y = some (.agg (bs q).toArray) := by rfl) : Y P n D W Bo ⟨d, .binOp .neq ta x y tb, ty, ps, af, g⟩ F l (.bool (!decide (p = q))) :=
  .mk (by simp) fun ac w ha _ => by
    simp only [execOp, ha.eval hx, ha.eval hy, Sem.run_bind, run_eqGuard_agg w .neq ta x y _ _ hgd, Result.andThen_ok, run_neq_struct, run_eqa hp hq, Sem.run_pure]
end
end Eng
end
section
namespace Eng
open Go Go.RowKit
def K32 (l : List (List UInt8)) : Prop := ∀ k ∈ l, k.length = 32
theorem K32.nil : K32 [] := fun _ h => by cases h
theorem K32.one {k : List UInt8} (h : k.length = 32) : K32 [k] := fun x hx => by rw [List.mem_singleton] at hx; rw [hx]; exact h
theorem K32.get {l : List (List UInt8)} (h : K32 l) {i : Nat} (hi : i < l.length) : (l.getD i []).length = 32 := by
  rw [List.getD_eq_getElem?_getD, List.getElem?_eq_getElem hi]; exact h _ (List.getElem_mem hi)
theorem K32.drop {l : List (List UInt8)} (h : K32 l) (i : Nat) : K32 (l.drop i) := fun k hk => h k (List.mem_of_mem_drop hk)
section
variable {r : Option Nat} {P : Program} {n : Nat} {D : List Deferred} {W : World} {Bo : List Nat} {F : List (Nat × Value)} {l l' : SH}
  {d : Option Tmp} {dd : Nat} {ty : TypeId} {ps : String} {af : Array Edge} {g : Option (Nat × Bool)} {x y z : Operand} {v u : Value} {ta tb t e : TypeId}
  {Q : Exit → Act → World → Prop} {ops : Array Oper} {rest : List Oper} {td : TypeDesc} {c : Code}
section
variable {lp : SH} {fuel : Nat} {listed : Array Bool}
theorem r_kt {op : Op} {p : Prop} [dp : Decidable p] (i : Nat) (hi : ops[i]? = some ⟨some dd, op, ty, ps, af, g⟩) (hy : Y P n D W Bo ⟨some dd, op, ty, ps, af, g⟩ F lp (.bool (decide p))) (hp : p) (h : DC P n D W Bo ops Q lp fuel (listed.setIfInBounds i true) ((dd, .bool true) :: F) l)
    (hn : Nat.blt dd n = true := by rfl) (hg : Wn ops F g := by first | exact .none | exact .some rfl rfl)
    (hr : (Region.ready .any ops listed).contains i = true := by kernel_rfl) (hf : Region.free .any ops listed i = true := by kernel_rfl) : DC P n D W Bo ops Q lp (fuel + 1) listed F l :=
  r_y i hi hy (by rw [decide_eq_true hp]; exact h) hn hg hr hf
theorem r_kf {op : Op} {p : Prop} [dp : Decidable p] (i : Nat) (hi : ops[i]? = some ⟨some dd, op, ty, ps, af, g⟩) (hy : Y P n D W Bo ⟨some dd, op, ty, ps, af, g⟩ F lp (.bool (decide p))) (hp : ¬ p) (h : DC P n D W Bo ops Q lp fuel (listed.setIfInBounds i true) ((dd, .bool false) :: F) l)
    (hn : Nat.blt dd n = true := by rfl) (hg : Wn ops F g := by first | exact .none | exact .some rfl rfl)
    (hr : (Region.ready .any ops listed).contains i = true := by kernel_rfl) (hf : Region.free .any ops listed i = true := by kernel_rfl) : DC P n D W Bo ops Q lp (fuel + 1) listed F l :=
  r_y i hi hy (by rw [decide_eq_false hp]; exact h) hn hg hr hf
theorem r_nt {op : Op} {p : Prop} [dp : Decidable p] (i : Nat) (hi : ops[i]? = some ⟨some dd, op, ty, ps, af, g⟩) (hy : Y P n D W Bo ⟨some dd, op, ty, ps, af, g⟩ F lp (.bool (!decide p))) (hp : ¬ p) (h : DC P n D W Bo ops Q lp fuel (listed.setIfInBounds i true) ((dd, .bool true) :: F) l)
    (hn : Nat.blt dd n = true := by rfl) (hg : Wn ops F g := by first | exact .none | exact .some rfl rfl)
    (hr : (Region.ready .any ops listed).contains i = true := by kernel_rfl) (hf : Region.free .any ops listed i = true := by kernel_rfl) : DC P n D W Bo ops Q lp (fuel + 1) listed F l :=
  r_y i hi hy (by rw [decide_eq_false hp]; exact h) hn hg hr hf
theorem r_nf {op : Op} {p : Prop} [dp : Decidable p] (i : Nat) (hi : ops[i]? = some ⟨some dd, op, ty, ps, af, g⟩) (hy : Y P n D W Bo ⟨some dd, op, ty, ps, af, g⟩ F lp (.bool (!decide p))) (hp : p) (h : DC P n D W Bo ops Q lp fuel (listed.setIfInBounds i true) ((dd, .bool false) :: F) l)
    (hn : Nat.blt dd n = true := by rfl) (hg : Wn ops F g := by first | exact .none | exact .some rfl rfl)
    (hr : (Region.ready .any ops listed).contains i = true := by kernel_rfl) (hf : Region.free .any ops listed i = true := by kernel_rfl) : DC P n D W Bo ops Q lp (fuel + 1) listed F l :=
  r_y i hi hy (by rw [decide_eq_true hp]; exact h) hn hg hr hf
end
end
end Eng
namespace Go.Proofs.YtejdjnkilikehaaGreatDoor
open Go Eng Sha Cod
theorem hz32 {k : List UInt8} (h : k.length = 32) : (bs k).toArray.size = 32 := by simp [bs_length, h]
theorem hone32 (k : List UInt8) : ∀ u ∈ (bs k).toArray.toList, u.oneCell' = true := fun v hv => bs_one (by simpa using hv)
theorem mix_length (t a b : List UInt8) : (mix t a b).length = 32 := tagged_length _ _
abbrev lbItem : List UInt8 := [105, 116, 101, 109]
abbrev lbLink : List UInt8 := [108, 105, 110, 107]
end Go.Proofs.YtejdjnkilikehaaGreatDoor
end
section
namespace Eng
open Go Go.RowKit
section
variable {r : Option Nat} {P : Program} {n : Nat} {D : List Deferred} {W : World} {Bo : List Nat} {F : List (Nat × Value)} {l : SH} {d : Option Tmp} {ty : TypeId} {ps : String} {af : Array Edge} {g : Option (Nat × Bool)} {x y : Operand} {v : Value} {t ta tb : TypeId}
theorem y_ldin [hu : HT P t false] {s by' : Nat} [hs : HS P t s by'] {b off : Nat} {cs : Array Value} {et : TypeId} {fz : Nat × Nat} {ys : List Value} (hl : ys.length = s) (hv : ∀ j v, ys[j]? = some v → cs[off + j]? = some v)
    (hx : evO F x = some (.pointer (some ⟨b, off, none⟩)) := by rfl) (hm : Res.blk b (.cells cs et fz) ∈ l := by repeat (first | exact .head _ | apply List.Mem.tail)) : Y P n D W Bo ⟨d, .load t x, ty, ps, af, g⟩ F l (.agg ys.toArray) :=
  y_ld0 hx fun w hw => ld_agg hu hs hl fun j v h => by rw [addr_add, cell_of_row w b _ cs et fz (hw.own _ hm).1]; exact hv j v h
theorem y_mki {T : TypeId} (hx : evO F x = some v := by rfl) (hT : P.concrete T = true := by kernel_rfl) : Y P n D W Bo ⟨d, .makeInterface T x, ty, ps, af, g⟩ F l (.iface T v) :=
  .mk (by simp) fun a w ha _ => by simp only [execOp, ha.eval hx, Sem.run_bind, run_makeInterface w T v hT]; rfl
end
def be8 (n : Int) : List UInt8 := (List.range 8).map fun i => UInt8.ofNat ((n / 2 ^ (56 - 8 * i)) % 256).toNat
theorem be8_length (n : Int) : (be8 n).length = 8 := by simp [be8]
theorem be8_get (n : Int) {i : Nat} (h : i < 8) : (be8 n).getD i 0 = UInt8.ofNat ((n / 2 ^ (56 - 8 * i)) % 256).toNat := by
  rw [List.getD_eq_getElem?_getD, be8, List.getElem?_map, List.getElem?_range h]; rfl
def xr (k d : List UInt8) : List UInt8 := List.zipWith (· ^^^ ·) k d
theorem xr_length {k d : List UInt8} (h : k.length = d.length) : (xr k d).length = k.length := by simp [xr, h]
theorem xr_step {k d : List UInt8} {i : Nat} (h1 : i < k.length) (h2 : k.length = d.length) : (((xr k d).take i ++ k.drop i).set i (k.getD i 0 ^^^ d.getD i 0)) = (xr k d).take (i + 1) ++ k.drop (i + 1) := by
  have hx : (xr k d).length = k.length := xr_length h2
  have e : ((xr k d).take i).length = i := by simp [hx]; omega
  rw [List.set_append_right _ _ (by omega), e, Nat.sub_self, List.drop_eq_getElem_cons h1, List.set_cons_zero, take_snoc (xr k d) i 0 (by omega), List.append_assoc]
  congr 1
  rw [List.singleton_append]
  congr 1
  simp only [List.getD_eq_getElem?_getD]
  rw [List.getElem?_eq_getElem h1, List.getElem?_eq_getElem (show i < d.length by omega), List.getElem?_eq_getElem (by omega)]
  simp [xr]
theorem xr_at {k d : List UInt8} {i : Nat} (h1 : i < k.length) (h2 : k.length = d.length) : ((xr k d).take i ++ k.drop i).getD i 0 = k.getD i 0 := by
  have hx : (xr k d).length = k.length := xr_length h2
  have e : ((xr k d).take i).length = i := by simp [hx]; omega
  simp only [List.getD_eq_getElem?_getD]
  rw [List.getElem?_append_right (by omega), e, Nat.sub_self, List.getElem?_drop, Nat.add_zero]
theorem xr_xr {k d : List UInt8} (h : k.length = d.length) : xr (xr k d) d = k := by
  apply List.ext_getElem
  · simp [xr, h]
  · intro i h1 h2
    simp [xr, UInt8.xor_assoc]
end Eng
namespace Go.Proofs.YtejdjnkilikehaaGreatDoor
open Go Eng Gf Sha
abbrev lbPad : List UInt8 := [112, 97, 100]
def msk (m : Int) : List UInt8 := tagged lbPad (be8 m)
theorem msk_length (m : Int) : (msk m).length = 32 := tagged_length _ _
theorem cmb_length {k : List UInt8} (h : k.length = 32) (m : Int) : (xr k (msk m)).length = 32 := by rw [xr_length (by rw [h, msk_length]), h]
theorem combine_ok (w : World) (k : List UInt8) (m : Int) (hg : LS w) (hk : k.length = 32) (hm : R64 m) : Pure Tryz.prog 135 [.agg (bs k).toArray, I m] w (.agg (bs (xr k (msk m))).toArray) := by
  have h8 := be8_length m
  have hkd : k.length = (msk m).length := by rw [hk, msk_length]
  refine enter Tryz.func135 Tryz.ntmps135 ?_
  refine c_seq <| c_reg <| s_box rfl fun b2 => s_alloc fun b4 => s_nil <| q_then <| c_seq <| c_reg <| s_alloc fun b5 => s_nil <| q_then <| c_seq <| c_seq <| c_reg <| s_y y_mv <| s_nil <| q_then <| c_block <| ?_
  refine c_loop (fun i : Nat => [(1, I m), (2, .pointer (some ⟨b2, 0, none⟩)), (4, .pointer (some ⟨b4, 0, none⟩)), (5, .pointer (some ⟨b5, 0, none⟩)), (9, I i)]) (fun i => [.blk b5 (.cells (bs ((be8 m).take i ++ List.replicate (8 - i) 0)).toArray 185 (0, 0)), .blk b4 (.cells (List.replicate 32 (.int .u8 0)).toArray 24 (0, 0)), .blk b2 (.cells (bs k).toArray 24 (0, 0))]) (fun i => i ≤ 8) (fun i => 8 - i) 0 (by omega) ⟨rfl, rfl, rfl, rfl, rfl, trivial⟩ (by rw [show (bs ((be8 m).take 0 ++ List.replicate (8 - 0) 0)).toArray = (List.replicate 8 (.int .u8 0)).toArray from rfl]; exact .refl _) ?_
  intro i hi
  refine c_seq <| c_reg <| s_y (y_lss (p := i) (q := 8)) <| s_nil <| q_then <| c_seq <| c_ifd (fun h10 => ?_) (fun h10 => ?_)
  · have hi8 : i < 8 := by omega
    refine c_skip <| q_then <| c_seq <| c_block <| c_seq <| c_reg <| s_y y_mv <| s_y y_as <| s_nil <| q_then <| c_reg <| s_y y_mv <| s_y y_mv <| s_y y_mv <| s_y (y_sub (p := 7) (q := i)) <| s_y (y_mul (p := 8) (q := 7 - (i : Int))) <| ?_
    rw [show (8 : Int) * (7 - (i : Int)) = ((56 - 8 * i : Nat) : Int) by omega]
    refine s_y (y_sar (p := m) (q := ((56 - 8 * i : Nat) : Int))) <| ?_
    rw [Int.toNat_natCast]
    refine s_y y_cv8 <| s_y (y_ixa1 (i := i)) <| s_stb (b := b5) (off := 0 + i) (q := (be8 m).take i ++ List.replicate (8 - i) 0) (p := UInt8.ofNat ((m / 2 ^ (56 - 8 * i)) % 256).toNat) (hl := by simp [h8]; omega) ?_
    rw [Nat.zero_add i, set_fill (d := 0) (be8 m) i 8 0 _ (by omega) hi8 (be8_get m hi8)]
    refine s_nil <| q_nb <| q_then <| c_reg <| s_y (y_add (p := i) (q := 1)) <| s_y y_mv <| s_nil <| q_round (i + 1) (by omega) (by omega) ⟨rfl, rfl, rfl, rfl, rfl, trivial⟩ (List.Sublist.refl _)
  · obtain rfl : i = 8 := by omega
    rw [show (be8 m).take 8 ++ List.replicate (8 - 8) 0 = be8 m by rw [List.take_of_length_le (by omega)]; simp]
    refine c_exit <| q_ex <| q_ex <| q_exb <| q_then <| c_seq <| c_seq <| c_reg <| s_y y_sla <| s_pure (fun w' hw => by have h9 := digest_Tagged_ok w' lbPad (some ⟨b5, 0, none⟩) 8 (be8 m) (hg.st hw) (by decide) (rd_blkB (e := 185) (.head _) w' hw) (by omega); rw [h8] at h9; exact h9) <| s_y y_mv <| s_nil <| q_then <| c_block <| ?_
    refine c_loop (fun i : Nat => [(2, .pointer (some ⟨b2, 0, none⟩)), (4, .pointer (some ⟨b4, 0, none⟩)), (22, .agg (bs (msk m)).toArray), (23, I i)]) (fun i => [.blk b4 (.cells (List.replicate 32 (.int .u8 0)).toArray 24 (0, 0)), .blk b2 (.cells (bs ((xr k (msk m)).take i ++ k.drop i)).toArray 24 (0, 0))]) (fun i => i ≤ 32) (fun i => 32 - i) 0 (by omega) ⟨rfl, rfl, rfl, rfl, trivial⟩ (by rw [List.take_zero, List.nil_append, List.drop_zero]; exact .cons _ (.refl _)) ?_
    intro i hi
    refine c_seq <| c_reg <| s_y (y_lss (p := i) (q := 32)) <| s_nil <| q_then <| c_seq <| c_ifd (fun h24 => ?_) (fun h24 => ?_)
    · have hik : i < k.length := by omega
      have hml := msk_length m
      have hcl : ((xr k (msk m)).take i ++ k.drop i).length = 32 := by simp [cmb_length hk m]; omega
      refine c_skip <| q_then <| c_seq <| c_block <| c_seq <| c_reg <| s_y y_mv <| s_y (y_ixv (v := B ((msk m).getD i 0)) i (by rw [List.getElem?_toArray]; exact bs_get (by omega))) <| s_y y_as <| s_y y_as <| s_nil <| q_then <| c_reg <| s_y y_mv <| s_y (y_ixa1 (i := i)) <| s_y (y_ldbb (b := b2) (off := 0 + i) (q := (xr k (msk m)).take i ++ k.drop i) (hi := by omega)) <| ?_
      rw [Nat.zero_add i, xr_at hik hkd]
      refine s_y y_mv <| s_y (y_xor8 (p := k.getD i 0) (q := (msk m).getD i 0)) <| s_y (y_ixa1 (i := i)) <| s_stb (b := b2) (off := 0 + i) (q := (xr k (msk m)).take i ++ k.drop i) (p := k.getD i 0 ^^^ (msk m).getD i 0) (hl := by omega) ?_
      rw [Nat.zero_add i, xr_step hik hkd]
      refine s_nil <| q_nb <| q_then <| c_reg <| s_y (y_add (p := i) (q := 1)) <| s_y y_mv <| s_nil <| q_round (i + 1) (by omega) (by omega) ⟨rfl, rfl, rfl, rfl, trivial⟩ (List.Sublist.refl _)
    · obtain rfl : i = 32 := by omega
      rw [show (xr k (msk m)).take 32 ++ k.drop 32 = xr k (msk m) by rw [List.take_of_length_le (by rw [cmb_length hk]; exact Nat.le_refl _), List.drop_eq_nil_of_le (by omega), List.append_nil]]
      refine c_exit <| q_ex <| q_ex <| q_exb <| q_then <| c_seq <| c_reg <| s_y (y_lda (b := b2) (cs := (bs (xr k (msk m))).toArray) (hl := hz32 (cmb_length hk m))) <| s_sta (b := b4) (vs := (bs (xr k (msk m))).toArray) (cs := (List.replicate 32 (.int .u8 0)).toArray) (h1 := hone32 _) (hl := by rw [hz32 (cmb_length hk m)]; rfl) (hs1 := hz32 (cmb_length hk m)) ?_
      refine s_nil <| q_then <| c_ret <| ?_
      exact ret1 Tryz.results135 (rv_ca (hl := hz32 (cmb_length hk m))) fun w' hw => ⟨rfl, hw.sub (List.nil_sublist _)⟩
end Go.Proofs.YtejdjnkilikehaaGreatDoor
end
