/- Joined texts: DecW DecV DecL DecD DecN DecM DecI DecQ DecR DecS ItD ItE MapE. -/
import Derived.WalkKit
import Derived.TacticsInMore
import Derived.OrdersIn
import Derived.RangeFuncCalls
import Derived.Deep.LoopGhost
import Derived.Deep.Quiet
import Derived.KernelRfl
import Derived.Laws.BytesString
import Derived.Laws.StructEq
import Derived.MapKept
import Derived.Laws.IdiomStrings
import Derived.Recover
import Derived.RangeFuncLeaves
import Derived.ChangeKeysEq
import Derived.Laws.Build
import Derived.Stop.Asserts
import Derived.Maps.RangeRun
import Derived.ProofKit
import Derived.LaidMore
import Derived.LaidHandle
import Derived.OpenShut
import Derived.FnData
import Derived.SizedLaws
import Derived.ChangeMaps5
import Derived.Deep.Slices
import Derived.JoinedOf
import Derived.SevenTiedAt
import Derived.Test.YtejdjnkilikehaaGreatDoorChecked
import Derived.Test.YtejdjnkilikehaaGreatDoorRows
import Derived.Test.YtejdjnkilikehaaGreatDoorCards
import Derived.Test.YtejdjnkilikehaaGreatDoorTie
import Derived.Test.YtejdjnkilikehaaGreatDoorEn4
set_option linter.all false
section
namespace Eng
open Go Go.RowKit
section
variable {P : Program} {n : Nat} {D : List Deferred} {W : World} {Bo : List Nat} {F : List (Nat × Value)} {l : SH}
  {d : Option Tmp} {ty : TypeId} {ps : String} {af : Array Edge} {g : Option (Nat × Bool)} {x y z : Operand} {ta tb t e : TypeId}
theorem y_slhm [hu : HU P t (.slice e)] {s by' : Nat} [hs : HS P e s by'] {a : Option Addr} {m c : Nat} {k k' : IntKind} {j h : Int} (hx : evO F x = some (.slice a m c) := by rfl) (hy : evO F y = some (.int k j) := by rfl) (hz : evO F z = some (.int k' h) := by rfl)
    (h1 : 0 ≤ j := by omega) (h2 : j ≤ h := by omega) (h3 : h ≤ c := by omega) : Y P n D W Bo ⟨d, .slice t x none (some y) (some z), ty, ps, af, g⟩ F l (.slice a j.toNat h.toNat) :=
  .mk (by simp) fun ac w ha hw => by
    have e0 : (Instr.sliceBound (.int k' h) c .slice3Acap).run P w = .ok h.toNat w := run_sliceBound w k' h c _ (by omega) h3
    have e1 : (Instr.sliceBound (.int k j) h.toNat .slice3B).run P w = .ok j.toNat w := run_sliceBound w k j h.toNat _ (by omega) (by omega)
    have e2 := sa_zero (a := a) (c := h.toNat) (s := s)
    unfold sa at e2
    simp only [execOp, ha.eval hx, Option.map, ha.eval hy, ha.eval hz, Sem.run_bind, Instr.sliceAt, Instr.slice, run_underlying hu.h, Result.andThen_ok, Instr.sliceBounds, Sem.run_pure, if_true, e0, e1, run_sizeOf' hs]
    simp only [Option.map] at e2
    rw [e2]
    rfl
end
end Eng
namespace Cod
open Go Eng
/-- bytes that a reader has before it -/
structure RdX (w : World) (b : Nat) (a : Option Addr) (q : List UInt8) (c : Nat) : Prop where
  rd : Rd w a (bs q)
  le : q.length ≤ c
  ne : a.map (·.block) ≠ some b
theorem RdX.rds {W : World} {l : SH} {b c : Nat} {a : Option Addr} {q : List UInt8} (h : RdX W b a q c) : RdS W [b] l a (bs q) := rdW h.rd (by simpa using h.ne)
theorem RdX.drop {w : World} {b c : Nat} {a : Option Addr} {q : List UInt8} (h : RdX w b a q c) (k : Nat) (hk : k ≤ q.length) : RdX w b (sa a k c 1) (q.drop k) (c - k) where
  rd := by
    have h1 : RdS w [] [] (sa a k c 1) ((bs q).drop (k * 1)) := RdS.sa (rdW0 h.rd) (by rw [bs_length, Nat.mul_one]; exact h.le)
    rw [Nat.mul_one, ← bs_drop] at h1
    exact h1 w (St.refl w)
  le := by rw [List.length_drop]; have := h.le; omega
  ne := by rw [sa_block]; exact h.ne
theorem RdX.take {w : World} {b c : Nat} {a : Option Addr} {q : List UInt8} (h : RdX w b a q c) (k : Nat) : Rd w a (bs (q.take k)) := by rw [bs_take]; exact h.rd.take k
def Adv (b : Nat) (a : Option Addr) (q : List UInt8) (c : Nat) (a' : Option Addr) (q' : List UInt8) (c' : Nat) : Prop := ∀ w : World, RdX w b a q c → RdX w b a' q' c' ∧ c' ≤ c
theorem Adv.refl {b : Nat} {a : Option Addr} {q : List UInt8} {c : Nat} : Adv b a q c a q c := fun _ h => ⟨h, Nat.le_refl _⟩
theorem Adv.trans {b : Nat} {a a' a2 : Option Addr} {q q' q2 : List UInt8} {c c' c2 : Nat} (h : Adv b a q c a' q' c') (h' : Adv b a' q' c' a2 q2 c2) : Adv b a q c a2 q2 c2 := fun w hr =>
  ⟨(h' w (h w hr).1).1, Nat.le_trans (h' w (h w hr).1).2 (h w hr).2⟩
theorem Adv.drop {b : Nat} {a : Option Addr} {q : List UInt8} {c : Nat} (k : Nat) (hk : k ≤ q.length) : Adv b a q c (sa a k c 1) (q.drop k) (c - k) := fun _ h => ⟨h.drop k hk, Nat.sub_le _ _⟩
theorem lt64 {i p : Nat} (hi : i ≤ 9) (hp : p < 128) (h9 : i < 9 ∨ p ≤ 1) : p * 2 ^ (7 * i) < 18446744073709551616 := by
  rcases Nat.lt_or_ge i 9 with h | h
  · have h1 : 2 ^ (7 * i) ≤ 2 ^ 56 := Nat.pow_le_pow_right (by decide) (by omega)
    have h2 : p * 2 ^ (7 * i) ≤ 127 * 2 ^ 56 := Nat.mul_le_mul (by omega) h1
    omega
  · have : i = 9 := by omega
    subst this
    have h2 : p * 2 ^ (7 * 9) ≤ 1 * 2 ^ 63 := Nat.mul_le_mul (by omega) (Nat.le_refl _)
    omega
theorem sum7 {i p u : Nat} (hu : u < 2 ^ (7 * i)) (hp : p < 128) : u + p * 2 ^ (7 * i) < 2 ^ (7 * (i + 1)) := by
  rw [pw7]
  have : (p + 1) * 2 ^ (7 * i) ≤ 128 * 2 ^ (7 * i) := Nat.mul_le_mul (by omega) (Nat.le_refl _)
  rw [Nat.add_mul, Nat.one_mul] at this
  omega
theorem sum64 {i p u : Nat} (hi : i ≤ 9) (hu : u < 2 ^ (7 * i)) (hp : p < 128) (h9 : i < 9 ∨ p ≤ 1) : u + p * 2 ^ (7 * i) < 18446744073709551616 := by
  rcases Nat.lt_or_ge i 9 with h | h
  · have h1 := sum7 hu hp
    have h2 : 2 ^ (7 * (i + 1)) ≤ 2 ^ 63 := Nat.pow_le_pow_right (by decide) (by omega)
    omega
  · have : i = 9 := by omega
    subst this
    have h2 : p * 2 ^ (7 * 9) ≤ 1 * 2 ^ 63 := Nat.mul_le_mul (by omega) (Nat.le_refl _)
    have h3 : u < 2 ^ 63 := hu
    omega
theorem or_add {u p i : Nat} (h : u < 2 ^ i) : u ||| p * 2 ^ i = u + p * 2 ^ i := by
  have := Nat.shiftLeft_add_eq_or_of_lt h p
  rw [Nat.shiftLeft_eq] at this
  rw [Nat.or_comm, ← this, Nat.add_comm]
theorem and127 (x : Nat) : x &&& 127 = x % 128 := Nat.and_two_pow_sub_one_eq_mod x 7
end Cod
namespace Go.Proofs.YtejdjnkilikehaaGreatDoor
open Go Eng Cod
abbrev rblk (b : Nat) (a : Option Addr) (n c : Nat) : Res := .blk b (.cells #[.slice a n c] 140 (0, 0))
theorem want_ok (w : World) (v : Value) : Pure Tryz.prog 147 [v, .bool true] w (.tuple #[]) := by
  refine enter Tryz.func147 Tryz.ntmps147 ?_
  refine c_seq <| c_reg <| s_y y_mv <| s_y (v := .bool false) (y_not (b := true)) <| s_nil <| q_then <| c_f <| c_skip <| ?_
  exact ret0 Tryz.results147 (fun w' hw => ⟨rfl, hw⟩) _ (.inr rfl)
theorem take_ok (w : World) (b : Nat) (a : Option Addr) (n c k : Nat) (hk : k ≤ n) (hc : n ≤ c) (hm : c ≤ 9223372036854775807) (hp : (rblk b a n c).holds w) :
    Gives Tryz.prog 191 [.pointer (some ⟨b, 0, none⟩), I k] w [b] (fun _ : Unit => .slice a k k) (fun _ => [rblk b (sa a k c 1) (n - k) (c - k)]) (fun _ => True) := by
  refine enterR Tryz.func191 Tryz.ntmps191 hp ?_
  refine c_seq <| c_reg <| s_y y_as <| s_nil <| q_then <| c_seq <| c_reg <| s_y y_mv <| s_y y_mv <| s_y y_mv <| s_y y_nc <| s_y y_fa <| s_y (y_ld (v := .slice a n c)) <| s_y y_len <| s_kt (y_leq (p := (k : Int)) (q := (n : Int))) (by omega) <| s_pure (fun w' hw => want_ok w' _) <| s_nil <| q_then <| ?_
  refine c_seq <| c_reg <| s_y y_mv <| s_y y_nc <| s_y y_fa <| s_y (y_ld (v := .slice a n c)) <| s_y y_mv <| s_y y_mv <| s_y (y_slhm (j := (k : Int)) (h := (k : Int))) <| s_y y_as <| s_nil <| q_then <| ?_
  refine c_seq <| c_reg <| s_y y_mv <| s_y y_mv <| s_y y_nc <| s_y y_fa <| s_y (y_ld (v := .slice a n c)) <| s_y y_mv <| s_y (y_sll (i := (k : Int))) <| s_y y_nc <| s_y y_fa <| s_st (b := b) (v := .slice (sa a k c 1) (n - k) (c - k)) (cs := #[.slice a n c]) (hl := Nat.zero_lt_one) ?_
  refine s_nil <| q_then <| c_seq <| c_reg <| s_y y_mv <| s_y y_as <| s_nil <| q_then <| c_ret <| ?_
  exact ret1 Tryz.results191 rv_t fun w' hw => ⟨(), trivial, rfl, hw⟩
theorem number_ok (w : World) (b : Nat) (a : Option Addr) (c : Nat) (q : List UInt8) (N : Nat) (q' : List UInt8) (hr : RdX w b a q c) (hm : c ≤ 9223372036854775807) (hN : rdNum 0 0 q = some (N, q')) (hp : (rblk b a q.length c).holds w) :
    Gives Tryz.prog 193 [.pointer (some ⟨b, 0, none⟩)] w [b] (fun _ : Option Addr × Nat => U N) (fun x => [rblk b x.1 q'.length x.2]) (fun x => Adv b a q c x.1 q' x.2 ∧ N < 18446744073709551616) := by
  refine enterR Tryz.func193 Tryz.ntmps193 hp ?_
  refine c_seq <| c_reg <| s_y y_as <| s_nil <| q_then <| c_seq <| c_reg <| s_y y_as <| s_nil <| q_then <| c_block <| ?_
  refine c_loop (σ := Nat × Nat × List UInt8 × Option Addr × Nat) (fun x => [(0, .pointer (some ⟨b, 0, none⟩)), (2, U x.2.1), (3, I x.1)]) (fun x => [rblk b x.2.2.2.1 x.2.2.1.length x.2.2.2.2]) (fun x => rdNum x.1 x.2.1 x.2.2.1 = some (N, q') ∧ x.1 ≤ 9 ∧ x.2.1 < 2 ^ (7 * x.1) ∧ Adv b a q c x.2.2.2.1 x.2.2.1 x.2.2.2.2) (fun x => x.2.2.1.length) (0, 0, q, a, c) ⟨hN, Nat.zero_le _, Nat.zero_lt_one, .refl⟩ ⟨rfl, rfl, rfl, trivial⟩ (.refl _) ?_
  rintro ⟨i, u, q1, a1, c1⟩ ⟨h1, h2, h3, hA⟩
  simp only at h1 h2 h3 hA
  obtain ⟨h4, h5⟩ := hA w hr
  cases q1 with
  | nil => simp [rdNum] at h1
  | cons x q1 =>
  have hcnd : (i = 0 ∨ x.toNat ≠ 0) ∧ (i < 9 ∨ x.toNat ≤ 1) := Classical.byContradiction fun hn => by rw [rdNum, if_neg hn] at h1; cases h1
  rw [rdNum, if_pos hcnd] at h1
  obtain ⟨hg1, hg2⟩ := hcnd
  have hlt := x.toNat_lt
  have hle := h4.le
  rw [List.length_cons] at hle
  refine c_seq <| c_block <| c_seq <| c_reg <| s_y y_mv <| s_chg (b := b) (fun w' hw => take_ok w' b a1 (x :: q1).length c1 1 (by simp) h4.le (by omega) (hw.own _ (.head _)).1) (fun _ => .head _) (fun _ _ => ?_)
  have hd := hA.trans (Adv.drop 1 (by simp))
  refine s_y (y_ixs1 (xs := bs (x :: q1)) (hr := rdW h4.rd (by intro k hk; cases List.mem_singleton.1 hk; exact h4.ne)) (hl := by rw [bs_length]; simp)) <| s_y (y_ldb (q := x :: q1) (i := 0) (hr := rdW h4.rd (by intro k hk; cases List.mem_singleton.1 hk; exact h4.ne)) (hi := by simp)) <| ?_
  rw [show (x :: q1).getD 0 0 = x from rfl]
  refine s_y y_as <| s_nil <| q_then <| ?_
  refine c_join [(0, .pointer (some ⟨b, 0, none⟩)), (2, U u), (3, I i), (4, B x)] [rblk b (sa a1 1 c1 1) q1.length (c1 - 1)] ?_ ?_
  · have fin : ∀ F' : List (Nat × Value), Sub F' [(0, .pointer (some ⟨b, 0, none⟩)), (2, U u), (3, I i), (4, B x)] → True := fun _ _ => trivial
    by_cases hi0 : i = 0
    · subst hi0
      refine c_reg <| s_y y_mv <| s_y y_mv <| s_kt (y_eql (p := ((0 : Nat) : Int)) (q := 0)) (by omega) <| s_y y_mv <| s_no <| s_no <| s_y y_pk <| s_y y_mv <| s_y y_mv <| s_kt (y_lss (p := ((0 : Nat) : Int)) (q := 9)) (by omega) <| s_y y_mv <| s_no <| s_no <| s_y y_pk <| s_y y_pk <| s_pure (fun w' hw => want_ok w' _) <| s_nil <| ?_
      exact q_join ⟨rfl, rfl, rfl, rfl, trivial⟩ (.refl _)
    · have hx0 : x.toNat ≠ 0 := hg1.resolve_left hi0
      by_cases hi9 : i < 9
      · refine c_reg <| s_y y_mv <| s_y y_mv <| s_kf (y_eql (p := (i : Int)) (q := 0)) (by omega) <| s_y y_mv <| s_y y_mv <| s_nt (y_neq (p := (x.toNat : Int)) (q := 0)) (by omega) <| s_y y_pk <| s_y y_mv <| s_y y_mv <| s_kt (y_lss (p := (i : Int)) (q := 9)) (by omega) <| s_y y_mv <| s_no <| s_no <| s_y y_pk <| s_y y_pk <| s_pure (fun w' hw => want_ok w' _) <| s_nil <| ?_
        exact q_join ⟨rfl, rfl, rfl, rfl, trivial⟩ (.refl _)
      · have hx1 : x.toNat ≤ 1 := hg2.resolve_left hi9
        refine c_reg <| s_y y_mv <| s_y y_mv <| s_kf (y_eql (p := (i : Int)) (q := 0)) (by omega) <| s_y y_mv <| s_y y_mv <| s_nt (y_neq (p := (x.toNat : Int)) (q := 0)) (by omega) <| s_y y_pk <| s_y y_mv <| s_y y_mv <| s_kf (y_lss (p := (i : Int)) (q := 9)) (by omega) <| s_y y_mv <| s_y y_mv <| s_kt (y_leq (p := (x.toNat : Int)) (q := 1)) (by omega) <| s_y y_pk <| s_y y_pk <| s_pure (fun w' hw => want_ok w' _) <| s_nil <| ?_
        exact q_join ⟨rfl, rfl, rfl, rfl, trivial⟩ (.refl _)
  have h64 := lt64 (i := i) (p := x.toNat % 128) h2 (by omega) (by omega)
  have hu64 : u < 18446744073709551616 := by
    have := Nat.pow_le_pow_right (show 0 < 2 by decide) (show 7 * i ≤ 63 by omega)
    omega
  refine c_seq <| c_reg <| s_y y_mv <| s_y y_mv <| s_y (y_andn (k := .u8) (p := x.toNat) (q := 127) (hw := by rw [and127, wrap_u8]; omega)) <| ?_
  rw [and127]
  refine s_y (y_cvn (k := .u64) (p := ((x.toNat % 128 : Nat) : Int)) (hw := wrap_u64 (by omega) (by omega))) <| s_y y_mv <| s_y (y_mul (p := 7) (q := (i : Int))) <| ?_
  rw [show (7 : Int) * (i : Int) = ((7 * i : Nat) : Int) by omega]
  refine s_y (y_shlW (7 * i) (p := x.toNat % 128)) <| ?_
  rw [Nat.mod_eq_of_lt h64]
  refine s_y (y_orU (p := u) (q := x.toNat % 128 * 2 ^ (7 * i))) <| ?_
  rw [or_add h3]
  refine s_y y_as <| s_nil <| q_then <| c_seq <| c_reg <| s_y y_mv <| ?_
  by_cases h128 : x.toNat < 128
  · rw [if_pos h128] at h1
    simp only [Option.some.injEq, Prod.mk.injEq] at h1
    obtain ⟨rfl, rfl⟩ := h1
    rw [Nat.mod_eq_of_lt h128] at h64 ⊢
    refine s_kt (y_lss (p := (x.toNat : Int)) (q := 128)) (by omega) <| s_nil <| q_then <| c_t <| c_seq <| c_reg <| s_y y_mv <| s_y y_as <| s_nil <| q_then <| c_ret <| q_retb <| q_ret <| q_ret <| q_retb <| ?_
    exact ret1 Tryz.results193 rv_t fun w' hw => ⟨(sa a1 1 c1 1, c1 - 1), ⟨hd, sum64 h2 h3 h128 hg2⟩, rfl, hw⟩
  · rw [if_neg h128] at h1
    have e : x.toNat % 128 = x.toNat - 128 := by omega
    refine s_kf (y_lss (p := (x.toNat : Int)) (q := 128)) (by omega) <| s_nil <| q_then <| c_f <| c_skip <| q_nb <| q_then <| c_reg <| s_y y_mv <| s_y (y_add (p := (i : Int)) (q := 1)) <| s_y y_as <| s_nil <| ?_
    rw [show (i : Int) + 1 = ((i + 1 : Nat) : Int) by omega]
    refine q_round (i + 1, u + x.toNat % 128 * 2 ^ (7 * i), q1, sa a1 1 c1 1, c1 - 1) ⟨by rw [e]; exact h1, by show i + 1 ≤ 9; omega, sum7 h3 (by omega), hd⟩ (by simp) ⟨rfl, rfl, rfl, trivial⟩ (.refl _)
end Go.Proofs.YtejdjnkilikehaaGreatDoor
end
section
namespace Eng
open Go Go.RowKit
section
variable {r : Option Nat} {P : Program} {n : Nat} {D : List Deferred} {W : World} {Bo : List Nat} {F : List (Nat × Value)} {l l' : SH}
  {d : Option Tmp} {ty : TypeId} {ps : String} {af : Array Edge} {g : Option (Nat × Bool)} {x y z : Operand} {ta tb t e : TypeId}
  {Q : Exit → Act → World → Prop} {ops : Array Oper} {rest : List Oper} {c : Code}
theorem c_regG [hm : HM P] (lp : SH) (hlp : lp.Sublist l) (f : Nat) {id : Nat} {os : List Oper} (h : DF P n D W Bo os.toArray Q lp f os.length (Array.replicate os.length false) F l) (hs : Region.noSelect os.toArray = true := by kernel_rfl) :
    CP none P n D W Bo (.region id os.toArray true) Q F l := by
  intro a w ha hw
  have h1 := (h hs a w.drew ha hw.drew).any
  have h2 : (Code.region id os.toArray true).wpIn (Fw none) 0 P (Q0 Q) a w := wpIn_region_any hm.h (by simpa using h1)
  exact wpIn_mono h2 fun e a w hq => by obtain ⟨rfl, hq⟩ := hq; exact hq
theorem f_kk {lp : SH} {f fuel : Nat} {listed : Array Bool} (h : DF P n D W Bo ops Q lp f fuel listed F l) (hs : Region.noSelect ops = true := by kernel_rfl) : LP none P n D W Bo ops (QF P W Bo ops Q lp f fuel listed) [] F l :=
  s_nil fun a w ha hw => ⟨rfl, h hs a w ha hw⟩
theorem s_perm (hs : l'.Perm l) (h : LP r P n D W Bo ops Q rest F l') : LP r P n D W Bo ops Q rest F l := fun a w ha hw => h a w ha (hw.perm hs)
theorem y_xorm {p : Nat} {q : Int} (hx : evO F x = some (I (p : Int)) := by rfl) (hy : evO F y = some (I q) := by rfl) (hq : q = -1) (hp : p < 9223372036854775808) :
    Y P n D W Bo ⟨d, .binOp .xor ta x y tb, ty, ps, af, g⟩ F l (I (-(p : Int) - 1)) :=
  .mk (by simp) fun a w ha _ => by
    refine exec_bin P w w _ _ _ _ _ _ _ _ _ _ _ _ ⟨by simp, by simp⟩ ?_
    rw [ha.eval hx, ha.eval hy]
    subst hq
    simp only [binOp, ne_eq, not_true_eq_false, if_false, Op.intBits, Sem.run_pure]
    have e1 : (BitVec.ofInt IntKind.i64.bits (p : Int)).toNat = p := bitsn (k := .i64) (by simp only [IntKind.bits]; omega)
    have e2 : (BitVec.ofInt IntKind.i64.bits (-1)).toNat = 18446744073709551615 := by decide
    have e3 : (2 : Int) ^ IntKind.i64.bits = 18446744073709551616 := by decide
    have e4 : (2 : Int) ^ (IntKind.i64.bits - 1) = 9223372036854775808 := by decide
    have e5 : IntKind.i64.signed = true := rfl
    have e6 : IntKind.i64.wrap ((18446744073709551615 - p : Nat) : Int) = -(p : Int) - 1 := by
      simp only [IntKind.wrap, e3, e4, e5, Bool.true_and, decide_eq_true_eq]
      split <;> omega
    rw [BitVec.toNat_xor, e1, e2, xor_ones p (by omega), e6]
end
end Eng
namespace Cod
open Go Eng
theorem RdX.st {W w : World} {l : SH} {b c : Nat} {a : Option Addr} {q : List UInt8} (h : RdX W b a q c) (hs : St W [b] w l) : RdX w b a q c := ⟨h.rds w hs, h.le, h.ne⟩
def Vs (rs : SH) (v : V) (val : Value) : Prop := ∀ w : World, (∀ p ∈ rs, p.holds w) → Vv w v val
theorem Vs.mono {rs rs' : SH} {v : V} {val : Value} (h : Vs rs v val) (hs : ∀ p ∈ rs, p ∈ rs') : Vs rs' v val := fun w hw => h w fun p hp => hw p (hs p hp)
abbrev vval (v : V) (a : Option Addr) (c : Nat) : Value := .agg #[I v.k, I v.n, .string (sb v.s), .slice a v.l.length c]
theorem rdL_length {g : List UInt8 → Option (V × List UInt8)} : ∀ {n : Nat} {q q' : List UInt8} {L : List V}, rdL g n q = some (L, q') → L.length = n
  | 0, q, q', L, h => by simp only [rdL, Option.some.injEq, Prod.mk.injEq] at h; rw [← h.1]; rfl
  | n + 1, q, q', L, h => by
    rw [rdL] at h
    split at h
    · cases h
    · split at h
      · cases h
      · rename_i h2
        simp only [Option.some.injEq, Prod.mk.injEq] at h
        rw [← h.1, List.length_cons, rdL_length h2]
theorem rdL_cons {g : List UInt8 → Option (V × List UInt8)} {n : Nat} {q q' : List UInt8} {v : V} {L : List V} (h : rdL g (n + 1) q = some (v :: L, q')) : ∃ q2, g q = some (v, q2) ∧ rdL g n q2 = some (L, q') := by
  rw [rdL] at h
  split at h
  · cases h
  · rename_i v1 q2 h1
    split at h
    · cases h
    · rename_i h2
      simp only [Option.some.injEq, Prod.mk.injEq, List.cons.injEq] at h
      obtain ⟨⟨rfl, rfl⟩, rfl⟩ := h
      exact ⟨q2, h1, h2⟩
theorem rdNum_le : ∀ {q : List UInt8} {i u N : Nat} {q' : List UInt8}, rdNum i u q = some (N, q') → q'.length ≤ q.length
  | [], _, _, _, _, h => by simp [rdNum] at h
  | x :: q, i, u, N, q', h => by
    rw [rdNum] at h
    split at h
    · split at h
      · simp only [Option.some.injEq, Prod.mk.injEq] at h; rw [← h.2]; simp
      · have := rdNum_le h; rw [List.length_cons]; omega
    · cases h
theorem rdLen_inv {q q' : List UInt8} {N : Nat} (h : rdLen q = some (N, q')) : rdNum 0 0 q = some (N, q') ∧ N ≤ q'.length := by
  rw [rdLen] at h
  cases h1 : rdNum 0 0 q with
  | none => rw [h1] at h; cases h
  | some p =>
    obtain ⟨n, q1⟩ := p
    rw [h1] at h
    by_cases h2 : n ≤ q1.length
    · simp only [if_pos h2, Option.some.injEq, Prod.mk.injEq] at h
      obtain ⟨rfl, rfl⟩ := h
      exact ⟨rfl, h2⟩
    · simp only [if_neg h2] at h; cases h
structure LSt where
  j : Nat
  dn : List V
  td : List V
  q : List UInt8
  a : Option Addr
  c : Nat
  la : Option Addr
  lc : Nat
  cells : List Value
  rs : SH
theorem cells_old {cs ds : List Value} {m i : Nat} (h : cs.length = m * 4) (hi : i < m) : ((cs ++ ds).drop (i * 4)).take 4 = (cs.drop (i * 4)).take 4 := by
  rw [List.drop_append_of_le_length (by omega), List.take_append_of_le_length (by rw [List.length_drop]; omega)]
theorem cells_new {cs ds : List Value} {m : Nat} (h : cs.length = m * 4) (hd : ds.length = 4) : ((cs ++ ds).drop (m * 4)).take 4 = ds := by
  rw [← h, List.drop_left, List.take_of_length_le (by omega)]
end Cod
namespace Go.Proofs.YtejdjnkilikehaaGreatDoor
open Go Eng Cod
theorem signed_ok (w : World) (u : Nat) (hu : u < 18446744073709551616) : Pure Tryz.prog 192 [U u] w (I (sgn u)) := by
  refine enter Tryz.func192 Tryz.ntmps192 ?_
  refine c_seq <| c_reg <| s_y y_as <| s_nil <| q_then <| c_seq <| c_reg <| s_y y_mv <| s_y (y_shrW 1 (p := u)) <| s_y (y_cvn (k := .i64) (p := ((u / 2 ^ 1 : Nat) : Int)) (hw := wrap_i64 (by unfold R64; omega))) <| s_y y_mv <| s_y (y_andn (k := .u64) (p := u) (q := 1) (hw := by rw [Nat.and_one_is_mod]; exact wrap_u64 (by omega) (by omega))) <| ?_
  rw [Nat.and_one_is_mod, Nat.pow_one]
  refine s_y (y_cvn (k := .i64) (p := ((u % 2 : Nat) : Int)) (hw := wrap_i64 (by unfold R64; omega))) <| s_y (y_neg (p := ((u % 2 : Nat) : Int))) <| ?_
  by_cases h : u % 2 = 0
  · rw [sgn, if_pos h, h]
    refine s_y (y_xorn (k := .i64) (p := u / 2) (q := 0) (hw := by rw [Nat.xor_zero]; exact wrap_i64 (by unfold R64; omega))) <| ?_
    rw [Nat.xor_zero]
    refine s_y y_as <| s_nil <| q_then <| c_ret <| ?_
    exact ret1 Tryz.results192 rv_t fun w' hw => ⟨rfl, hw⟩
  · have h1 : u % 2 = 1 := by omega
    rw [sgn, if_neg h, h1]
    refine s_y (y_xorm (p := u / 2) (q := -((1 : Nat) : Int)) (hq := rfl) (hp := by omega)) <| s_y y_as <| s_nil <| q_then <| c_ret <| ?_
    exact ret1 Tryz.results192 rv_t fun w' hw => ⟨rfl, hw⟩
theorem length_ok (w : World) (b : Nat) (a : Option Addr) (c : Nat) (q : List UInt8) (N : Nat) (q' : List UInt8) (hr : RdX w b a q c) (hm : c ≤ 9223372036854775807) (hN : rdLen q = some (N, q')) (hp : (rblk b a q.length c).holds w) :
    Gives Tryz.prog 194 [.pointer (some ⟨b, 0, none⟩)] w [b] (fun _ : Option Addr × Nat => I N) (fun x => [rblk b x.1 q'.length x.2]) (fun x => Adv b a q c x.1 q' x.2 ∧ N ≤ q'.length) := by
  obtain ⟨h1, h2⟩ := rdLen_inv hN
  refine enterR Tryz.func194 Tryz.ntmps194 hp ?_
  refine c_seq <| c_reg <| s_y y_as <| s_nil <| q_then <| c_seq <| c_reg <| s_y y_mv <| s_chg (b := b) (fun w' hw => number_ok w' b a c q N q' (hr.st hw) hm h1 (hw.own _ (.head _)).1) (fun _ => .head _) (fun x hx => ?_)
  obtain ⟨hx1, hx2⟩ := hx
  have hx3 := (hx1 w hr).2
  have hx4 := (hx1 w hr).1.le
  refine s_y y_as <| s_nil <| q_then <| c_seq <| c_reg <| s_y y_mv <| s_y y_mv <| s_y y_mv <| s_y y_nc <| s_y y_fa <| s_y (y_ld (v := .slice x.1 q'.length x.2)) <| s_y y_len <| s_y (y_cvn (k := .u64) (p := ((q'.length : Nat) : Int)) (hw := wrap_u64 (by omega) (by omega))) <| s_kt (y_leq (p := ((N : Nat) : Int)) (q := ((q'.length : Nat) : Int))) (by omega) <| s_pure (fun w' hw => want_ok w' _) <| s_nil <| q_then <| ?_
  refine c_seq <| c_reg <| s_y y_mv <| s_y (y_cvn (k := .i64) (p := ((N : Nat) : Int)) (hw := wrap_i64 (by unfold R64; omega))) <| s_y y_as <| s_nil <| q_then <| c_ret <| ?_
  exact ret1 Tryz.results194 rv_t fun w' hw => ⟨x, ⟨hx1, h2⟩, rfl, hw⟩
end Go.Proofs.YtejdjnkilikehaaGreatDoor
end
section
namespace Cod
open Go Eng
theorem rdVal_inv {f : Nat} {x : UInt8} {q q' : List UInt8} {v : V} (h : rdVal f (x :: q) = some (v, q')) :
    (x.toNat = 1 ∧ ∃ u, rdNum 0 0 q = some (u, q') ∧ v = .mk 1 (sgn u) [] []) ∨ (x.toNat = 2 ∧ ∃ N q1, rdLen q = some (N, q1) ∧ v = .mk 2 0 (q1.take N) [] ∧ q' = q1.drop N) ∨
    (x.toNat = 3 ∧ ∃ f' N q1 L, f = f' + 1 ∧ rdLen q = some (N, q1) ∧ rdL (rdVal f') N q1 = some (L, q') ∧ v = .mk 3 0 [] L) := by
  by_cases h1 : x.toNat = 1
  · refine .inl ⟨h1, ?_⟩
    have h2 : (match rdNum 0 0 q with | some (u, q') => some (V.mk 1 (sgn u) [] [], q') | none => none) = some (v, q') := by
      cases f <;> (simp only [rdVal] at h; rwa [if_pos h1] at h)
    cases h3 : rdNum 0 0 q with
    | none => rw [h3] at h2; cases h2
    | some p =>
      obtain ⟨u, q1⟩ := p
      rw [h3] at h2
      simp only [Option.some.injEq, Prod.mk.injEq] at h2
      exact ⟨u, by rw [h2.2], h2.1.symm⟩
  by_cases h2 : x.toNat = 2
  · refine .inr (.inl ⟨h2, ?_⟩)
    have h4 : (match rdLen q with | some (n, q') => some (V.mk 2 0 (q'.take n) [], q'.drop n) | none => none) = some (v, q') := by
      cases f <;> (simp only [rdVal] at h; rwa [if_neg h1, if_pos h2] at h)
    cases h3 : rdLen q with
    | none => rw [h3] at h4; cases h4
    | some p =>
      obtain ⟨N, q1⟩ := p
      rw [h3] at h4
      simp only [Option.some.injEq, Prod.mk.injEq] at h4
      exact ⟨N, q1, rfl, h4.1.symm, h4.2.symm⟩
  cases f with
  | zero => simp only [rdVal] at h; rw [if_neg h1, if_neg h2] at h; cases h
  | succ f =>
    simp only [rdVal] at h
    rw [if_neg h1, if_neg h2] at h
    by_cases h3 : x.toNat = 3
    · rw [if_pos h3] at h
      refine .inr (.inr ⟨h3, f, ?_⟩)
      cases h4 : rdLen q with
      | none => rw [h4] at h; cases h
      | some p =>
        obtain ⟨N, q1⟩ := p
        rw [h4] at h
        simp only at h
        cases h5 : rdL (rdVal f) N q1 with
        | none => rw [h5] at h; cases h
        | some p =>
          obtain ⟨L, q2⟩ := p
          rw [h5] at h
          simp only [Option.some.injEq, Prod.mk.injEq] at h
          exact ⟨N, q1, L, rfl, rfl, by rw [h5, h.2], h.1.symm⟩
    · rw [if_neg h3] at h; cases h
theorem sgn_R64 {u : Nat} (h : u < 18446744073709551616) : R64 (sgn u) := by unfold sgn R64; split <;> omega
theorem rdLen_le {q q' : List UInt8} {N : Nat} (h : rdLen q = some (N, q')) : q'.length ≤ q.length := rdNum_le (rdLen_inv h).1
theorem rdL_le {g : List UInt8 → Option (V × List UInt8)} (hg : ∀ q v q', g q = some (v, q') → q'.length ≤ q.length) : ∀ (n : Nat) (q : List UInt8) (L : List V) (q' : List UInt8), rdL g n q = some (L, q') → q'.length ≤ q.length
  | 0, q, L, q', h => by simp only [rdL, Option.some.injEq, Prod.mk.injEq] at h; rw [h.2]; exact Nat.le_refl _
  | n + 1, q, L, q', h => by
    have hl := rdL_length h
    cases L with
    | nil => simp at hl
    | cons v L =>
      obtain ⟨q2, h1, h2⟩ := rdL_cons h
      exact Nat.le_trans (rdL_le hg n _ _ _ h2) (hg _ _ _ h1)
theorem rdVal_le (f : Nat) : ∀ (q : List UInt8) (v : V) (q' : List UInt8), rdVal f q = some (v, q') → q'.length ≤ q.length := by
  induction f using Nat.strongRecOn with
  | ind f ih =>
    intro q v q' h
    cases q with
    | nil => cases f <;> simp [rdVal] at h
    | cons x q =>
      rw [List.length_cons]
      rcases rdVal_inv h with ⟨_, u, h2, rfl⟩ | ⟨_, N, q1, h2, rfl, rfl⟩ | ⟨_, f', N, q1, L, rfl, h2, h3, rfl⟩
      · have := rdNum_le h2; omega
      · have := rdLen_le h2; rw [List.length_drop]; omega
      · have := rdLen_le h2; have := rdL_le (ih f' (by omega)) _ _ _ _ h3; omega
end Cod
namespace Go.Proofs.YtejdjnkilikehaaGreatDoor
open Go Eng Cod
set_option maxRecDepth 100000
theorem value_ok : ∀ (f : Nat) (w : World) (b : Nat) (a : Option Addr) (c : Nat) (q : List UInt8) (v : V) (q' : List UInt8), f ≤ 16 → RdX w b a q c → c ≤ 9223372036854775807 → q.length ≤ 2000000000000 → rdVal f q = some (v, q') → (rblk b a q.length c).holds w →
    Gives Tryz.prog 146 [.pointer (some ⟨b, 0, none⟩), I (16 - f : Nat)] w [b] (fun x : Option Addr × Nat × Option Addr × Nat × SH => vval v x.2.2.1 x.2.2.2.1) (fun x => rblk b x.1 q'.length x.2.1 :: x.2.2.2.2) (fun x => Adv b a q c x.1 q' x.2.1 ∧ Vs x.2.2.2.2 v (vval v x.2.2.1 x.2.2.2.1)) := by
  intro f
  induction f using Nat.strongRecOn with
  | ind f ih =>
  intro w b a c q v q' hf hr hm hq h hp
  cases q with
  | nil => cases f <;> simp [rdVal] at h
  | cons x q =>
  rw [List.length_cons] at hq
  refine enterR Tryz.func146 Tryz.ntmps146 hp ?_
  refine c_seq <| c_reg <| s_alloc fun b4 => s_nil <| q_then <| c_seq <| c_reg <| s_y y_mv <| s_chg (b := b) (fun w' hw => take_ok w' b a (x :: q).length c 1 (by simp) hr.le (by omega) (hw.own _ (.tail _ (.head _))).1) (fun _ => .tail _ (.head _)) (fun _ _ => ?_)
  have hA : Adv b a (x :: q) c (sa a 1 c 1) q (c - 1) := Adv.drop 1 (by simp)
  have hne : ∀ k ∈ keys [rblk b a (x :: q).length c], a.map (·.block) ≠ some k := by intro k hk; cases List.mem_singleton.1 hk; exact hr.ne
  refine s_y (y_ixs1 (xs := bs (x :: q)) (hr := rdW hr.rd hne) (hl := by rw [bs_length]; simp)) <| s_y (y_ldb (q := x :: q) (i := 0) (hr := rdW hr.rd hne) (hi := by simp)) <| ?_
  rw [show (x :: q).getD 0 0 = x from rfl]
  refine s_y (y_cvb (p := x)) <| s_y y_fa <| s_st (b := b4) (off := 0) (v := I x.toNat) (cs := #[I 0, I 0, .string (sb []), .slice none 0 0]) (hl := by decide) ?_
  refine s_nil <| q_then <| ?_
  rcases rdVal_inv h with ⟨h1, u, h2, rfl⟩ | ⟨h1, N, q1, h2, rfl, rfl⟩ | ⟨h1, f', N, q1, L, rfl, h2, h3, rfl⟩
  · rw [h1]
    refine c_seq <| c_seq <| c_reg <| s_y y_fa <| s_y (y_ld (v := I 1)) <| s_nil <| q_then <| c_block <| c_seq <| c_reg <| s_kt (y_eql (p := 1) (q := 1)) rfl <| s_y y_as <| s_nil <| q_then <| c_t <| c_reg <| s_y y_mv <| s_chg (b := b) (fun w' hw => number_ok w' b (sa a 1 c 1) (c - 1) q u q' ((hA w hr).1.st hw) (by omega) h2 (hw.own _ (.tail _ (.head _))).1) (fun _ => .tail _ (.head _)) (fun y hy => ?_)
    obtain ⟨hy1, hy2⟩ := hy
    refine s_pure (fun w' hw => signed_ok w' u hy2) <| s_y y_fa <| s_st (b := b4) (off := 1) (v := I (sgn u)) (cs := #[I 1, I 0, .string (sb []), .slice none 0 0]) (hl := by decide) ?_
    refine s_nil <| q_nb <| q_then <| c_seq <| c_reg <| s_y (y_lda (b := b4) (cs := #[I 1, I (sgn u), .string (sb []), .slice none 0 0]) (hl := rfl)) <| s_sta (b := b4) (vs := #[I 1, I (sgn u), .string (sb []), .slice none 0 0]) (cs := #[I 1, I (sgn u), .string (sb []), .slice none 0 0]) (h1 := by intro u hu; simp at hu; rcases hu with rfl | rfl | rfl | rfl <;> rfl) (hl := rfl) (hs1 := rfl) ?_
    refine s_nil <| q_then <| c_ret <| ?_
    refine ret1 Tryz.results146 (rv_ca (b := b4) (cs := #[I 1, I (sgn u), .string (sb []), .slice none 0 0]) (hl := rfl)) fun w' hw => ⟨(y.1, y.2, none, 0, []), ⟨hA.trans hy1, fun w2 _ => ?_⟩, rfl, hw.sub (.cons _ (.refl _))⟩
    rw [Vv]
    exact ⟨none, 0, [], rfl, sgn_R64 hy2, ⟨by simp, by simp⟩, Rd.nil _ _, rfl, fun i => i.elim0⟩
  · rw [h1]
    refine c_seq <| c_seq <| c_reg <| s_y y_fa <| s_y (y_ld (v := I 2)) <| s_nil <| q_then <| c_block <| c_seq <| c_reg <| s_kf (y_eql (p := 2) (q := 1)) (by decide) <| s_y y_as <| s_nil <| q_then <| c_f <| c_seq <| c_reg <| s_kt (y_eql (p := 2) (q := 2)) rfl <| s_y y_as <| s_nil <| q_then <| c_t <| c_reg <| s_y y_mv <| s_y y_mv <| s_chg (b := b) (fun w' hw => length_ok w' b (sa a 1 c 1) (c - 1) q N q1 ((hA w hr).1.st hw) (by omega) h2 (hw.own _ (.tail _ (.head _))).1) (fun _ => .tail _ (.head _)) (fun y hy => ?_)
    obtain ⟨hy1, hy2⟩ := hy
    have hA2 := hA.trans hy1
    have hr2 := (hA2 w hr).1
    have hle := (hA2 w hr).2
    refine s_chg (b := b) (fun w' hw => take_ok w' b y.1 q1.length y.2 N hy2 hr2.le (by omega) (hw.own _ (.tail _ (.head _))).1) (fun _ => .tail _ (.head _)) (fun _ _ => ?_)
    have hq1 := rdLen_le h2
    refine s_y (y_b2s (q := q1.take N) (hr := rdW (hr2.take N) (by intro k hk; cases List.mem_singleton.1 hk; exact hr2.ne)) (hm := by rw [List.length_take]; omega)) <| s_y y_fa <| s_st (b := b4) (off := 2) (v := .string (sb (q1.take N))) (cs := #[I 2, I 0, .string (sb []), .slice none 0 0]) (hl := by decide) ?_
    refine s_nil <| q_nb <| q_then <| c_seq <| c_reg <| s_y (y_lda (b := b4) (cs := #[I 2, I 0, .string (sb (q1.take N)), .slice none 0 0]) (hl := rfl)) <| s_sta (b := b4) (vs := #[I 2, I 0, .string (sb (q1.take N)), .slice none 0 0]) (cs := #[I 2, I 0, .string (sb (q1.take N)), .slice none 0 0]) (h1 := by intro u hu; simp at hu; rcases hu with rfl | rfl | rfl | rfl <;> rfl) (hl := rfl) (hs1 := rfl) ?_
    refine s_nil <| q_then <| c_ret <| ?_
    rw [show q1.length - N = (q1.drop N).length by rw [List.length_drop]]
    refine ret1 Tryz.results146 (rv_ca (b := b4) (cs := #[I 2, I 0, .string (sb (q1.take N)), .slice none 0 0]) (hl := rfl)) fun w' hw => ⟨(sa y.1 N y.2 1, y.2 - N, none, 0, []), ⟨hA2.trans (Adv.drop N hy2), fun w2 _ => ?_⟩, rfl, hw.sub (.cons _ (.refl _))⟩
    rw [Vv]
    exact ⟨none, 0, [], rfl, by unfold R64; omega, ⟨by rw [List.length_take]; omega, by simp⟩, Rd.nil _ _, rfl, fun i => i.elim0⟩
  · rw [h1]
    refine c_seq <| c_seq <| c_reg <| s_y y_fa <| s_y (y_ld (v := I 3)) <| s_nil <| q_then <| c_block <| c_seq <| c_reg <| s_kf (y_eql (p := 3) (q := 1)) (by decide) <| s_y y_as <| s_nil <| q_then <| c_f <| c_seq <| c_reg <| s_kf (y_eql (p := 3) (q := 2)) (by decide) <| s_y y_as <| s_nil <| q_then <| c_f <| c_seq <| c_reg <| s_kt (y_eql (p := 3) (q := 3)) rfl <| s_y y_as <| s_nil <| q_then <| c_t <| c_seq <| c_reg <| s_y y_mv <| s_y y_mv <| s_kt (y_lss (p := ((16 - (f' + 1) : Nat) : Int)) (q := 16)) (by omega) <| s_pure (fun w' hw => want_ok w' _) <| s_nil <| q_then <| c_seq <| c_reg <| s_y y_mv <| s_chg (b := b) (fun w' hw => length_ok w' b (sa a 1 c 1) (c - 1) q N q1 ((hA w hr).1.st hw) (by omega) h2 (hw.own _ (.tail _ (.head _))).1) (fun _ => .tail _ (.head _)) (fun y hy => ?_)
    obtain ⟨hy1, hy2⟩ := hy
    have hA2 := hA.trans hy1
    have hq1 := rdLen_le h2
    have hLn := rdL_length h3
    refine s_y y_mv <| s_nil <| q_then <| c_nilrow 76 4 <| c_perm (.swap _ _ _) <| c_block <| ?_
    refine c_loop (fun s : LSt => [(0, .pointer (some ⟨b, 0, none⟩)), (1, I (16 - (f' + 1) : Nat)), (4, .pointer (some ⟨b4, 0, none⟩)), (36, I N), (37, I s.j)])
      (fun s => .blk b4 (.cells #[I 3, I 0, .string (sb []), .slice s.la s.j s.lc] 76 (0, 0)) :: .row s.la s.lc 76 4 s.j s.cells :: rblk b s.a s.q.length s.c :: s.rs)
      (fun s => rdL (rdVal f') s.td.length s.q = some (s.td, q') ∧ s.dn ++ s.td = L ∧ Adv b a (x :: q) c s.a s.q s.c ∧ s.q.length ≤ q.length ∧ s.dn.length = s.j ∧ s.cells.length = s.j * 4 ∧ ∀ (i : Nat) (hi : i < s.dn.length), Vs s.rs s.dn[i] (.agg ((s.cells.drop (i * 4)).take 4).toArray))
      (fun s => s.td.length) ⟨0, [], L, q1, y.1, y.2, none, 0, [], []⟩ ⟨by rw [hLn]; exact h3, rfl, hA2, hq1, rfl, rfl, fun i hi => absurd hi (Nat.not_lt_zero _)⟩ ⟨rfl, rfl, rfl, rfl, rfl, trivial⟩ (.refl _) ?_
    rintro ⟨j, dn, td, q2, a2, c2, la, lc, cells, rs⟩ ⟨i1, i2, i3, i4, i7, i5, i6⟩
    simp only at i1 i2 i3 i4 i7 i5 i6
    have hj : j + td.length = N := by rw [← hLn, ← i2, List.length_append, i7]
    obtain ⟨hr3, hc3⟩ := i3 w hr
    by_cases hlt : j < N
    · cases td with
      | nil => rw [List.length_nil] at hj; omega
      | cons v td =>
      rw [List.length_cons] at hj
      obtain ⟨q3, j1, j2⟩ := rdL_cons i1
      have hq3 := rdVal_le _ _ _ _ j1
      refine c_seq <| c_reg <| s_kt (y_lss (p := ((j : Nat) : Int)) (q := ((N : Nat) : Int))) (by omega) <| s_nil <| q_then <| c_seq <| c_t <| c_skip <| q_then <| c_seq <| c_block <| ?_
      refine c_regG [.blk b4 (.cells #[I 3, I 0, .string (sb []), .slice la j lc] 76 (0, 0))] (List.Sublist.cons_cons _ (List.nil_sublist _)) 9 <| f_y 0 rfl y_fa <| f_y 2 rfl y_mv <| f_y 3 rfl y_mv <| f_y 4 rfl (y_add (p := ((16 - (f' + 1) : Nat) : Int)) (q := 1)) <| f_y 1 rfl (y_ld (v := .slice la j lc)) <| ?_
      rw [show ((16 - (f' + 1) : Nat) : Int) + 1 = ((16 - f' : Nat) : Int) by omega]
      refine f_w 5 rfl (s_chg (b := b) (fun w' hw => ih f' (by omega) w' b a2 c2 q2 v q3 (by omega) (hr3.st hw) (by omega) (by omega) j1 (hw.own _ (.tail _ (.tail _ (.head _)))).1) (fun _ => .tail _ (.tail _ (.head _))) (fun z hz => s_perm (List.perm_append_comm_assoc [_, _, _] _ _) (f_kk ?_))) (hsub := List.Sublist.cons_cons _ (List.nil_sublist _))
      obtain ⟨a3, c3, va, vc, rs3⟩ := z
      obtain ⟨hz1, hz2⟩ := hz
      simp only at hz1 hz2
      refine f_w 6 rfl (s_bslr (cs := [I v.k, I v.n, .string (sb v.s), .slice va v.l.length vc]) fun b45 => f_kk ?_) (hsub := List.Sublist.cons_cons _ (List.nil_sublist _))
      refine f_w 7 rfl (s_app (m := 1) (fun w' hw => Src.slice (rdR (.head _) w' hw) rfl) (h1 := fun v hv => by simp at hv; rcases hv with rfl | rfl | rfl | rfl <;> rfl) (hm := .tail _ (.tail _ (.head _))) (hrep := fun _ _ => .tail _ (.tail _ (.head _))) (hfit := by show j + 1 ≤ maxLen; unfold maxLen; omega) (hby := by show (j + 1) * 56 ≤ 140737488355328; omega) fun a46 c46 h46 => f_kk ?_) (hsub := List.Sublist.cons _ (List.Sublist.cons_cons _ (List.nil_sublist _)))
      refine f_y 8 rfl y_fa <| f_w 9 rfl (s_st (b := b4) (off := 3) (v := .slice a46 (j + 1) c46) (cs := #[I 3, I 0, .string (sb []), .slice la j lc]) (hl := show 3 < 4 by decide) <| f_z <| q_nb <| q_then <| c_reg <| s_y (y_add (p := ((j : Nat) : Int)) (q := 1)) <| s_y y_mv <| s_nil <| ?_) (hsub := List.Sublist.cons _ (List.Sublist.cons_cons _ (List.nil_sublist _)))
      rw [show ((j : Nat) : Int) + 1 = ((j + 1 : Nat) : Int) by omega]
      refine q_round ⟨j + 1, dn ++ [v], td, q3, a3, c3, a46, c46, cells ++ [I v.k, I v.n, .string (sb v.s), .slice va v.l.length vc], rs3 ++ rs⟩ ⟨j2, by rw [← i2, List.append_assoc]; rfl, i3.trans hz1, Nat.le_trans hq3 i4, by rw [List.length_append, i7]; rfl, by rw [List.length_append, i5]; show j * 4 + 4 = (j + 1) * 4; omega, ?_⟩ (Nat.lt_succ_self _) ⟨rfl, rfl, rfl, rfl, rfl, trivial⟩ (.cons _ (.refl _))
      intro i hi
      rw [List.length_append, i7] at hi
      have hi : i < j + 1 := hi
      rcases Nat.lt_or_ge i j with h9 | h9
      · rw [List.getElem_append_left (by omega), cells_old i5 h9]
        exact (i6 i (by omega)).mono fun p hp => List.mem_append_right _ hp
      · obtain rfl : i = j := by omega
        rw [cells_new i5 rfl]
        have e : (dn ++ [v])[i]'(by rw [List.length_append, i7]; exact hi) = v := by simp [← i7]
        rw [e]
        exact hz2.mono fun p hp => List.mem_append_left _ hp
    · obtain rfl : td = [] := List.length_eq_zero_iff.1 (by omega)
      rw [List.length_nil, Nat.add_zero] at hj
      subst hj
      rw [List.append_nil] at i2
      subst i2
      simp only [List.length_nil, rdL, Option.some.injEq, Prod.mk.injEq, true_and] at i1
      subst i1
      refine c_seq <| c_reg <| s_kf (y_lss (p := ((j : Nat) : Int)) (q := ((j : Nat) : Int))) (by omega) <| s_nil <| q_then <| c_seq <| c_f <| c_exit <| q_ex <| q_ex <| q_exb <| q_nb <| q_then <| c_seq <| c_reg <| s_y (y_lda (b := b4) (cs := #[I 3, I 0, .string (sb []), .slice la j lc]) (hl := rfl)) <| s_sta (b := b4) (vs := #[I 3, I 0, .string (sb []), .slice la j lc]) (cs := #[I 3, I 0, .string (sb []), .slice la j lc]) (h1 := by intro u hu; simp at hu; rcases hu with rfl | rfl | rfl | rfl <;> rfl) (hl := rfl) (hs1 := rfl) ?_
      refine s_nil <| q_then <| c_ret <| ?_
      refine ret1 Tryz.results146 (rv_ca (b := b4) (cs := #[I 3, I 0, .string (sb []), .slice la j lc]) (hl := rfl)) fun w' hw => ⟨(a2, c2, la, lc, .row la lc 76 4 j cells :: rs), ⟨i3, fun w2 hw2 => ?_⟩, by rw [← i7]; rfl, (hw.sub (.cons _ (.refl _))).perm (.swap _ _ _)⟩
      rw [Vv]
      exact ⟨la, lc, cells, rfl, by unfold R64; omega, ⟨by simp, by omega⟩, Res.rd (hw2 _ (.head _)), by rw [i5, i7], fun i => i6 i.val i.isLt w2 fun p hp => hw2 p (.tail _ hp)⟩
end Go.Proofs.YtejdjnkilikehaaGreatDoor
end
section
namespace Go.Proofs.YtejdjnkilikehaaGreatDoor
open Go Eng Cod
set_option maxRecDepth 100000
theorem decode_idle (w : World) (b2 b3 : Nat) : GivesD Tryz.prog 145 [.pointer (some ⟨b2, 0, none⟩), .pointer (some ⟨b3, 0, none⟩)] .returning w [] .returning [] := by
  have hnn : ∀ w : World, (binOp .neq 20 .nilIface .nilIface).run Tryz.prog w = .ok (.bool false) w := fun _ => by kernel_rfl
  refine callsD_of_wpS Tryz.func145 rfl fun c₀ cs hu => ?_
  apply wpS_seq
  apply wpS_region
  simp [wpOpsS, go_sem, recoverD, hu, Tryz.ntmps145, Exit.thenS]
  apply wpS_seq
  apply wpS_region
  simp [wpOpsS, go_sem, hnn, Exit.thenS, Act.eval, Act.put]
  refine wpS_cond (t := false) (by simp [Act.eval, Array.replicate]) ?_
  simp only [Bool.false_eq_true, if_false]
  refine wpS_of_wp (wp_skip ?_)
  cases c₀
  simp_all [bodyPostS, results, Tryz.results145]
  exact St.refl w
theorem Decode_ok (w : World) (a : Option Addr) (c : Nat) (q : List UInt8) (v : V) (hr : Rd w a (bs q)) (hc : q.length ≤ c) (hm : c ≤ 9223372036854775807) (hq : q.length ≤ 2000000000000) (h : rdVal 16 q = some (v, [])) :
    Gives Tryz.prog 70 [.slice a q.length c] w [] (fun x : Option Addr × Nat × SH => .tuple #[vval v x.1 x.2.1, I 0]) (fun x => x.2.2) (fun x => Vs x.2.2 v (vval v x.1 x.2.1)) := by
  refine enterD Tryz.func70 Tryz.ntmps70 ?_
  refine c_seq <| c_reg <| s_alloc fun b2 => s_alloc fun b3 => s_nil <| q_then <| c_seq <| c_reg <| s_y y_func <| s_deferC <| s_nil <| q_then <| ?_
  have hne : bs q ≠ [] := by
    cases q with
    | nil => simp [rdVal] at h
    | cons x q => exact List.cons_ne_nil _ _
  refine c_seq <| c_reg <| s_y y_mv <| s_y (y_blds (places := #[(0, 1)]) (cs := [.slice a q.length c]) Tryz.underlying140 (fun w => by kernel_rfl)) <| s_box rfl fun b8 => s_y y_as <| s_nil <| q_then <| ?_
  refine c_seq <| c_reg <| s_y y_mv <| s_chg (b := b8) (fun w' hw => value_ok 16 w' b8 a c q v [] (Nat.le_refl _) ⟨hr.st hw, hc, hr.apart hne hw.new⟩ hm hq h (hw.own _ (.head _)).1) (fun _ => .head _) (fun z hz => s_perm (List.perm_append_comm_assoc [_, _, _] _ _) ?_)
  obtain ⟨a3, c3, va, vc, rs3⟩ := z
  obtain ⟨hz1, hz2⟩ := hz
  simp only at hz1 hz2
  refine s_sta (b := b2) (vs := #[I v.k, I v.n, .string (sb v.s), .slice va v.l.length vc]) (cs := #[I 0, I 0, .string (sb []), .slice none 0 0]) (h1 := by intro u hu; simp at hu; rcases hu with rfl | rfl | rfl | rfl <;> rfl) (hl := rfl) (hs1 := rfl) ?_
  refine s_nil <| q_then <| c_seq <| c_reg <| s_y y_mv <| s_y y_mv <| s_y y_nc <| s_y y_fa <| s_y (y_ld (v := .slice a3 0 c3)) <| s_y y_len <| s_kt (y_eql (p := ((0 : Nat) : Int)) (q := 0)) rfl <| s_pure (fun w' hw => want_ok w' _) <| s_nil <| q_then <| ?_
  refine c_seq <| c_reg <| s_y (y_lda (b := b2) (cs := #[I v.k, I v.n, .string (sb v.s), .slice va v.l.length vc]) (hl := rfl)) <| s_sta (b := b2) (vs := #[I v.k, I v.n, .string (sb v.s), .slice va v.l.length vc]) (cs := #[I v.k, I v.n, .string (sb v.s), .slice va v.l.length vc]) (h1 := by intro u hu; simp at hu; rcases hu with rfl | rfl | rfl | rfl <;> rfl) (hl := rfl) (hs1 := rfl) ?_
  refine s_st (b := b3) (v := I 0) (cs := #[I 0]) (hl := Nat.zero_lt_one) ?_
  refine s_nil <| q_then <| c_ret <| ?_
  exact leave_R (cs := [.pointer (some ⟨b2, 0, none⟩), .pointer (some ⟨b3, 0, none⟩)]) (fun w' hw => decode_idle w' b2 b3) Tryz.results70 (.cons (rv_ca (b := b2) (cs := #[I v.k, I v.n, .string (sb v.s), .slice va v.l.length vc]) (hl := rfl)) (.cons (rv_cf (b := b3) (v := I 0)) .nil)) fun w' hw => ⟨(va, vc, rs3), hz2, rfl, hw.sub (.cons _ (.cons _ (.cons _ (by rw [List.append_nil]; exact .refl _))))⟩
end Go.Proofs.YtejdjnkilikehaaGreatDoor
end
section
namespace Eng
open Go Go.RowKit
section
variable {r : Option Nat} {P : Program} {n : Nat} {D : List Deferred} {W : World} {Bo : List Nat} {F : List (Nat × Value)} {l l' lp : SH} {f fuel : Nat} {listed : Array Bool}
  {d : Option Tmp} {dd : Nat} {ty : TypeId} {ps : String} {af : Array Edge} {g : Option (Nat × Bool)} {x y z : Operand} {v u : Value} {ta tb t e : TypeId}
  {Q : Exit → Act → World → Prop} {ops : Array Oper} {rest : List Oper} {c : Code} {Z : List PanicEntry → World → Prop}
def DiesB (P : Program) (k : FuncId) (args : List Value) (w : World) (b : Nat) {σ : Type} (o' : σ → Obj) (v : Value) : Prop :=
  Calls P k args.toArray w fun e w' => e = .panicked [{ v := v, recovered := false }] ∧ ∃ x : σ, St w [b] w' [.blk b (o' x)]
theorem s_diesB {k : FuncId} [hf : HF P k] {fo : Operand} {fs cs vs args : List Value} {ao : Array Operand} {ts : Array TypeId} {σ : Type} {b : Nat} {o : Obj} {o' : σ → Obj} {l1 : σ → SH}
    (hc : ∀ w, St W Bo w l → DiesB P k args w b o' v) (hrep : ∀ x, Rep (.blk b o) (.blk b (o' x)) l (l1 x))
    (h : ∀ x, QP n D W Bo Q (.panic [{ v := v, recovered := false }]) F (l1 x))
    (hfo : evO F fo = some (.func (.func k) fs.toArray cs.toArray) := by rfl) (hargs : evL F ao.toList = some vs := by rfl) (hap : args = fs ++ vs ++ cs := by rfl) (hg : Wn ops F g := by first | exact .none | exact .some rfl rfl) :
    LP r P n D W Bo ops Q (⟨d, .call ⟨.value fo, ao, ts⟩, ty, ps, af, g⟩ :: rest) F l := by
  intro a w ha hw
  refine wpListIn_of (hg.wanted rfl ha) ?_
  refine ⟨fun f _ => trivial, ?_⟩
  rw [semAt_eq _ (by simp), run_call hfo hargs ha]
  refine ⟨by simp [Fw, Fence.wide], callsFw ((hap ▸ hc w hw : DiesB P k (fs ++ vs ++ cs) w b o' v).mono ?_)⟩
  rintro e w' ⟨rfl, x, hw'⟩
  have h9 : St W Bo w' ([] ++ l1 x) := hw.trans1 (hrep x) hw'
  exact h x _ _ ha h9
def QZ (Q : Exit → Act → World → Prop) (D : List Deferred) (Z : List PanicEntry → World → Prop) : Exit → Act → World → Prop := fun e a w => (e = .normal ∧ Q .normal a w) ∨ ∃ ch, e = .panic ch ∧ a.defers = D ∧ Z ch w
def QD (D : List Deferred) (Z : List PanicEntry → World → Prop) : Exit → Act → World → Prop := fun e a w => ∃ ch, e = .panic ch ∧ a.defers = D ∧ Z ch w
def DZ (P : Program) (n : Nat) (D : List Deferred) (W : World) (Bo : List Nat) (ops : Array Oper) (Q : Exit → Act → World → Prop) (Z : List PanicEntry → World → Prop) (lp : SH) (f fuel : Nat) (listed : Array Bool) (F : List (Nat × Value)) (l : SH) : Prop :=
  Region.noSelect ops = true → ∀ a w, Fr n F D a → St W Bo w l → AnyF P ops (QZ Q D Z) (fun w => St W Bo w lp) f fuel listed a w
theorem c_regZ [hm : HM P] (lp : SH) (hZ : ∀ ch a w, a.defers = D → Z ch w → Q (.panic ch) a w) (f : Nat) {id : Nat} {os : List Oper} (h : DZ P n D W Bo os.toArray Q Z lp f os.length (Array.replicate os.length false) F l) (hs : Region.noSelect os.toArray = true := by kernel_rfl) :
    CP none P n D W Bo (.region id os.toArray true) Q F l := by
  intro a w ha hw
  have h1 := (h hs a w.drew ha hw.drew).any
  have h2 : (Code.region id os.toArray true).wpIn (Fw none) 0 P (QZ Q D Z) a w := wpIn_region_any hm.h (by simpa using h1)
  refine wpIn_mono h2 fun e a w hq => ?_
  rcases hq with ⟨rfl, hq⟩ | ⟨ch, rfl, hd, hz⟩
  · exact hq
  · exact hZ ch a w hd hz
theorem z_y {op : Op} (i : Nat) (hi : ops[i]? = some ⟨some dd, op, ty, ps, af, g⟩) (hy : Y P n D W Bo ⟨some dd, op, ty, ps, af, g⟩ F lp v) (h : DZ P n D W Bo ops Q Z lp f fuel (listed.setIfInBounds i true) ((dd, v) :: F) l)
    (hn : Nat.blt dd n = true := by rfl) (hg : Wn ops F g := by first | exact .none | exact .some rfl rfl) (hok : okF ops f listed i = true := by kernel_rfl) : DZ P n D W Bo ops Q Z lp f (fuel + 1) listed F l := by
  intro hs a w ha hw
  obtain ⟨h1, h2, h3, h4, h5⟩ := okF_spec hok
  refine AnyF.first hi (Region.noSelect_spec hs) (fun c a w hq => ?_) h3 h5 fuel listed a w (Region.free_spec hi h2) h1 h4 (.inl ⟨hg.wanted rfl ha, fun w hw => hy.2 a w ha hw⟩) (h hs _ w (ha.put dd v hn) hw)
  rcases hq with ⟨h, _⟩ | ⟨ch, h6, h7, h8⟩
  · cases h
  · exact .inr ⟨ch, h6, by simpa [Act.put] using h7, h8⟩
theorem z_die {o : Oper} (i : Nat) (hi : ops[i]? = some o) (h : LP none P n D W Bo ops (QD D Z) [o] F l)
    (hr : Region.ready .any ops listed = [i] := by kernel_rfl) (hsub : lp.Sublist l := by first | exact List.nil_sublist _ | exact List.Sublist.refl _ | exact .cons _ (.refl _)) : DZ P n D W Bo ops Q Z lp f (fuel + 1) listed F l := by
  intro hs a w ha hw
  unfold AnyF
  refine ⟨.inr (hw.sub hsub), fun h0 => absurd (hr ▸ h0) (by simp), fun j hj => ?_⟩
  rw [hr, List.mem_singleton] at hj
  subst hj
  have h9 := h a w ha hw
  unfold wpOpIn
  simp only [hi]
  simp only [wpListIn] at h9
  split
  · rename_i hwd
    rw [if_pos hwd] at h9
    exact wpIn_monoQ (Q := QD D Z) (fun c a w hq => .inr hq) (fun hq => by obtain ⟨_, _, ch, h1, _⟩ := hq; cases h1) (Oper.wpIn_mono (fun a w hk => by obtain ⟨ch, h1, _⟩ := hk; cases h1) h9)
  · rename_i hwd
    rw [if_neg hwd] at h9
    obtain ⟨ch, h1, _⟩ := h9.2
    cases h1
end
end Eng
end
section
namespace Go.Proofs.YtejdjnkilikehaaGreatDoor
open Go Eng Cod
set_option maxRecDepth 100000
abbrev codeE : Value := .iface 37 (I 10)
abbrev rdObj (x : Option Addr × Nat × Nat) : Obj := .cells #[.slice x.1 x.2.1 x.2.2] 140 (0, 0)
theorem want_no (w : World) (v : Value) : Dies Tryz.prog 147 [v, .bool false] w codeE := by
  refine enter Tryz.func147 Tryz.ntmps147 ?_
  refine c_seq <| c_reg <| s_y y_mv <| s_y (v := .bool true) (y_not (b := false)) <| s_nil <| q_then <| c_t <| c_reg <| s_y y_mki <| s_panic <| ?_
  exact Eng.die fun w' hw => ⟨rfl, hw⟩
theorem take_no (w : World) (b : Nat) (a : Option Addr) (n c k : Nat) (hk : n < k) (hp : (rblk b a n c).holds w) :
    DiesB Tryz.prog 191 [.pointer (some ⟨b, 0, none⟩), I k] w b rdObj codeE := by
  refine enterR Tryz.func191 Tryz.ntmps191 hp ?_
  refine c_seq <| c_reg <| s_y y_as <| s_nil <| q_then <| c_seq <| c_reg <| s_y y_mv <| s_y y_mv <| s_y y_mv <| s_y y_nc <| s_y y_fa <| s_y (y_ld (v := .slice a n c)) <| s_y y_len <| s_kf (y_leq (p := (k : Int)) (q := (n : Int))) (by omega) <| s_dies (fun w' hw => want_no w' _) <| q_pt <| ?_
  exact Eng.die fun w' hw => ⟨rfl, (a, n, c), hw⟩
theorem number_no (w : World) (b : Nat) (a : Option Addr) (c : Nat) (q : List UInt8) (hr : RdX w b a q c) (hm : c ≤ 9223372036854775807) (hN : rdNum 0 0 q = none) (hp : (rblk b a q.length c).holds w) :
    DiesB Tryz.prog 193 [.pointer (some ⟨b, 0, none⟩)] w b rdObj codeE := by
  refine enterR Tryz.func193 Tryz.ntmps193 hp ?_
  refine c_seq <| c_reg <| s_y y_as <| s_nil <| q_then <| c_seq <| c_reg <| s_y y_as <| s_nil <| q_then <| c_block <| ?_
  refine c_loop (σ := Nat × Nat × List UInt8 × Option Addr × Nat) (fun x => [(0, .pointer (some ⟨b, 0, none⟩)), (2, U x.2.1), (3, I x.1)]) (fun x => [rblk b x.2.2.2.1 x.2.2.1.length x.2.2.2.2]) (fun x => rdNum x.1 x.2.1 x.2.2.1 = none ∧ x.1 ≤ 9 ∧ x.2.1 < 2 ^ (7 * x.1) ∧ Adv b a q c x.2.2.2.1 x.2.2.1 x.2.2.2.2) (fun x => x.2.2.1.length) (0, 0, q, a, c) ⟨hN, Nat.zero_le _, Nat.zero_lt_one, .refl⟩ ⟨rfl, rfl, rfl, trivial⟩ (.refl _) ?_
  rintro ⟨i, u, q1, a1, c1⟩ ⟨h1, h2, h3, hA⟩
  simp only at h1 h2 h3 hA
  obtain ⟨h4, h5⟩ := hA w hr
  cases q1 with
  | nil =>
    refine c_seq <| c_block <| c_seq <| c_reg <| s_y y_mv <| s_diesB (b := b) (fun w' hw => take_no w' b a1 0 c1 1 Nat.zero_lt_one (hw.own _ (.head _)).1) (fun _ => .head _) fun x => q_pt <| q_pb <| q_pt <| q_pt <| q_pb <| ?_
    exact Eng.die fun w' hw => ⟨rfl, x, hw⟩
  | cons x q1 =>
  have hlt := x.toNat_lt
  have hle := h4.le
  rw [List.length_cons] at hle
  refine c_seq <| c_block <| c_seq <| c_reg <| s_y y_mv <| s_chg (b := b) (fun w' hw => take_ok w' b a1 (x :: q1).length c1 1 (by simp) h4.le (by omega) (hw.own _ (.head _)).1) (fun _ => .head _) (fun _ _ => ?_)
  have hd := hA.trans (Adv.drop 1 (by simp))
  refine s_y (y_ixs1 (xs := bs (x :: q1)) (hr := rdW h4.rd (by intro k hk; cases List.mem_singleton.1 hk; exact h4.ne)) (hl := by rw [bs_length]; simp)) <| s_y (y_ldb (q := x :: q1) (i := 0) (hr := rdW h4.rd (by intro k hk; cases List.mem_singleton.1 hk; exact h4.ne)) (hi := by simp)) <| ?_
  rw [show (x :: q1).getD 0 0 = x from rfl]
  refine s_y y_as <| s_nil <| q_then <| ?_
  by_cases hcnd : (i = 0 ∨ x.toNat ≠ 0) ∧ (i < 9 ∨ x.toNat ≤ 1)
  · rw [rdNum, if_pos hcnd] at h1
    obtain ⟨hg1, hg2⟩ := hcnd
    refine c_join [(0, .pointer (some ⟨b, 0, none⟩)), (2, U u), (3, I i), (4, B x)] [rblk b (sa a1 1 c1 1) q1.length (c1 - 1)] ?_ ?_
    · by_cases hi0 : i = 0
      · subst hi0
        refine c_reg <| s_y y_mv <| s_y y_mv <| s_kt (y_eql (p := ((0 : Nat) : Int)) (q := 0)) (by omega) <| s_y y_mv <| s_no <| s_no <| s_y y_pk <| s_y y_mv <| s_y y_mv <| s_kt (y_lss (p := ((0 : Nat) : Int)) (q := 9)) (by omega) <| s_y y_mv <| s_no <| s_no <| s_y y_pk <| s_y y_pk <| s_pure (fun w' hw => want_ok w' _) <| s_nil <| ?_
        exact q_join ⟨rfl, rfl, rfl, rfl, trivial⟩ (.refl _)
      · have hx0 : x.toNat ≠ 0 := hg1.resolve_left hi0
        by_cases hi9 : i < 9
        · refine c_reg <| s_y y_mv <| s_y y_mv <| s_kf (y_eql (p := (i : Int)) (q := 0)) (by omega) <| s_y y_mv <| s_y y_mv <| s_nt (y_neq (p := (x.toNat : Int)) (q := 0)) (by omega) <| s_y y_pk <| s_y y_mv <| s_y y_mv <| s_kt (y_lss (p := (i : Int)) (q := 9)) (by omega) <| s_y y_mv <| s_no <| s_no <| s_y y_pk <| s_y y_pk <| s_pure (fun w' hw => want_ok w' _) <| s_nil <| ?_
          exact q_join ⟨rfl, rfl, rfl, rfl, trivial⟩ (.refl _)
        · have hx1 : x.toNat ≤ 1 := hg2.resolve_left hi9
          refine c_reg <| s_y y_mv <| s_y y_mv <| s_kf (y_eql (p := (i : Int)) (q := 0)) (by omega) <| s_y y_mv <| s_y y_mv <| s_nt (y_neq (p := (x.toNat : Int)) (q := 0)) (by omega) <| s_y y_pk <| s_y y_mv <| s_y y_mv <| s_kf (y_lss (p := (i : Int)) (q := 9)) (by omega) <| s_y y_mv <| s_y y_mv <| s_kt (y_leq (p := (x.toNat : Int)) (q := 1)) (by omega) <| s_y y_pk <| s_y y_pk <| s_pure (fun w' hw => want_ok w' _) <| s_nil <| ?_
          exact q_join ⟨rfl, rfl, rfl, rfl, trivial⟩ (.refl _)
    have h64 := lt64 (i := i) (p := x.toNat % 128) h2 (by omega) (by omega)
    have hu64 : u < 18446744073709551616 := by
      have := Nat.pow_le_pow_right (show 0 < 2 by decide) (show 7 * i ≤ 63 by omega)
      omega
    refine c_seq <| c_reg <| s_y y_mv <| s_y y_mv <| s_y (y_andn (k := .u8) (p := x.toNat) (q := 127) (hw := by rw [and127, wrap_u8]; omega)) <| ?_
    rw [and127]
    refine s_y (y_cvn (k := .u64) (p := ((x.toNat % 128 : Nat) : Int)) (hw := wrap_u64 (by omega) (by omega))) <| s_y y_mv <| s_y (y_mul (p := 7) (q := (i : Int))) <| ?_
    rw [show (7 : Int) * (i : Int) = ((7 * i : Nat) : Int) by omega]
    refine s_y (y_shlW (7 * i) (p := x.toNat % 128)) <| ?_
    rw [Nat.mod_eq_of_lt h64]
    refine s_y (y_orU (p := u) (q := x.toNat % 128 * 2 ^ (7 * i))) <| ?_
    rw [or_add h3]
    refine s_y y_as <| s_nil <| q_then <| c_seq <| c_reg <| s_y y_mv <| ?_
    by_cases h128 : x.toNat < 128
    · rw [if_pos h128] at h1
      cases h1
    · rw [if_neg h128] at h1
      have e : x.toNat % 128 = x.toNat - 128 := by omega
      refine s_kf (y_lss (p := (x.toNat : Int)) (q := 128)) (by omega) <| s_nil <| q_then <| c_f <| c_skip <| q_nb <| q_then <| c_reg <| s_y y_mv <| s_y (y_add (p := (i : Int)) (q := 1)) <| s_y y_as <| s_nil <| ?_
      rw [show (i : Int) + 1 = ((i + 1 : Nat) : Int) by omega]
      refine q_round (i + 1, u + x.toNat % 128 * 2 ^ (7 * i), q1, sa a1 1 c1 1, c1 - 1) ⟨by rw [e]; exact h1, by show i + 1 ≤ 9; omega, sum7 h3 (by omega), hd⟩ (by simp) ⟨rfl, rfl, rfl, trivial⟩ (.refl _)
  · by_cases hg1 : i = 0 ∨ x.toNat ≠ 0
    · have hg2 : ¬ (i < 9 ∨ x.toNat ≤ 1) := fun h => hcnd ⟨hg1, h⟩
      have hi9 : i = 9 := by omega
      have hx1 : ¬ x.toNat ≤ 1 := by omega
      refine c_seq <| c_reg <| s_y y_mv <| s_y y_mv <| s_kf (y_eql (p := (i : Int)) (q := 0)) (by omega) <| s_y y_mv <| s_y y_mv <| s_nt (y_neq (p := (x.toNat : Int)) (q := 0)) (by omega) <| s_y y_pk <| s_y y_mv <| s_y y_mv <| s_kf (y_lss (p := (i : Int)) (q := 9)) (by omega) <| s_y y_mv <| s_y y_mv <| s_kf (y_leq (p := (x.toNat : Int)) (q := 1)) (by omega) <| s_y y_pk <| s_y y_pk <| s_dies (fun w' hw => want_no w' _) <| q_pt <| q_pb <| q_pt <| q_pt <| q_pb <| ?_
      exact Eng.die fun w' hw => ⟨rfl, (sa a1 1 c1 1, q1.length, c1 - 1), hw⟩
    · have hi0 : i ≠ 0 := fun h => hg1 (.inl h)
      have hx0 : x.toNat = 0 := by omega
      refine c_seq <| c_reg <| s_y y_mv <| s_y y_mv <| s_kf (y_eql (p := (i : Int)) (q := 0)) (by omega) <| s_y y_mv <| s_y y_mv <| s_nf (y_neq (p := (x.toNat : Int)) (q := 0)) (by omega) <| s_y y_pk <| s_y y_mv <| s_no <| s_no <| s_no <| s_nu <| s_nu <| s_no <| s_y y_pk <| s_dies (fun w' hw => want_no w' _) <| q_pt <| q_pb <| q_pt <| q_pt <| q_pb <| ?_
      exact Eng.die fun w' hw => ⟨rfl, (sa a1 1 c1 1, q1.length, c1 - 1), hw⟩
theorem length_no (w : World) (b : Nat) (a : Option Addr) (c : Nat) (q : List UInt8) (hr : RdX w b a q c) (hm : c ≤ 9223372036854775807) (hN : rdLen q = none) (hp : (rblk b a q.length c).holds w) :
    DiesB Tryz.prog 194 [.pointer (some ⟨b, 0, none⟩)] w b rdObj codeE := by
  refine enterR Tryz.func194 Tryz.ntmps194 hp ?_
  refine c_seq <| c_reg <| s_y y_as <| s_nil <| q_then <| c_seq <| c_reg <| s_y y_mv <| ?_
  cases h1 : rdNum 0 0 q with
  | none =>
    refine s_diesB (b := b) (fun w' hw => number_no w' b a c q (hr.st hw) hm h1 (hw.own _ (.head _)).1) (fun _ => .head _) fun x => q_pt <| ?_
    exact Eng.die fun w' hw => ⟨rfl, x, hw⟩
  | some p =>
    obtain ⟨N, q'⟩ := p
    rw [rdLen, h1] at hN
    have h2 : ¬ N ≤ q'.length := fun h => by simp only [if_pos h] at hN; cases hN
    refine s_chg (b := b) (fun w' hw => number_ok w' b a c q N q' (hr.st hw) hm h1 (hw.own _ (.head _)).1) (fun _ => .head _) (fun x hx => ?_)
    obtain ⟨hx1, hx2⟩ := hx
    have hx3 := (hx1 w hr).2
    have hx4 := (hx1 w hr).1.le
    refine s_y y_as <| s_nil <| q_then <| c_seq <| c_reg <| s_y y_mv <| s_y y_mv <| s_y y_mv <| s_y y_nc <| s_y y_fa <| s_y (y_ld (v := .slice x.1 q'.length x.2)) <| s_y y_len <| s_y (y_cvn (k := .u64) (p := ((q'.length : Nat) : Int)) (hw := wrap_u64 (by omega) (by omega))) <| s_kf (y_leq (p := ((N : Nat) : Int)) (q := ((q'.length : Nat) : Int))) (by omega) <| s_dies (fun w' hw => want_no w' _) <| q_pt <| ?_
    exact Eng.die fun w' hw => ⟨rfl, (x.1, q'.length, x.2), hw⟩
theorem rdL_none {g : List UInt8 → Option (V × List UInt8)} {n : Nat} {q : List UInt8} (h : rdL g (n + 1) q = none) : g q = none ∨ ∃ v q', g q = some (v, q') ∧ rdL g n q' = none := by
  rw [rdL] at h
  cases h1 : g q with
  | none => exact .inl rfl
  | some p =>
    obtain ⟨v, q'⟩ := p
    rw [h1] at h
    simp only at h
    cases h2 : rdL g n q' with
    | none => exact .inr ⟨v, q', rfl, h2⟩
    | some p => rw [h2] at h; cases h
theorem rdVal_none {f : Nat} {x : UInt8} {q : List UInt8} (h : rdVal f (x :: q) = none) :
    (x.toNat = 1 ∧ rdNum 0 0 q = none) ∨ (x.toNat = 2 ∧ rdLen q = none) ∨ (x.toNat = 3 ∧ f = 0) ∨ (x.toNat = 3 ∧ ∃ f', f = f' + 1 ∧ rdLen q = none) ∨
    (x.toNat = 3 ∧ ∃ f' N q1, f = f' + 1 ∧ rdLen q = some (N, q1) ∧ rdL (rdVal f') N q1 = none) ∨ (x.toNat ≠ 1 ∧ x.toNat ≠ 2 ∧ x.toNat ≠ 3) := by
  by_cases h1 : x.toNat = 1
  · refine .inl ⟨h1, ?_⟩
    cases h3 : rdNum 0 0 q with
    | none => rfl
    | some p => cases f <;> (simp only [rdVal] at h; rw [if_pos h1, h3] at h; cases h)
  by_cases h2 : x.toNat = 2
  · refine .inr (.inl ⟨h2, ?_⟩)
    cases h3 : rdLen q with
    | none => rfl
    | some p => cases f <;> (simp only [rdVal] at h; rw [if_neg h1, if_pos h2, h3] at h; cases h)
  by_cases h3 : x.toNat = 3
  · cases f with
    | zero => exact .inr (.inr (.inl ⟨h3, rfl⟩))
    | succ f =>
      simp only [rdVal] at h
      rw [if_neg h1, if_neg h2, if_pos h3] at h
      cases h4 : rdLen q with
      | none => exact .inr (.inr (.inr (.inl ⟨h3, f, rfl, rfl⟩)))
      | some p =>
        obtain ⟨N, q1⟩ := p
        rw [h4] at h
        simp only at h
        cases h5 : rdL (rdVal f) N q1 with
        | none => exact .inr (.inr (.inr (.inr (.inl ⟨h3, f, N, q1, rfl, rfl, h5⟩))))
        | some p => rw [h5] at h; cases h
  · exact .inr (.inr (.inr (.inr (.inr ⟨h1, h2, h3⟩))))
structure LSn where
  j : Nat
  n : Nat
  q : List UInt8
  a : Option Addr
  c : Nat
  la : Option Addr
  lc : Nat
  cells : List Value
  rs : SH
theorem value_no : ∀ (f : Nat) (w : World) (b : Nat) (a : Option Addr) (c : Nat) (q : List UInt8), f ≤ 16 → (q = [] ∨ RdX w b a q c) → c ≤ 9223372036854775807 → q.length ≤ 2000000000000 → rdVal f q = none → (rblk b a q.length c).holds w →
    DiesB Tryz.prog 146 [.pointer (some ⟨b, 0, none⟩), I (16 - f : Nat)] w b rdObj codeE := by
  intro f
  induction f using Nat.strongRecOn with
  | ind f ih =>
  intro w b a c q hf hr hm hq h hp
  refine enterR Tryz.func146 Tryz.ntmps146 hp ?_
  refine c_seq <| c_reg <| s_alloc fun b4 => s_nil <| q_then <| c_seq <| c_reg <| s_y y_mv <| ?_
  cases q with
  | nil =>
    refine s_diesB (b := b) (fun w' hw => take_no w' b a 0 c 1 Nat.zero_lt_one (hw.own _ (.tail _ (.head _))).1) (fun _ => .tail _ (.head _)) fun x => q_pt <| ?_
    exact Eng.die fun w' hw => ⟨rfl, x, hw.sub (.cons _ (.refl _))⟩
  | cons x q =>
  have hr := hr.resolve_left (List.cons_ne_nil _ _)
  rw [List.length_cons] at hq
  refine s_chg (b := b) (fun w' hw => take_ok w' b a (x :: q).length c 1 (by simp) hr.le (by omega) (hw.own _ (.tail _ (.head _))).1) (fun _ => .tail _ (.head _)) (fun _ _ => ?_)
  have hA : Adv b a (x :: q) c (sa a 1 c 1) q (c - 1) := Adv.drop 1 (by simp)
  have hne : ∀ k ∈ keys [rblk b a (x :: q).length c], a.map (·.block) ≠ some k := by intro k hk; cases List.mem_singleton.1 hk; exact hr.ne
  refine s_y (y_ixs1 (xs := bs (x :: q)) (hr := rdW hr.rd hne) (hl := by rw [bs_length]; simp)) <| s_y (y_ldb (q := x :: q) (i := 0) (hr := rdW hr.rd hne) (hi := by simp)) <| ?_
  rw [show (x :: q).getD 0 0 = x from rfl]
  refine s_y (y_cvb (p := x)) <| s_y y_fa <| s_st (b := b4) (off := 0) (v := I x.toNat) (cs := #[I 0, I 0, .string (sb []), .slice none 0 0]) (hl := by decide) ?_
  refine s_nil <| q_then <| ?_
  rcases rdVal_none h with ⟨h1, h2⟩ | ⟨h1, h2⟩ | ⟨h1, rfl⟩ | ⟨h1, f', rfl, h2⟩ | ⟨h1, f', N, q1, rfl, h2, h3⟩ | ⟨h1, h2, h3⟩
  · rw [h1]
    refine c_seq <| c_seq <| c_reg <| s_y y_fa <| s_y (y_ld (v := I 1)) <| s_nil <| q_then <| c_block <| c_seq <| c_reg <| s_kt (y_eql (p := 1) (q := 1)) rfl <| s_y y_as <| s_nil <| q_then <| c_t <| c_reg <| s_y y_mv <| s_diesB (b := b) (fun w' hw => number_no w' b (sa a 1 c 1) (c - 1) q ((hA w hr).1.st hw) (by omega) h2 (hw.own _ (.tail _ (.head _))).1) (fun _ => .tail _ (.head _)) fun x => q_pb <| q_pt <| ?_
    exact Eng.die fun w' hw => ⟨rfl, x, hw.sub (.cons _ (.refl _))⟩
  · rw [h1]
    refine c_seq <| c_seq <| c_reg <| s_y y_fa <| s_y (y_ld (v := I 2)) <| s_nil <| q_then <| c_block <| c_seq <| c_reg <| s_kf (y_eql (p := 2) (q := 1)) (by decide) <| s_y y_as <| s_nil <| q_then <| c_f <| c_seq <| c_reg <| s_kt (y_eql (p := 2) (q := 2)) rfl <| s_y y_as <| s_nil <| q_then <| c_t <| c_reg <| s_y y_mv <| s_y y_mv <| s_diesB (b := b) (fun w' hw => length_no w' b (sa a 1 c 1) (c - 1) q ((hA w hr).1.st hw) (by omega) h2 (hw.own _ (.tail _ (.head _))).1) (fun _ => .tail _ (.head _)) fun x => q_pb <| q_pt <| ?_
    exact Eng.die fun w' hw => ⟨rfl, x, hw.sub (.cons _ (.refl _))⟩
  · rw [h1]
    refine c_seq <| c_seq <| c_reg <| s_y y_fa <| s_y (y_ld (v := I 3)) <| s_nil <| q_then <| c_block <| c_seq <| c_reg <| s_kf (y_eql (p := 3) (q := 1)) (by decide) <| s_y y_as <| s_nil <| q_then <| c_f <| c_seq <| c_reg <| s_kf (y_eql (p := 3) (q := 2)) (by decide) <| s_y y_as <| s_nil <| q_then <| c_f <| c_seq <| c_reg <| s_kt (y_eql (p := 3) (q := 3)) rfl <| s_y y_as <| s_nil <| q_then <| c_t <| c_seq <| c_reg <| s_y y_mv <| s_y y_mv <| s_kf (y_lss (p := ((16 - 0 : Nat) : Int)) (q := 16)) (by omega) <| s_dies (fun w' hw => want_no w' _) <| q_pt <| q_pb <| q_pt <| ?_
    exact Eng.die fun w' hw => ⟨rfl, (sa a 1 c 1, q.length, c - 1), hw.sub (.cons _ (.refl _))⟩
  · rw [h1]
    refine c_seq <| c_seq <| c_reg <| s_y y_fa <| s_y (y_ld (v := I 3)) <| s_nil <| q_then <| c_block <| c_seq <| c_reg <| s_kf (y_eql (p := 3) (q := 1)) (by decide) <| s_y y_as <| s_nil <| q_then <| c_f <| c_seq <| c_reg <| s_kf (y_eql (p := 3) (q := 2)) (by decide) <| s_y y_as <| s_nil <| q_then <| c_f <| c_seq <| c_reg <| s_kt (y_eql (p := 3) (q := 3)) rfl <| s_y y_as <| s_nil <| q_then <| c_t <| c_seq <| c_reg <| s_y y_mv <| s_y y_mv <| s_kt (y_lss (p := ((16 - (f' + 1) : Nat) : Int)) (q := 16)) (by omega) <| s_pure (fun w' hw => want_ok w' _) <| s_nil <| q_then <| c_seq <| c_reg <| s_y y_mv <| s_diesB (b := b) (fun w' hw => length_no w' b (sa a 1 c 1) (c - 1) q ((hA w hr).1.st hw) (by omega) h2 (hw.own _ (.tail _ (.head _))).1) (fun _ => .tail _ (.head _)) fun x => q_pt <| q_pb <| q_pt <| ?_
    exact Eng.die fun w' hw => ⟨rfl, x, hw.sub (.cons _ (.refl _))⟩
  · rw [h1]
    refine c_seq <| c_seq <| c_reg <| s_y y_fa <| s_y (y_ld (v := I 3)) <| s_nil <| q_then <| c_block <| c_seq <| c_reg <| s_kf (y_eql (p := 3) (q := 1)) (by decide) <| s_y y_as <| s_nil <| q_then <| c_f <| c_seq <| c_reg <| s_kf (y_eql (p := 3) (q := 2)) (by decide) <| s_y y_as <| s_nil <| q_then <| c_f <| c_seq <| c_reg <| s_kt (y_eql (p := 3) (q := 3)) rfl <| s_y y_as <| s_nil <| q_then <| c_t <| c_seq <| c_reg <| s_y y_mv <| s_y y_mv <| s_kt (y_lss (p := ((16 - (f' + 1) : Nat) : Int)) (q := 16)) (by omega) <| s_pure (fun w' hw => want_ok w' _) <| s_nil <| q_then <| c_seq <| c_reg <| s_y y_mv <| s_chg (b := b) (fun w' hw => length_ok w' b (sa a 1 c 1) (c - 1) q N q1 ((hA w hr).1.st hw) (by omega) h2 (hw.own _ (.tail _ (.head _))).1) (fun _ => .tail _ (.head _)) (fun y hy => ?_)
    obtain ⟨hy1, hy2⟩ := hy
    have hA2 := hA.trans hy1
    have hq1 := rdLen_le h2
    refine s_y y_mv <| s_nil <| q_then <| c_nilrow 76 4 <| c_perm (.swap _ _ _) <| c_block <| ?_
    refine c_loop (fun s : LSn => [(0, .pointer (some ⟨b, 0, none⟩)), (1, I (16 - (f' + 1) : Nat)), (4, .pointer (some ⟨b4, 0, none⟩)), (36, I N), (37, I s.j)])
      (fun s => .blk b4 (.cells #[I 3, I 0, .string (sb []), .slice s.la s.j s.lc] 76 (0, 0)) :: .row s.la s.lc 76 4 s.j s.cells :: rblk b s.a s.q.length s.c :: s.rs)
      (fun s => rdL (rdVal f') s.n s.q = none ∧ s.j + s.n = N ∧ Adv b a (x :: q) c s.a s.q s.c ∧ s.q.length ≤ q.length)
      (fun s => s.n) ⟨0, N, q1, y.1, y.2, none, 0, [], []⟩ ⟨h3, Nat.zero_add _, hA2, hq1⟩ ⟨rfl, rfl, rfl, rfl, rfl, trivial⟩ (.refl _) ?_
    rintro ⟨j, n, q2, a2, c2, la, lc, cells, rs⟩ ⟨i1, hj, i3, i4⟩
    simp only at i1 hj i3 i4
    obtain ⟨hr3, hc3⟩ := i3 w hr
    cases n with
    | zero => simp [rdL] at i1
    | succ n =>
    refine c_seq <| c_reg <| s_kt (y_lss (p := ((j : Nat) : Int)) (q := ((N : Nat) : Int))) (by omega) <| s_nil <| q_then <| c_seq <| c_t <| c_skip <| q_then <| c_seq <| c_block <| ?_
    rcases rdL_none i1 with j1 | ⟨v, q3, j1, j2⟩
    · refine c_regZ (Z := fun ch w' => ch = [{ v := codeE, recovered := false }] ∧ ∃ x, St w [b] w' [.blk b (rdObj x)]) [.blk b4 (.cells #[I 3, I 0, .string (sb []), .slice la j lc] 76 (0, 0))] (fun ch a w' hd hz => ?_) 9 ?_
      · obtain ⟨rfl, hz⟩ := hz
        exact ⟨hd, rfl, hz⟩
      · refine z_y 0 rfl y_fa <| z_y 2 rfl y_mv <| z_y 3 rfl y_mv <| z_y 4 rfl (y_add (p := ((16 - (f' + 1) : Nat) : Int)) (q := 1)) <| z_y 1 rfl (y_ld (v := .slice la j lc)) <| ?_
        rw [show ((16 - (f' + 1) : Nat) : Int) + 1 = ((16 - f' : Nat) : Int) by omega]
        refine z_die 5 rfl (s_diesB (b := b) (fun w' hw => ih f' (by omega) w' b a2 c2 q2 (by omega) (.inr (hr3.st hw)) (by omega) (by omega) j1 (hw.own _ (.tail _ (.tail _ (.head _)))).1) (fun _ => .tail _ (.tail _ (.head _))) fun x => ?_) (hsub := List.Sublist.cons_cons _ (List.nil_sublist _))
        exact fun a w' ha hw => ⟨_, rfl, ha.defers, rfl, x, hw.sub (.cons _ (.cons _ (.cons_cons _ (List.nil_sublist _))))⟩
    · have hq3 := rdVal_le _ _ _ _ j1
      refine c_regG [.blk b4 (.cells #[I 3, I 0, .string (sb []), .slice la j lc] 76 (0, 0))] (List.Sublist.cons_cons _ (List.nil_sublist _)) 9 <| f_y 0 rfl y_fa <| f_y 2 rfl y_mv <| f_y 3 rfl y_mv <| f_y 4 rfl (y_add (p := ((16 - (f' + 1) : Nat) : Int)) (q := 1)) <| f_y 1 rfl (y_ld (v := .slice la j lc)) <| ?_
      rw [show ((16 - (f' + 1) : Nat) : Int) + 1 = ((16 - f' : Nat) : Int) by omega]
      refine f_w 5 rfl (s_chg (b := b) (fun w' hw => value_ok f' w' b a2 c2 q2 v q3 (by omega) (hr3.st hw) (by omega) (by omega) j1 (hw.own _ (.tail _ (.tail _ (.head _)))).1) (fun _ => .tail _ (.tail _ (.head _))) (fun z hz => s_perm (List.perm_append_comm_assoc [_, _, _] _ _) (f_kk ?_))) (hsub := List.Sublist.cons_cons _ (List.nil_sublist _))
      obtain ⟨a3, c3, va, vc, rs3⟩ := z
      obtain ⟨hz1, hz2⟩ := hz
      simp only at hz1 hz2
      refine f_w 6 rfl (s_bslr (cs := [I v.k, I v.n, .string (sb v.s), .slice va v.l.length vc]) fun b45 => f_kk ?_) (hsub := List.Sublist.cons_cons _ (List.nil_sublist _))
      refine f_w 7 rfl (s_app (m := 1) (fun w' hw => Src.slice (rdR (.head _) w' hw) rfl) (h1 := fun v hv => by simp at hv; rcases hv with rfl | rfl | rfl | rfl <;> rfl) (hm := .tail _ (.tail _ (.head _))) (hrep := fun _ _ => .tail _ (.tail _ (.head _))) (hfit := by show j + 1 ≤ maxLen; unfold maxLen; omega) (hby := by show (j + 1) * 56 ≤ 140737488355328; omega) fun a46 c46 h46 => f_kk ?_) (hsub := List.Sublist.cons _ (List.Sublist.cons_cons _ (List.nil_sublist _)))
      refine f_y 8 rfl y_fa <| f_w 9 rfl (s_st (b := b4) (off := 3) (v := .slice a46 (j + 1) c46) (cs := #[I 3, I 0, .string (sb []), .slice la j lc]) (hl := show 3 < 4 by decide) <| f_z <| q_nb <| q_then <| c_reg <| s_y (y_add (p := ((j : Nat) : Int)) (q := 1)) <| s_y y_mv <| s_nil <| ?_) (hsub := List.Sublist.cons _ (List.Sublist.cons_cons _ (List.nil_sublist _)))
      rw [show ((j : Nat) : Int) + 1 = ((j + 1 : Nat) : Int) by omega]
      exact q_round ⟨j + 1, n, q3, a3, c3, a46, c46, cells ++ [I v.k, I v.n, .string (sb v.s), .slice va v.l.length vc], rs3 ++ rs⟩ ⟨j2, by show j + 1 + n = N; omega, i3.trans hz1, Nat.le_trans hq3 i4⟩ (Nat.lt_succ_self _) ⟨rfl, rfl, rfl, rfl, rfl, trivial⟩ (.cons _ (.refl _))
  · refine c_seq <| c_seq <| c_reg <| s_y y_fa <| s_y (y_ld (v := I x.toNat)) <| s_nil <| q_then <| c_block <| c_seq <| c_reg <| s_kf (y_eql (p := (x.toNat : Int)) (q := 1)) (by omega) <| s_y y_as <| s_nil <| q_then <| c_f <| c_seq <| c_reg <| s_kf (y_eql (p := (x.toNat : Int)) (q := 2)) (by omega) <| s_y y_as <| s_nil <| q_then <| c_f <| c_seq <| c_reg <| s_kf (y_eql (p := (x.toNat : Int)) (q := 3)) (by omega) <| s_y y_as <| s_nil <| q_then <| c_f <| c_reg <| s_y y_mv <| s_dies (fun w' hw => want_no w' _) <| q_pb <| q_pt <| ?_
    exact Eng.die fun w' hw => ⟨rfl, (sa a 1 c 1, q.length, c - 1), hw.sub (.cons _ (.refl _))⟩
end Go.Proofs.YtejdjnkilikehaaGreatDoor
end
section
namespace Cod
open Go Eng
theorem rdNum_inv : ∀ (q : List UInt8) (i u N : Nat) (q' : List UInt8), i ≤ 9 → rdNum i u q = some (N, q') → ∃ x, q = num x ++ q' ∧ N = u + x * 2 ^ (7 * i) ∧ (i = 0 ∨ 0 < x) ∧ x < 2 ^ (64 - 7 * i)
  | [], i, u, N, q', _, h => by simp [rdNum] at h
  | c :: q, i, u, N, q', hi, h => by
    have hcnd : (i = 0 ∨ c.toNat ≠ 0) ∧ (i < 9 ∨ c.toNat ≤ 1) := Classical.byContradiction fun hn => by rw [rdNum, if_neg hn] at h; cases h
    rw [rdNum, if_pos hcnd] at h
    obtain ⟨h1, h2⟩ := hcnd
    have hlt := c.toNat_lt
    by_cases h128 : c.toNat < 128
    · rw [if_pos h128] at h
      simp only [Option.some.injEq, Prod.mk.injEq] at h
      obtain ⟨rfl, rfl⟩ := h
      refine ⟨c.toNat, ?_, rfl, by omega, ?_⟩
      · rw [num, if_pos h128]
        have : UInt8.ofNat c.toNat = c := by simp
        rw [this]; rfl
      · rcases Nat.lt_or_ge i 9 with h9 | h9
        · have : 2 ^ (64 - 7 * 8) ≤ 2 ^ (64 - 7 * i) := Nat.pow_le_pow_right (by decide) (by omega)
          omega
        · obtain rfl : i = 9 := by omega
          have : c.toNat ≤ 1 := by omega
          show c.toNat < 2
          omega
    · rw [if_neg h128] at h
      have h9 : i < 9 := by omega
      obtain ⟨x, e1, e2, e3, e4⟩ := rdNum_inv q (i + 1) _ N q' (by omega) h
      have hx : 0 < x := by omega
      refine ⟨(c.toNat - 128) + 128 * x, ?_, ?_, by omega, ?_⟩
      · rw [num, if_neg (by omega), e1]
        have e5 : ((c.toNat - 128) + 128 * x) % 128 + 128 = c.toNat := by omega
        have e6 : ((c.toNat - 128) + 128 * x) / 128 = x := by omega
        rw [e5, e6]
        have : UInt8.ofNat c.toNat = c := by simp
        rw [this]; rfl
      · rw [e2, pw7, Nat.add_mul, Nat.mul_comm 128 x, Nat.mul_assoc, Nat.add_assoc]
      · have h5 : 2 ^ (64 - 7 * i) = 128 * 2 ^ (64 - 7 * (i + 1)) := by
          rw [show 64 - 7 * i = 7 + (64 - 7 * (i + 1)) by omega, Nat.pow_add]
        rw [h5]
        omega
theorem rdNum_inv0 {q q' : List UInt8} {N : Nat} (h : rdNum 0 0 q = some (N, q')) : q = num N ++ q' ∧ N < 18446744073709551616 := by
  obtain ⟨x, e1, e2, _, e4⟩ := rdNum_inv q 0 0 N q' (by decide) h
  obtain rfl : N = x := by simpa using e2
  exact ⟨e1, e4⟩
theorem rdLen_inv0 {q q' : List UInt8} {N : Nat} (h : rdLen q = some (N, q')) : q = num N ++ q' ∧ N ≤ q'.length := by
  obtain ⟨h1, h2⟩ := rdLen_inv h
  exact ⟨(rdNum_inv0 h1).1, h2⟩
theorem uns_sgn {u : Nat} : uns (sgn u) = u := by
  unfold sgn uns
  split <;> split <;> omega
theorem rdL_inv {g : List UInt8 → Option (V × List UInt8)} {f : Nat} (hg : ∀ q v q', g q = some (v, q') → q = v.enc ++ q' ∧ v.ok = true ∧ v.dep ≤ f) : ∀ (n : Nat) (q : List UInt8) (L : List V) (q' : List UInt8), rdL g n q = some (L, q') → q = encL L ++ q' ∧ okL L = true ∧ depL L ≤ f
  | 0, q, L, q', h => by
    simp only [rdL, Option.some.injEq, Prod.mk.injEq] at h
    obtain ⟨rfl, rfl⟩ := h
    exact ⟨by rw [encL]; rfl, by rw [okL], by rw [depL]; exact Nat.zero_le _⟩
  | n + 1, q, L, q', h => by
    have hl := rdL_length h
    cases L with
    | nil => simp at hl
    | cons v L =>
      obtain ⟨q2, h1, h2⟩ := rdL_cons h
      obtain ⟨a1, a2, a3⟩ := hg _ _ _ h1
      obtain ⟨b1, b2, b3⟩ := rdL_inv hg n _ _ _ h2
      refine ⟨by rw [a1, b1, encL, List.append_assoc], by rw [okL, a2, b2]; rfl, by rw [depL]; omega⟩
theorem rdVal_inv' (f : Nat) : ∀ (q : List UInt8) (v : V) (q' : List UInt8), rdVal f q = some (v, q') → q = v.enc ++ q' ∧ v.ok = true ∧ v.dep ≤ f := by
  induction f using Nat.strongRecOn with
  | ind f ih =>
    intro q v q' h
    cases q with
    | nil => cases f <;> simp [rdVal] at h
    | cons x q =>
      have hx : ∀ n : Nat, x.toNat = n → x = UInt8.ofNat n := fun n hn => by rw [← hn]; simp
      rcases rdVal_inv h with ⟨h1, u, h2, rfl⟩ | ⟨h1, N, q1, h2, rfl, rfl⟩ | ⟨h1, f', N, q1, L, rfl, h2, h3, rfl⟩
      · obtain ⟨e1, e2⟩ := rdNum_inv0 h2
        refine ⟨?_, by rw [V.ok]; simp, by rw [V.dep, if_neg (by decide)]; exact Nat.zero_le _⟩
        rw [V.enc, if_pos rfl, uns_sgn, e1, hx 1 h1]; rfl
      · obtain ⟨e1, e2⟩ := rdLen_inv0 h2
        refine ⟨?_, by rw [V.ok]; simp, by rw [V.dep, if_neg (by decide)]; exact Nat.zero_le _⟩
        rw [V.enc, if_neg (by decide), if_pos rfl, e1, hx 2 h1, List.length_take, Nat.min_eq_left e2]
        simp
      · obtain ⟨e1, e2⟩ := rdLen_inv0 h2
        obtain ⟨b1, b2, b3⟩ := rdL_inv (ih f' (by omega)) _ _ _ _ h3
        have hL := rdL_length h3
        refine ⟨?_, by rw [V.ok, b2]; simp, by rw [V.dep, if_pos rfl]; omega⟩
        rw [V.enc, if_neg (by decide), if_neg (by decide), e1, hx 3 h1, hL, b1]
        simp
end Cod
end
section
namespace Go.Proofs.YtejdjnkilikehaaGreatDoor
open Go Eng Cod
set_option maxRecDepth 100000
section
variable {n : Nat} {D : List Deferred} {W : World} {Bo : List Nat} {F : List (Nat × Value)} {l : SH} {d : Option Tmp} {ty : TypeId} {ps : String} {af : Array Edge} {g : Option (Nat × Bool)} {x y : Operand} {tb : TypeId} {T : TypeId} {v : Value}
theorem y_neqf (hx : evO F x = some (.iface T v) := by rfl) (hy : evO F y = some .nilIface := by rfl) : Y Tryz.prog n D W Bo ⟨d, .binOp .neq 20 x y tb, ty, ps, af, g⟩ F l (.bool true) :=
  .mk (by simp) fun a w ha _ => by simp only [execOp, ha.eval hx, ha.eval hy]; kernel_rfl
theorem y_taE (hx : evO F x = some (.iface 37 v) := by rfl) : Y Tryz.prog n D W Bo ⟨d, .typeAssert x 20 37 false, ty, ps, af, g⟩ F l v :=
  .mk (by simp) fun a w ha _ => by simp only [execOp, ha.eval hx]; kernel_rfl
end
abbrev bV (b : Nat) (cs : Array Value) : Res := .blk b (.cells cs 76 (0, 0))
abbrev bE (b : Nat) (z : Int) : Res := .blk b (.cells #[I z] 37 (0, 0))
theorem decode_caught (w : World) (b2 b3 : Nat) (k n : Int) (s : List UInt8) (a : Option Addr) (m c : Nat) (z : Int) (hp : ∀ p ∈ [bV b2 #[I k, I n, .string (sb s), .slice a m c], bE b3 z], p.holds w) (hnd : (keys [bV b2 #[I k, I n, .string (sb s), .slice a m c], bE b3 z]).Nodup) :
    GivesD Tryz.prog 145 [.pointer (some ⟨b2, 0, none⟩), .pointer (some ⟨b3, 0, none⟩)] (.panicking [{ v := codeE, recovered := false }]) w (keys [bV b2 #[I k, I n, .string (sb s), .slice a m c], bE b3 z]) (.panicking [{ v := codeE, recovered := true }]) [bV b2 #[I 0, I 0, .string (sb []), .slice none 0 0], bE b3 10] := by
  refine callsD_of_wpS Tryz.func145 rfl fun c₀ cs hu => ?_
  apply wpS_seq
  apply wpS_region
  simp [wpOpsS, go_sem, recoverD, hu, Tryz.ntmps145, Exit.thenS]
  refine wpS_of_wp ?_
  rw [← wpIn_wide (n := 0), ← Fw_none]
  refine (show CP none Tryz.prog 9 [] w (keys [bV b2 #[I k, I n, .string (sb s), .slice a m c], bE b3 z]) _ _ [(0, .pointer (some ⟨b2, 0, none⟩)), (1, .pointer (some ⟨b3, 0, none⟩)), (2, codeE)] [bV b2 #[I k, I n, .string (sb s), .slice a m c], bE b3 z] from ?_) _ _ ⟨?_, ?_, ?_⟩ (St.borrowL hp hnd)
  · refine c_seq <| c_reg <| s_y y_mv <| s_y y_neqf <| s_nil <| q_then <| c_t <| ?_
    refine c_regL [] <| r_y 0 rfl (y_bval (cs := [I 0, I 0, .string (sb []), .slice none 0 0])) <| r_y 1 rfl y_mv <| r_y 2 rfl y_taE <| r_W 3 rfl <| s_sta (b := b2) (vs := #[I 0, I 0, .string (sb []), .slice none 0 0]) (cs := #[I k, I n, .string (sb s), .slice a m c]) (h1 := by intro u hu; simp at hu; rcases hu with rfl | rfl | rfl <;> rfl) (hl := rfl) (hs1 := rfl) ?_
    refine r_K <| r_W 4 rfl <| s_st (b := b3) (v := I 10) (cs := #[I z]) (hl := Nat.zero_lt_one) ?_
    refine r_K <| r_E <| ?_
    intro a' w' ha hw
    exact ⟨ha.defers, _, rfl, .tuple #[], by rw [results_eq, show Tryz.f145.results = #[] from Tryz.results145]; simp, rfl, rfl, hw⟩
  · simp
  · simp
  · intro t v ht
    rcases t with _ | _ | _ | t
    · rw [← Option.some.inj (show some (Value.pointer (some ⟨b2, 0, none⟩)) = some v from ht)]; simp
    · rw [← Option.some.inj (show some (Value.pointer (some ⟨b3, 0, none⟩)) = some v from ht)]; simp
    · rw [← Option.some.inj (show some codeE = some v from ht)]; simp
    · cases (show (none : Option Value) = some v from ht)
theorem Decode_no (w : World) (a : Option Addr) (c : Nat) (q : List UInt8) (hr : Rd w a (bs q)) (hc : q.length ≤ c) (hm : c ≤ 9223372036854775807) (hq : q.length ≤ 2000000000000) (h : ∀ v, rdVal 16 q ≠ some (v, [])) :
    Pure Tryz.prog 70 [.slice a q.length c] w (.tuple #[.agg #[I 0, I 0, .string (sb []), .slice none 0 0], I 10]) := by
  refine enterD Tryz.func70 Tryz.ntmps70 ?_
  refine c_seq <| c_reg <| s_alloc fun b2 => s_alloc fun b3 => s_nil <| q_then <| c_seq <| c_reg <| s_y y_func <| s_deferC <| s_nil <| q_then <| ?_
  refine c_seq <| c_reg <| s_y y_mv <| s_y (y_blds (places := #[(0, 1)]) (cs := [.slice a q.length c]) Tryz.underlying140 (fun w => by kernel_rfl)) <| s_box rfl fun b8 => s_y y_as <| s_nil <| q_then <| ?_
  have fin : ∀ (F : List (Nat × Value)) (k n : Int) (s : List UInt8) (a' : Option Addr) (m c' : Nat) (l : SH), lkO F 2 = some (.pointer (some ⟨b2, 0, none⟩)) → lkO F 3 = some (.pointer (some ⟨b3, 0, none⟩)) →
      QP 20 [{ target := .fn (.func 145) [.pointer (some ⟨b2, 0, none⟩), .pointer (some ⟨b3, 0, none⟩)].toArray, args := #[] }] w [] (bodyPostD Tryz.prog Tryz.f70 fun e w' => e = .returned (.tuple #[.agg #[I 0, I 0, .string (sb []), .slice none 0 0], I 10]) ∧ St w [] w' []) (.panic [{ v := codeE, recovered := false }]) F (bV b2 #[I k, I n, .string (sb s), .slice a' m c'] :: bE b3 0 :: l) := fun F k n s a' m c' l h2 h3 =>
    leave_D (ps0 := [bV b2 #[I k, I n, .string (sb s), .slice a' m c'], bE b3 0]) (l2 := l) (lx := [bV b2 #[I 0, I 0, .string (sb []), .slice none 0 0], bE b3 10]) (m := .panicking [{ v := codeE, recovered := false }]) (m' := .panicking [{ v := codeE, recovered := true }]) (fun _ _ h => h) (by simp) rfl (.refl _)
      (fun w' hw => decode_caught w' b2 b3 k n s a' m c' 0 (fun p hp => (hw.own p (List.mem_append_left _ hp)).1) (by have := hw.nd; rw [keys_app, List.nodup_append] at this; exact this.1))
      Tryz.results70 (.cons (rv_ca (b := b2) (cs := #[I 0, I 0, .string (sb []), .slice none 0 0]) (h := h2) (hl := rfl)) (.cons (rv_cf (b := b3) (v := I 10) (h := h3)) .nil)) fun w' hw => ⟨rfl, hw.sub (List.nil_sublist _)⟩
  refine c_seq <| c_reg <| s_y y_mv <| ?_
  cases h1 : rdVal 16 q with
  | none =>
    refine s_diesB (b := b8) (fun w' hw => value_no 16 w' b8 a c q (Nat.le_refl _) ?_ hm hq h1 (hw.own _ (.head _)).1) (fun _ => .head _) fun x => q_pt <| ?_
    · by_cases hne : q = []
      · exact .inl hne
      · exact .inr ⟨hr.st hw, hc, hr.apart (fun h => hne (by cases q <;> simp_all [bs])) hw.new⟩
    · exact q_perm (l' := bV b2 #[I 0, I 0, .string (sb []), .slice none 0 0] :: bE b3 0 :: [.blk b8 (rdObj x)]) (List.reverse_perm [_, _, _]) (fin _ 0 0 [] none 0 0 _ rfl rfl)
  | some p =>
    obtain ⟨v, q'⟩ := p
    have hq' : q' ≠ [] := fun e => h v (e ▸ h1)
    have hl' : q'.length ≠ 0 := fun e => hq' (List.length_eq_zero_iff.1 e)
    have hne : bs q ≠ [] := by
      cases q with
      | nil => simp [rdVal] at h1
      | cons x q => exact List.cons_ne_nil _ _
    refine s_chg (b := b8) (fun w' hw => value_ok 16 w' b8 a c q v q' (Nat.le_refl _) ⟨hr.st hw, hc, hr.apart hne hw.new⟩ hm hq h1 (hw.own _ (.head _)).1) (fun _ => .head _) (fun z hz => s_perm (List.perm_append_comm_assoc [_, _, _] _ _) ?_)
    obtain ⟨a3, c3, va, vc, rs3⟩ := z
    obtain ⟨hz1, hz2⟩ := hz
    simp only at hz1 hz2
    refine s_sta (b := b2) (vs := #[I v.k, I v.n, .string (sb v.s), .slice va v.l.length vc]) (cs := #[I 0, I 0, .string (sb []), .slice none 0 0]) (h1 := by intro u hu; simp at hu; rcases hu with rfl | rfl | rfl | rfl <;> rfl) (hl := rfl) (hs1 := rfl) ?_
    refine s_nil <| q_then <| c_seq <| c_reg <| s_y y_mv <| s_y y_mv <| s_y y_nc <| s_y y_fa <| s_y (y_ld (v := .slice a3 q'.length c3)) <| s_y y_len <| s_kf (y_eql (p := ((q'.length : Nat) : Int)) (q := 0)) (by omega) <| s_dies (fun w' hw => want_no w' _) <| q_pt <| ?_
    exact q_perm (l' := bV b2 #[I v.k, I v.n, .string (sb v.s), .slice va v.l.length vc] :: bE b3 0 :: (rblk b8 a3 q'.length c3 :: (rs3 ++ []))) ((List.reverse_perm [_, _, _]).append_right _) (fin _ v.k v.n v.s va v.l.length vc _ rfl rfl)
end Go.Proofs.YtejdjnkilikehaaGreatDoor
end
section
namespace Eng
open Go Go.RowKit
theorem y_remu8 {P : Program} {n : Nat} {D : List Deferred} {W : World} {Bo : List Nat} {F : List (Nat × Value)} {l : SH} {d : Option Tmp} {ty : TypeId} {ps : String} {af : Array Edge} {g : Option (Nat × Bool)} {x y : Operand} {ta tb : TypeId}
    {p q : Nat} (hx : evO F x = some (.int .u8 (p : Int)) := by rfl) (hy : evO F y = some (.int .u8 (q : Int)) := by rfl) (h1 : 0 < q := by omega) (hp : p < 256 := by omega) : Y P n D W Bo ⟨d, .binOp .rem ta x y tb, ty, ps, af, g⟩ F l (.int .u8 ((p % q : Nat) : Int)) :=
  .mk (by simp) fun a w ha _ => by
    have h5 : q ≠ 0 := by omega
    have h6 : IntKind.u8.wrap ((p : Int) % (q : Int)) = ((p % q : Nat) : Int) := by
      rw [← Int.natCast_emod, wrap_u8]
      have := Nat.mod_le p q
      omega
    simp [execOp, ha.eval hx, ha.eval hy, eqGuard, binOp, Op.intDiv, h5, Int.tmod_eq_emod_of_nonneg]
theorem getD_of_lt {q : List UInt8} {k : Nat} (h : k < q.length) : q.drop k = q.getD k 0 :: q.drop (k + 1) := by
  rw [List.drop_eq_getElem_cons h, List.getD_eq_getElem?_getD, List.getElem?_eq_getElem h]; rfl
theorem getD_of_ge {q : List UInt8} {k : Nat} (h : q.length ≤ k) : q.getD k 0 = 0 := by
  rw [List.getD_eq_getElem?_getD, List.getElem?_eq_none h]; rfl
end Eng
namespace Go.Proofs.YtejdjnkilikehaaGreatDoor
open Go Eng Cod
set_option maxRecDepth 100000
abbrev rrb (b : Nat) (a : Option Addr) (n c At : Nat) (bd : Bool) : Res := .blk b (.cells #[.slice a n c, I At, .bool bd] 144 (0, 0))
theorem rnext_ok (w : World) (b : Nat) (a : Option Addr) (c : Nat) (q : List UInt8) (At : Nat) (hr : q ≠ [] → RdX w b a q c) (hm : q.length ≤ 2000000000000) (hat : At ≤ q.length) (hp : (rrb b a q.length c At false).holds w) :
    Gives Tryz.prog 195 [.pointer (some ⟨b, 0, none⟩)] w [b] (fun _ : Nat × Bool => B (q.getD At 0)) (fun x => [rrb b a q.length c x.1 x.2]) (fun x => (At < q.length ∧ x.1 = At + 1 ∧ x.2 = false) ∨ (q.length ≤ At ∧ x.1 = At ∧ x.2 = true)) := by
  refine enterR Tryz.func195 Tryz.ntmps195 hp ?_
  by_cases h : At < q.length
  · have hr := hr (fun e => by rw [e] at h; cases h)
    have hne : ∀ k ∈ keys [rrb b a q.length c At false], a.map (·.block) ≠ some k := by intro k hk; cases List.mem_singleton.1 hk; exact hr.ne
    refine c_seq <| c_reg <| s_y y_as <| s_nil <| q_then <| c_seq <| c_seq <| c_regd <| d_y y_mv <| d_y y_nc <| d_y y_fa <| d_y (y_ld (v := I At)) <| d_y y_mv <| d_y y_nc <| d_y y_fa <| d_y (y_ld (v := .slice a q.length c)) <| d_y y_len <| d_kf (y_geq (p := ((At : Nat) : Int)) (q := ((q.length : Nat) : Int))) (by omega) <| d_nil <| q_then <| c_f <| c_skip <| q_then <| c_seq <| c_reg <| s_y y_mv <| s_y y_nc <| s_y y_fa <| s_y (y_ld (v := I At)) <| s_y (y_add (p := ((At : Nat) : Int)) (q := 1)) <| s_y y_nc <| s_y y_fa <| ?_
    rw [show ((At : Nat) : Int) + 1 = ((At + 1 : Nat) : Int) by omega]
    refine s_st (b := b) (v := I (At + 1 : Nat)) (cs := #[.slice a q.length c, I At, .bool false]) (hl := show 1 < 3 by decide) ?_
    refine s_nil <| q_then <| c_seq <| c_regd <| d_y y_mv <| d_y y_nc <| d_y y_fa <| d_y (y_ld (v := .slice a q.length c)) <| d_y y_mv <| d_y y_nc <| d_y y_fa <| d_y (y_ld (v := I (At + 1 : Nat))) <| d_y (y_sub (p := ((At + 1 : Nat) : Int)) (q := 1)) <| ?_
    rw [show ((At + 1 : Nat) : Int) - 1 = ((At : Nat) : Int) by omega]
    refine d_y (y_ixs1 (xs := bs q) (hr := rdW hr.rd hne)) <| d_y (y_ldb (q := q) (i := At) (hr := rdW hr.rd hne)) <| d_y y_as <| d_nil <| q_then <| c_ret <| ?_
    exact ret1 Tryz.results195 rv_t fun w' hw => ⟨(At + 1, false), .inl ⟨h, rfl, rfl⟩, rfl, hw⟩
  · rw [getD_of_ge (by omega)]
    refine c_seq <| c_reg <| s_y y_as <| s_nil <| q_then <| c_seq <| c_seq <| c_regd <| d_y y_mv <| d_y y_nc <| d_y y_fa <| d_y (y_ld (v := I At)) <| d_y y_mv <| d_y y_nc <| d_y y_fa <| d_y (y_ld (v := .slice a q.length c)) <| d_y y_len <| d_kt (y_geq (p := ((At : Nat) : Int)) (q := ((q.length : Nat) : Int))) (by omega) <| d_nil <| q_then <| c_t <| c_seq <| c_reg <| s_y y_mv <| s_y y_nc <| s_y y_fa <| s_st (b := b) (v := .bool true) (cs := #[.slice a q.length c, I At, .bool false]) (hl := show 2 < 3 by decide) ?_
    refine s_nil <| q_then <| c_seq <| c_reg <| s_y y_as <| s_nil <| q_then <| c_ret <| q_ret <| ?_
    exact ret1 Tryz.results195 rv_t fun w' hw => ⟨(At, true), .inr ⟨by omega, rfl, rfl⟩, rfl, hw⟩
theorem rnumber_ok (w : World) (b : Nat) (a : Option Addr) (c : Nat) (q : List UInt8) (At : Nat) (hr : q ≠ [] → RdX w b a q c) (hm : q.length ≤ 2000000000000) (hat : At ≤ q.length) (hp : (rrb b a q.length c At false).holds w) :
    Gives Tryz.prog 196 [.pointer (some ⟨b, 0, none⟩)] w [b] (fun x : Nat × Nat × Bool => U x.1) (fun x => [rrb b a q.length c x.2.1 x.2.2]) (fun x => x.2.1 ≤ q.length ∧ x.1 < 18446744073709551616 ∧ rdNum 0 0 (q.drop At) = if x.2.2 = true then none else some (x.1, q.drop x.2.1)) := by
  obtain ⟨R, hR⟩ : ∃ R, R = rdNum 0 0 (q.drop At) := ⟨_, rfl⟩
  rw [← hR]
  refine enterR Tryz.func196 Tryz.ntmps196 hp ?_
  refine c_seq <| c_reg <| s_y y_as <| s_nil <| q_then <| c_seq <| c_reg <| s_y y_as <| s_nil <| q_then <| c_seq <| c_seq <| c_reg <| s_y y_as <| s_nil <| q_then <| c_block <| ?_
  refine c_loop (σ := Nat × Nat × Nat) (fun x => [(0, .pointer (some ⟨b, 0, none⟩)), (3, U x.2.1), (4, I x.1)]) (fun x => [rrb b a q.length c x.2.2 false]) (fun x => rdNum x.1 x.2.1 (q.drop x.2.2) = R ∧ x.1 ≤ 9 ∧ x.2.1 < 2 ^ (7 * x.1) ∧ x.2.2 ≤ q.length) (fun x => q.length - x.2.2) (0, 0, At) ⟨hR.symm, Nat.zero_le _, Nat.zero_lt_one, hat⟩ ⟨rfl, rfl, rfl, trivial⟩ (.refl _) ?_
  rintro ⟨i, u, p⟩ ⟨h1, h2, h3, h4⟩
  simp only at h1 h2 h3 h4
  refine c_seq <| c_seq <| c_reg <| s_y y_mv <| s_y y_nc <| s_y y_fa <| s_y (y_ld (v := .bool false)) <| s_y (v := .bool true) (y_not (b := false)) <| s_nil <| q_then <| c_t <| c_skip <| q_then <| c_seq <| c_block <| c_seq <| c_reg <| s_y y_mv <| s_chg (b := b) (fun w' hw => rnext_ok w' b a c q p (fun h => (hr h).st hw) hm h4 (hw.own _ (.head _)).1) (fun _ => .head _) (fun y hy => ?_)
  obtain ⟨p2, bd⟩ := y
  simp only at hy
  obtain ⟨x, hx⟩ : ∃ x, x = q.getD p 0 := ⟨_, rfl⟩
  rw [← hx]
  have hlt := x.toNat_lt
  have hx0 : q.length ≤ p → x.toNat = 0 := fun h => by rw [hx, getD_of_ge h]; rfl
  have hd : p < q.length → q.drop p = x :: q.drop (p + 1) := fun h => by rw [hx]; exact getD_of_lt h
  have hd0 : q.length ≤ p → q.drop p = [] := fun h => List.drop_eq_nil_of_le h
  refine s_y y_as <| s_nil <| q_then <| c_seq <| ?_
  obtain ⟨cd, hcd⟩ : ∃ cd : Bool, cd = decide ((i = 9 ∧ 1 < x.toNat) ∨ (0 < i ∧ x.toNat = 0)) := ⟨_, rfl⟩
  refine c_join [(0, .pointer (some ⟨b, 0, none⟩)), (3, U u), (4, I i), (5, B x), (28, .bool cd)] [rrb b a q.length c p2 bd] ?_ ?_
  · by_cases h9 : i = 9
    · subst h9
      by_cases hx1 : 1 < x.toNat
      · obtain rfl : cd = true := by rw [hcd]; exact decide_eq_true (.inl ⟨rfl, hx1⟩)
        refine c_reg <| s_y y_mv <| s_kt (y_eql (p := ((9 : Nat) : Int)) (q := 9)) rfl <| s_y y_mv <| s_y y_mv <| s_kt (y_gtr (p := (x.toNat : Int)) (q := 1)) (by omega) <| s_y y_pk <| s_y y_mv <| s_no <| s_no <| s_no <| s_nu <| s_nu <| s_no <| s_y y_pk <| s_nil <| ?_
        exact q_join ⟨rfl, rfl, rfl, rfl, rfl, trivial⟩ (.refl _)
      · by_cases hx00 : x.toNat = 0
        · obtain rfl : cd = true := by rw [hcd]; exact decide_eq_true (.inr ⟨by decide, hx00⟩)
          refine c_reg <| s_y y_mv <| s_kt (y_eql (p := ((9 : Nat) : Int)) (q := 9)) rfl <| s_y y_mv <| s_y y_mv <| s_kf (y_gtr (p := (x.toNat : Int)) (q := 1)) (by omega) <| s_y y_pk <| s_y y_mv <| s_y y_mv <| s_kt (y_gtr (p := ((9 : Nat) : Int)) (q := 0)) (by omega) <| s_y y_mv <| s_y y_mv <| s_kt (y_eql (p := (x.toNat : Int)) (q := 0)) (by omega) <| s_y y_pk <| s_y y_pk <| s_nil <| ?_
          exact q_join ⟨rfl, rfl, rfl, rfl, rfl, trivial⟩ (.refl _)
        · obtain rfl : cd = false := by rw [hcd]; exact decide_eq_false (by omega)
          refine c_reg <| s_y y_mv <| s_kt (y_eql (p := ((9 : Nat) : Int)) (q := 9)) rfl <| s_y y_mv <| s_y y_mv <| s_kf (y_gtr (p := (x.toNat : Int)) (q := 1)) (by omega) <| s_y y_pk <| s_y y_mv <| s_y y_mv <| s_kt (y_gtr (p := ((9 : Nat) : Int)) (q := 0)) (by omega) <| s_y y_mv <| s_y y_mv <| s_kf (y_eql (p := (x.toNat : Int)) (q := 0)) (by omega) <| s_y y_pk <| s_y y_pk <| s_nil <| ?_
          exact q_join ⟨rfl, rfl, rfl, rfl, rfl, trivial⟩ (.refl _)
    · by_cases hi0 : i = 0
      · obtain rfl : cd = false := by rw [hcd]; exact decide_eq_false (by omega)
        refine c_reg <| s_y y_mv <| s_kf (y_eql (p := ((i : Nat) : Int)) (q := 9)) (by omega) <| s_y y_mv <| s_no <| s_no <| s_y y_pk <| s_y y_mv <| s_y y_mv <| s_kf (y_gtr (p := ((i : Nat) : Int)) (q := 0)) (by omega) <| s_y y_mv <| s_no <| s_no <| s_y y_pk <| s_y y_pk <| s_nil <| ?_
        exact q_join ⟨rfl, rfl, rfl, rfl, rfl, trivial⟩ (.refl _)
      · by_cases hx00 : x.toNat = 0
        · obtain rfl : cd = true := by rw [hcd]; exact decide_eq_true (.inr ⟨by omega, hx00⟩)
          refine c_reg <| s_y y_mv <| s_kf (y_eql (p := ((i : Nat) : Int)) (q := 9)) (by omega) <| s_y y_mv <| s_no <| s_no <| s_y y_pk <| s_y y_mv <| s_y y_mv <| s_kt (y_gtr (p := ((i : Nat) : Int)) (q := 0)) (by omega) <| s_y y_mv <| s_y y_mv <| s_kt (y_eql (p := (x.toNat : Int)) (q := 0)) (by omega) <| s_y y_pk <| s_y y_pk <| s_nil <| ?_
          exact q_join ⟨rfl, rfl, rfl, rfl, rfl, trivial⟩ (.refl _)
        · obtain rfl : cd = false := by rw [hcd]; exact decide_eq_false (by omega)
          refine c_reg <| s_y y_mv <| s_kf (y_eql (p := ((i : Nat) : Int)) (q := 9)) (by omega) <| s_y y_mv <| s_no <| s_no <| s_y y_pk <| s_y y_mv <| s_y y_mv <| s_kt (y_gtr (p := ((i : Nat) : Int)) (q := 0)) (by omega) <| s_y y_mv <| s_y y_mv <| s_kf (y_eql (p := (x.toNat : Int)) (q := 0)) (by omega) <| s_y y_pk <| s_y y_pk <| s_nil <| ?_
          exact q_join ⟨rfl, rfl, rfl, rfl, rfl, trivial⟩ (.refl _)
  have hpq : p2 ≤ q.length := by omega
  cases cd with
  | true =>
    have hc := of_decide_eq_true hcd.symm
    refine c_t <| c_seq <| c_reg <| s_y y_mv <| s_y y_nc <| s_y y_fa <| s_st (b := b) (v := .bool true) (cs := #[.slice a q.length c, I p2, .bool bd]) (hl := show 2 < 3 by decide) ?_
    refine s_nil <| q_then <| c_seq <| c_reg <| s_y y_as <| s_nil <| q_then <| c_ret <| q_ret <| q_retb <| q_ret <| q_ret <| q_retb <| q_ret <| ?_
    refine ret1 Tryz.results196 rv_t fun w' hw => ⟨(0, p2, true), ⟨hpq, show (0 : Nat) < 18446744073709551616 by decide, ?_⟩, rfl, hw⟩
    rw [if_pos rfl, ← h1]
    rcases Nat.lt_or_ge p q.length with h | h
    · rw [hd h, rdNum, if_neg (by omega)]
    · rw [hd0 h, rdNum]
  | false =>
    have hc := of_decide_eq_false hcd.symm
    have h64 := lt64 (i := i) (p := x.toNat % 128) h2 (by omega) (by omega)
    have hu64 : u < 18446744073709551616 := by
      have := Nat.pow_le_pow_right (show 0 < 2 by decide) (show 7 * i ≤ 63 by omega)
      omega
    have hs64 := sum64 h2 h3 (p := x.toNat % 128) (by omega) (by omega)
    refine c_f <| c_skip <| q_then <| c_seq <| c_reg <| s_y y_mv <| s_y y_mv <| s_y (y_remu8 (p := x.toNat) (q := 128)) <| s_y (y_cvn (k := .u64) (p := ((x.toNat % 128 : Nat) : Int)) (hw := wrap_u64 (by omega) (by omega))) <| s_y y_mv <| s_y (y_mul (p := 7) (q := (i : Int))) <| ?_
    rw [show (7 : Int) * (i : Int) = ((7 * i : Nat) : Int) by omega]
    refine s_y (y_shlW (7 * i) (p := x.toNat % 128)) <| ?_
    rw [Nat.mod_eq_of_lt h64]
    refine s_y (y_add64 (p := u) (q := x.toNat % 128 * 2 ^ (7 * i)) (hp := hs64)) <| s_y y_as <| s_nil <| q_then <| c_seq <| c_reg <| s_y y_mv <| ?_
    by_cases h128 : x.toNat < 128
    · refine s_kt (y_lss (p := (x.toNat : Int)) (q := 128)) (by omega) <| s_nil <| q_then <| c_t <| c_seq <| c_reg <| s_y y_mv <| s_y y_as <| s_nil <| q_then <| c_ret <| q_retb <| q_ret <| q_ret <| q_retb <| q_ret <| ?_
      refine ret1 Tryz.results196 rv_t fun w' hw => ⟨(u + x.toNat % 128 * 2 ^ (7 * i), p2, bd), ⟨hpq, hs64, ?_⟩, rfl, hw⟩
      rw [← h1]
      rcases hy with ⟨h, rfl, rfl⟩ | ⟨h, rfl, rfl⟩
      · rw [if_neg (by simp), hd h, rdNum, if_pos (by omega), if_pos h128, Nat.mod_eq_of_lt h128]
      · rw [if_pos rfl, hd0 h, rdNum]
    · have hp : p < q.length := Nat.lt_of_not_le fun h => by have := hx0 h; omega
      rcases hy with ⟨h, rfl, rfl⟩ | ⟨h, rfl, rfl⟩
      · refine s_kf (y_lss (p := (x.toNat : Int)) (q := 128)) (by omega) <| s_nil <| q_then <| c_f <| c_skip <| q_nb <| q_then <| c_reg <| s_y y_mv <| s_y (y_add (p := (i : Int)) (q := 1)) <| s_y y_as <| s_nil <| ?_
        rw [show (i : Int) + 1 = ((i + 1 : Nat) : Int) by omega]
        have h9 : i < 9 := by omega
        rw [hd h, rdNum, if_pos (by omega), if_neg h128] at h1
        have e : x.toNat % 128 = x.toNat - 128 := by omega
        refine q_round (i + 1, u + x.toNat % 128 * 2 ^ (7 * i), p + 1) ⟨by rw [e]; exact h1, h9, sum7 h3 (by omega), h⟩ (by show q.length - (p + 1) < q.length - p; omega) ⟨rfl, rfl, rfl, trivial⟩ (.refl _)
      · omega
theorem rd_3n {f : Nat} {x : UInt8} {q : List UInt8} (h : x.toNat = 3) (hl : rdLen q = none) : rdVal f (x :: q) = none := by
  cases f with
  | zero => simp only [rdVal]; rw [if_neg (by omega), if_neg (by omega)]
  | succ f => simp only [rdVal]; rw [if_neg (by omega), if_neg (by omega), if_pos h, hl]
structure LSr where
  j : Nat
  dn : List V
  At : Nat
  bd : Bool
  la : Option Addr
  lc : Nat
  cells : List Value
  rs : SH
structure RVl where
  v : V
  va : Option Addr
  vc : Nat
  At : Nat
  bd : Bool
  rs : SH
abbrev V0 : V := .mk 0 0 [] []
def rd3F (o : Option (List V × List UInt8)) : Option (V × List UInt8) := o.map fun p => (V.mk 3 0 [] p.1, p.2)
theorem rd_bad {f : Nat} {x : UInt8} {q : List UInt8} (h1 : x.toNat ≠ 1) (h2 : x.toNat ≠ 2) (h3 : x.toNat ≠ 3) : rdVal f (x :: q) = none := by
  cases f <;> (simp only [rdVal]; rw [if_neg h1, if_neg h2])
  rw [if_neg h3]
theorem rd_1 {f : Nat} {x : UInt8} {q : List UInt8} (h : x.toNat = 1) : rdVal f (x :: q) = match rdNum 0 0 q with | some (u, q') => some (V.mk 1 (sgn u) [] [], q') | none => none := by
  cases f <;> (simp only [rdVal]; rw [if_pos h]; cases rdNum 0 0 q <;> rfl)
theorem rd_2 {f : Nat} {x : UInt8} {q : List UInt8} (h : x.toNat = 2) : rdVal f (x :: q) = match rdLen q with | some (n, q') => some (V.mk 2 0 (q'.take n) [], q'.drop n) | none => none := by
  cases f <;> (simp only [rdVal]; rw [if_neg (by omega), if_pos h]; cases rdLen q <;> rfl)
theorem rd_3 {f : Nat} {x : UInt8} {q : List UInt8} (h : x.toNat = 3) : rdVal (f + 1) (x :: q) = match rdLen q with | some (n, q') => rd3F (rdL (rdVal f) n q') | none => none := by
  simp only [rdVal]; rw [if_neg (by omega), if_neg (by omega), if_pos h]
  cases rdLen q with
  | none => rfl
  | some p => simp only []; cases rdL (rdVal f) p.1 p.2 <;> rfl
theorem rd_30 {x : UInt8} {q : List UInt8} (h : x.toNat = 3) : rdVal 0 (x :: q) = none := by
  simp only [rdVal]; rw [if_neg (by omega), if_neg (by omega)]
theorem rdLen_bad {q : List UInt8} (h : rdNum 0 0 q = none) : rdLen q = none := by rw [rdLen, h]
theorem rdLen_far {q q' : List UInt8} {N : Nat} (h : rdNum 0 0 q = some (N, q')) (hN : q'.length < N) : rdLen q = none := by
  rw [rdLen, h]; exact if_neg (by omega)
theorem rdLen_yes {q q' : List UInt8} {N : Nat} (h : rdNum 0 0 q = some (N, q')) (hN : N ≤ q'.length) : rdLen q = some (N, q') := by
  rw [rdLen, h]; exact if_pos hN
theorem rvalue_ok : ∀ (f : Nat) (w : World) (b : Nat) (a : Option Addr) (c : Nat) (q : List UInt8) (At : Nat), f ≤ 16 → (q ≠ [] → RdX w b a q c) → q.length ≤ 2000000000000 → At ≤ q.length → (rrb b a q.length c At false).holds w →
    Gives Tryz.prog 148 [.pointer (some ⟨b, 0, none⟩), I (16 - f : Nat)] w [b] (fun x : RVl => vval x.v x.va x.vc) (fun x => rrb b a q.length c x.At x.bd :: x.rs)
      (fun x => x.At ≤ q.length ∧ rdVal f (q.drop At) = (if x.bd = true then none else some (x.v, q.drop x.At)) ∧ (x.bd = false → Vs x.rs x.v (vval x.v x.va x.vc))) := by
  intro f
  induction f using Nat.strongRecOn with
  | ind f ih =>
  intro w b a c q At hf hr hm hat hp
  refine enterR Tryz.func148 Tryz.ntmps148 hp ?_
  refine c_seq <| c_reg <| s_alloc fun b4 => s_nil <| q_then <| c_seq <| c_seq <| c_reg <| s_y y_mv <| s_chg (b := b) (fun w' hw => rnext_ok w' b a c q At (fun h => (hr h).st hw) hm hat (hw.own _ (.tail _ (.head _))).1) (fun _ => .tail _ (.head _)) (fun y hy => ?_)
  obtain ⟨p2, bd⟩ := y
  simp only at hy
  obtain ⟨x, hx⟩ : ∃ x, x = q.getD At 0 := ⟨_, rfl⟩
  rw [← hx]
  have hlt := x.toNat_lt
  have hx0 : q.length ≤ At → x.toNat = 0 := fun h => by rw [hx, getD_of_ge h]; rfl
  have hd : At < q.length → q.drop At = x :: q.drop (At + 1) := fun h => by rw [hx]; exact getD_of_lt h
  have hd0 : q.length ≤ At → q.drop At = [] := fun h => List.drop_eq_nil_of_le h
  have hpq : p2 ≤ q.length := by omega
  refine s_nil <| q_then <| c_block <| c_seq <| c_reg <| ?_
  by_cases hx1 : x.toNat = 1
  · have hlt : At < q.length := Nat.lt_of_not_le fun h => by have := hx0 h; omega
    rcases hy with ⟨h, rfl, rfl⟩ | ⟨h, _⟩
    rotate_left 1
    · omega
    rw [hd hlt, rd_1 hx1]
    refine s_kt (y_eql (p := (x.toNat : Int)) (q := 1)) (by omega) <| s_y y_as <| s_nil <| q_then <| c_t <| c_seq <| c_reg <| s_y y_mv <| s_chg (b := b) (fun w' hw => rnumber_ok w' b a c q (At + 1) (fun h => (hr h).st hw) hm h (hw.own _ (.tail _ (.head _))).1) (fun _ => .tail _ (.head _)) (fun y hy => ?_)
    obtain ⟨N, p3, bd⟩ := y
    obtain ⟨hy1, hy2, hy3⟩ := hy
    simp only at hy1 hy2 hy3
    have hfin : (match rdNum 0 0 (q.drop (At + 1)) with | some (u, q') => some (V.mk 1 (sgn u) [] [], q') | none => none) = if bd = true then none else some (V.mk 1 (sgn N) [] [], q.drop p3) := by
      rw [hy3]; cases bd <;> rfl
    have hvs : Vs [] (V.mk 1 (sgn N) [] []) (vval (V.mk 1 (sgn N) [] []) none 0) := fun w2 _ => by
      rw [Vv]
      exact ⟨none, 0, [], rfl, sgn_R64 hy2, ⟨by simp, by simp⟩, Rd.nil _ _, rfl, fun i => i.elim0⟩
    refine s_y y_as <| s_nil <| q_then <| c_seq <| c_seq <| c_reg <| s_y y_mv <| s_y (y_rem64 (p := N) (q := 2)) <| ?_
    by_cases h2 : N % 2 = 1
    · have es : sgn N = -((N / 2 : Nat) : Int) - 1 := by unfold sgn; rw [if_neg (by omega)]
      refine s_kt (y_eql (k := .u64) (p := ((N % 2 : Nat) : Int)) (q := 1)) (by omega) <| s_nil <| q_then <| c_t <| c_seq <| c_reg <| s_y y_mv <| s_y (y_quo64 (p := N) (q := 2)) <| s_y (y_cvn (k := .i64) (p := ((N / 2 : Nat) : Int)) (hw := wrap_i64 (by unfold R64; omega))) <| s_y (y_neg (p := ((N / 2 : Nat) : Int))) <| s_y (y_sub (p := -((N / 2 : Nat) : Int)) (q := 1)) <| ?_
      rw [← es]
      refine s_y (y_bval (cs := [I 1, I (sgn N), .string (sb []), .slice none 0 0])) <| s_sta (b := b4) (vs := #[I 1, I (sgn N), .string (sb []), .slice none 0 0]) (cs := #[I 0, I 0, .string (sb []), .slice none 0 0]) (h1 := by intro u hu; simp at hu; rcases hu with rfl | rfl | rfl | rfl <;> rfl) (hl := rfl) (hs1 := rfl) ?_
      refine s_nil <| q_then <| c_ret <| q_ret <| q_retb <| q_ret <| ?_
      exact ret1 Tryz.results148 (rv_ca (b := b4) (cs := #[I 1, I (sgn N), .string (sb []), .slice none 0 0]) (hl := rfl)) fun w' hw => ⟨⟨V.mk 1 (sgn N) [] [], none, 0, p3, bd, []⟩, ⟨hy1, hfin, fun _ => hvs⟩, rfl, hw.sub (.cons _ (.refl _))⟩
    · have es : sgn N = ((N / 2 : Nat) : Int) := by unfold sgn; rw [if_pos (by omega)]
      refine s_kf (y_eql (k := .u64) (p := ((N % 2 : Nat) : Int)) (q := 1)) (by omega) <| s_nil <| q_then <| c_f <| c_skip <| q_then <| c_seq <| c_reg <| s_y y_mv <| s_y (y_quo64 (p := N) (q := 2)) <| s_y (y_cvn (k := .i64) (p := ((N / 2 : Nat) : Int)) (hw := wrap_i64 (by unfold R64; omega))) <| ?_
      rw [← es]
      refine s_y (y_bval (cs := [I 1, I (sgn N), .string (sb []), .slice none 0 0])) <| s_sta (b := b4) (vs := #[I 1, I (sgn N), .string (sb []), .slice none 0 0]) (cs := #[I 0, I 0, .string (sb []), .slice none 0 0]) (h1 := by intro u hu; simp at hu; rcases hu with rfl | rfl | rfl | rfl <;> rfl) (hl := rfl) (hs1 := rfl) ?_
      refine s_nil <| q_then <| c_ret <| q_retb <| q_ret <| ?_
      exact ret1 Tryz.results148 (rv_ca (b := b4) (cs := #[I 1, I (sgn N), .string (sb []), .slice none 0 0]) (hl := rfl)) fun w' hw => ⟨⟨V.mk 1 (sgn N) [] [], none, 0, p3, bd, []⟩, ⟨hy1, hfin, fun _ => hvs⟩, rfl, hw.sub (.cons _ (.refl _))⟩
  refine s_kf (y_eql (p := (x.toNat : Int)) (q := 1)) (by omega) <| s_y y_as <| s_nil <| q_then <| c_f <| c_seq <| c_reg <| ?_
  by_cases hx2 : x.toNat = 2
  · have hlt : At < q.length := Nat.lt_of_not_le fun h => by have := hx0 h; omega
    rcases hy with ⟨h, rfl, rfl⟩ | ⟨h, _⟩
    rotate_left 1
    · omega
    rw [hd hlt, rd_2 hx2]
    refine s_kt (y_eql (p := (x.toNat : Int)) (q := 2)) (by omega) <| s_y y_as <| s_nil <| q_then <| c_t <| c_seq <| c_reg <| s_y y_mv <| s_chg (b := b) (fun w' hw => rnumber_ok w' b a c q (At + 1) (fun h => (hr h).st hw) hm h (hw.own _ (.tail _ (.head _))).1) (fun _ => .tail _ (.head _)) (fun y hy => ?_)
    obtain ⟨N, p3, bd⟩ := y
    obtain ⟨hy1, hy2, hy3⟩ := hy
    simp only at hy1 hy2 hy3
    refine s_y y_as <| s_nil <| q_then <| ?_
    cases bd with
    | true =>
      rw [if_pos rfl] at hy3
      rw [rdLen_bad hy3]
      refine c_seq <| c_seq <| c_regd <| d_y y_mv <| d_y y_nc <| d_y y_fa <| d_y (y_ld (v := .bool true)) <| d_y y_mv <| d_no <| d_no <| d_no <| d_no <| d_no <| d_no <| d_no <| d_no <| d_no <| d_no <| d_no <| d_no <| d_no <| d_y y_pk <| d_nil <| q_then <| c_t <| ?_
      refine c_seq <| c_reg <| s_y y_mv <| s_y y_nc <| s_y y_fa <| s_st (b := b) (v := .bool true) (cs := #[.slice a q.length c, I p3, .bool true]) (hl := show 2 < 3 by decide) ?_
      refine s_nil <| q_then <| c_seq <| c_reg <| s_y (y_bval (cs := [I 0, I 0, .string (sb []), .slice none 0 0])) <| s_sta (b := b4) (vs := #[I 0, I 0, .string (sb []), .slice none 0 0]) (cs := #[I 0, I 0, .string (sb []), .slice none 0 0]) (h1 := by intro u hu; simp at hu; rcases hu with rfl | rfl | rfl | rfl <;> rfl) (hl := rfl) (hs1 := rfl) ?_
      refine s_nil <| q_then <| c_ret <| q_ret <| q_retb <| q_ret <| ?_
      exact ret1 Tryz.results148 (rv_ca (b := b4) (cs := #[I 0, I 0, .string (sb []), .slice none 0 0]) (hl := rfl)) fun w' hw => ⟨⟨V0, none, 0, p3, true, []⟩, ⟨hy1, rfl, fun h => by cases h⟩, rfl, hw.sub (.cons _ (.refl _))⟩
    | false =>
      rw [if_neg (by simp)] at hy3
      have hdl : (q.drop p3).length = q.length - p3 := List.length_drop
      refine c_seq <| c_seq <| c_regd <| d_y y_mv <| d_y y_nc <| d_y y_fa <| d_y (y_ld (v := .bool false)) <| d_y y_mv <| d_y y_mv <| d_y y_mv <| d_y y_nc <| d_y y_fa <| d_y (y_ld (v := .slice a q.length c)) <| d_y y_len <| d_y y_mv <| d_y y_nc <| d_y y_fa <| d_y (y_ld (v := I p3)) <| d_y (y_sub (p := ((q.length : Nat) : Int)) (q := ((p3 : Nat) : Int))) <| ?_
      rw [show ((q.length : Nat) : Int) - ((p3 : Nat) : Int) = ((q.length - p3 : Nat) : Int) by omega]
      refine d_y (y_cvn (k := .u64) (p := ((q.length - p3 : Nat) : Int)) (hw := wrap_u64 (by omega) (by omega))) <| ?_
      by_cases hN : q.length - p3 < N
      · rw [rdLen_far hy3 (by rw [hdl]; exact hN)]
        refine d_kt (y_gtr (k := .u64) (p := ((N : Nat) : Int)) (q := ((q.length - p3 : Nat) : Int))) (by omega) <| d_y y_pk <| d_nil <| q_then <| c_t <| ?_
        refine c_seq <| c_reg <| s_y y_mv <| s_y y_nc <| s_y y_fa <| s_st (b := b) (v := .bool true) (cs := #[.slice a q.length c, I p3, .bool false]) (hl := show 2 < 3 by decide) ?_
        refine s_nil <| q_then <| c_seq <| c_reg <| s_y (y_bval (cs := [I 0, I 0, .string (sb []), .slice none 0 0])) <| s_sta (b := b4) (vs := #[I 0, I 0, .string (sb []), .slice none 0 0]) (cs := #[I 0, I 0, .string (sb []), .slice none 0 0]) (h1 := by intro u hu; simp at hu; rcases hu with rfl | rfl | rfl | rfl <;> rfl) (hl := rfl) (hs1 := rfl) ?_
        refine s_nil <| q_then <| c_ret <| q_ret <| q_retb <| q_ret <| ?_
        exact ret1 Tryz.results148 (rv_ca (b := b4) (cs := #[I 0, I 0, .string (sb []), .slice none 0 0]) (hl := rfl)) fun w' hw => ⟨⟨V0, none, 0, p3, true, []⟩, ⟨hy1, rfl, fun h => by cases h⟩, rfl, hw.sub (.cons _ (.refl _))⟩
      · rw [rdLen_yes hy3 (by rw [hdl]; omega)]
        have hne : q ≠ [] := fun e => by rw [e] at h; simp at h
        have hr := hr hne
        have hrd := (hr.drop p3 hy1)
        refine d_kf (y_gtr (k := .u64) (p := ((N : Nat) : Int)) (q := ((q.length - p3 : Nat) : Int))) (by omega) <| d_y y_pk <| d_nil <| q_then <| c_f <| c_skip <| q_then <| c_seq <| c_reg <| s_y y_mv <| s_y y_mv <| s_y y_nc <| s_y y_fa <| s_y (y_ld (v := I p3)) <| s_y y_mv <| s_y (y_cvn (k := .i64) (p := ((N : Nat) : Int)) (hw := wrap_i64 (by unfold R64; omega))) <| s_y (y_add (p := ((p3 : Nat) : Int)) (q := ((N : Nat) : Int))) <| s_y y_nc <| s_y y_fa <| ?_
        rw [show ((p3 : Nat) : Int) + ((N : Nat) : Int) = ((p3 + N : Nat) : Int) by omega]
        refine s_st (b := b) (v := I (p3 + N : Nat)) (cs := #[.slice a q.length c, I p3, .bool false]) (hl := show 1 < 3 by decide) ?_
        refine s_nil <| q_then <| c_seq <| c_regF 18 <| f_y 0 rfl y_mv <| f_y 1 rfl y_nc <| f_y 2 rfl y_fa <| f_y 3 rfl (y_ld (v := .slice a q.length c)) <| f_y 4 rfl y_mv <| f_y 5 rfl y_nc <| f_y 6 rfl y_fa <| f_y 7 rfl (y_ld (v := I (p3 + N : Nat))) <| f_y 8 rfl y_mv <| f_y 9 rfl (y_cvn (k := .i64) (p := ((N : Nat) : Int)) (hw := wrap_i64 (by unfold R64; omega))) <| f_y 10 rfl (y_sub (p := ((p3 + N : Nat) : Int)) (q := ((N : Nat) : Int))) <| ?_
        rw [show ((p3 + N : Nat) : Int) - ((N : Nat) : Int) = ((p3 : Nat) : Int) by omega]
        have hcap := hr.le
        refine f_y 11 rfl y_mv <| f_y 12 rfl y_nc <| f_y 13 rfl y_fa <| f_y 14 rfl (y_ld (v := I (p3 + N : Nat))) <| f_y 15 rfl (y_sllh (i := ((p3 : Nat) : Int)) (j := ((p3 + N : Nat) : Int))) <| f_y 16 rfl (y_b2s (q := (q.drop p3).take N) (hr := rdW (hrd.take N) (by intro k hk; cases List.mem_singleton.1 hk; exact hrd.ne)) (hm := by rw [List.length_take, hdl, Int.toNat_natCast, Int.toNat_natCast]; omega)) <| f_y 17 rfl (y_bval (cs := [I 2, I 0, .string (sb ((q.drop p3).take N)), .slice none 0 0])) <| f_w 18 rfl (s_sta (b := b4) (vs := #[I 2, I 0, .string (sb ((q.drop p3).take N)), .slice none 0 0]) (cs := #[I 0, I 0, .string (sb []), .slice none 0 0]) (h1 := by intro u hu; simp at hu; rcases hu with rfl | rfl | rfl | rfl <;> rfl) (hl := rfl) (hs1 := rfl) (h := f_z <| q_then <| c_ret <| q_retb <| q_ret <| ?_)) (hsub := by repeat (first | exact List.nil_sublist _ | exact List.Sublist.refl _ | apply List.Sublist.cons_cons | apply List.Sublist.cons))
        refine ret1 Tryz.results148 (rv_ca (b := b4) (cs := #[I 2, I 0, .string (sb ((q.drop p3).take N)), .slice none 0 0]) (hl := rfl)) fun w' hw => ⟨⟨V.mk 2 0 ((q.drop p3).take N) [], none, 0, p3 + N, false, []⟩, ⟨by show p3 + N ≤ q.length; omega, by rw [if_neg (by simp)]; show some (_, (q.drop p3).drop N) = some (_, q.drop (p3 + N)); rw [List.drop_drop], fun _ w2 _ => ?_⟩, rfl, hw.sub (.cons _ (.refl _))⟩
        rw [Vv]
        exact ⟨none, 0, [], rfl, by unfold R64; omega, ⟨by rw [List.length_take]; omega, by simp⟩, Rd.nil _ _, rfl, fun i => i.elim0⟩
  refine s_kf (y_eql (p := (x.toNat : Int)) (q := 2)) (by omega) <| s_y y_as <| s_nil <| q_then <| c_f <| c_seq <| c_reg <| ?_
  by_cases hx3 : x.toNat = 3
  · have hlt : At < q.length := Nat.lt_of_not_le fun h => by have := hx0 h; omega
    rcases hy with ⟨h, rfl, rfl⟩ | ⟨h, _⟩
    rotate_left 1
    · omega
    rw [hd hlt]
    refine s_kt (y_eql (p := (x.toNat : Int)) (q := 3)) (by omega) <| s_y y_as <| s_nil <| q_then <| c_t <| c_seq <| c_reg <| s_y y_mv <| s_chg (b := b) (fun w' hw => rnumber_ok w' b a c q (At + 1) (fun h => (hr h).st hw) hm h (hw.own _ (.tail _ (.head _))).1) (fun _ => .tail _ (.head _)) (fun y hy => ?_)
    obtain ⟨N, p3, bd⟩ := y
    obtain ⟨hy1, hy2, hy3⟩ := hy
    simp only at hy1 hy2 hy3
    refine s_y y_as <| s_nil <| q_then <| ?_
    cases bd with
    | true =>
      rw [if_pos rfl] at hy3
      refine c_seq <| c_seq <| c_regd <| d_y y_mv <| d_y y_nc <| d_y y_fa <| d_y (y_ld (v := .bool true)) <| d_y y_mv <| d_no <| d_no <| d_no <| d_no <| d_no <| d_no <| d_no <| d_no <| d_no <| d_no <| d_no <| d_no <| d_no <| d_y y_pk <| d_y y_mv <| d_no <| d_no <| d_y y_pk <| d_nil <| q_then <| c_t <| ?_
      refine c_seq <| c_reg <| s_y y_mv <| s_y y_nc <| s_y y_fa <| s_st (b := b) (v := .bool true) (cs := #[.slice a q.length c, I p3, .bool true]) (hl := show 2 < 3 by decide) ?_
      refine s_nil <| q_then <| c_seq <| c_reg <| s_y (y_bval (cs := [I 0, I 0, .string (sb []), .slice none 0 0])) <| s_sta (b := b4) (vs := #[I 0, I 0, .string (sb []), .slice none 0 0]) (cs := #[I 0, I 0, .string (sb []), .slice none 0 0]) (h1 := by intro u hu; simp at hu; rcases hu with rfl | rfl | rfl | rfl <;> rfl) (hl := rfl) (hs1 := rfl) ?_
      refine s_nil <| q_then <| c_ret <| q_ret <| q_retb <| q_ret <| ?_
      exact ret1 Tryz.results148 (rv_ca (b := b4) (cs := #[I 0, I 0, .string (sb []), .slice none 0 0]) (hl := rfl)) fun w' hw => ⟨⟨V0, none, 0, p3, true, []⟩, ⟨hy1, rd_3n hx3 (rdLen_bad hy3), fun h => by cases h⟩, rfl, hw.sub (.cons _ (.refl _))⟩
    | false =>
      rw [if_neg (by simp)] at hy3
      have hdl : (q.drop p3).length = q.length - p3 := List.length_drop
      refine c_seq <| c_seq <| c_regd <| d_y y_mv <| d_y y_nc <| d_y y_fa <| d_y (y_ld (v := .bool false)) <| d_y y_mv <| d_y y_mv <| d_y y_mv <| d_y y_nc <| d_y y_fa <| d_y (y_ld (v := .slice a q.length c)) <| d_y y_len <| d_y y_mv <| d_y y_nc <| d_y y_fa <| d_y (y_ld (v := I p3)) <| d_y (y_sub (p := ((q.length : Nat) : Int)) (q := ((p3 : Nat) : Int))) <| ?_
      rw [show ((q.length : Nat) : Int) - ((p3 : Nat) : Int) = ((q.length - p3 : Nat) : Int) by omega]
      refine d_y (y_cvn (k := .u64) (p := ((q.length - p3 : Nat) : Int)) (hw := wrap_u64 (by omega) (by omega))) <| ?_
      by_cases hN : q.length - p3 < N
      · refine d_kt (y_gtr (k := .u64) (p := ((N : Nat) : Int)) (q := ((q.length - p3 : Nat) : Int))) (by omega) <| d_y y_pk <| d_y y_mv <| d_no <| d_no <| d_y y_pk <| d_nil <| q_then <| c_t <| ?_
        refine c_seq <| c_reg <| s_y y_mv <| s_y y_nc <| s_y y_fa <| s_st (b := b) (v := .bool true) (cs := #[.slice a q.length c, I p3, .bool false]) (hl := show 2 < 3 by decide) ?_
        refine s_nil <| q_then <| c_seq <| c_reg <| s_y (y_bval (cs := [I 0, I 0, .string (sb []), .slice none 0 0])) <| s_sta (b := b4) (vs := #[I 0, I 0, .string (sb []), .slice none 0 0]) (cs := #[I 0, I 0, .string (sb []), .slice none 0 0]) (h1 := by intro u hu; simp at hu; rcases hu with rfl | rfl | rfl | rfl <;> rfl) (hl := rfl) (hs1 := rfl) ?_
        refine s_nil <| q_then <| c_ret <| q_ret <| q_retb <| q_ret <| ?_
        exact ret1 Tryz.results148 (rv_ca (b := b4) (cs := #[I 0, I 0, .string (sb []), .slice none 0 0]) (hl := rfl)) fun w' hw => ⟨⟨V0, none, 0, p3, true, []⟩, ⟨hy1, rd_3n hx3 (rdLen_far hy3 (by rw [hdl]; exact hN)), fun h => by cases h⟩, rfl, hw.sub (.cons _ (.refl _))⟩
      · refine d_kf (y_gtr (k := .u64) (p := ((N : Nat) : Int)) (q := ((q.length - p3 : Nat) : Int))) (by omega) <| d_y y_pk <| d_y y_mv <| d_y y_mv <| ?_
        cases f with
        | zero =>
          refine d_kt (y_eql (p := ((16 - 0 : Nat) : Int)) (q := 16)) rfl <| d_y y_pk <| d_nil <| q_then <| c_t <| ?_
          refine c_seq <| c_reg <| s_y y_mv <| s_y y_nc <| s_y y_fa <| s_st (b := b) (v := .bool true) (cs := #[.slice a q.length c, I p3, .bool false]) (hl := show 2 < 3 by decide) ?_
          refine s_nil <| q_then <| c_seq <| c_reg <| s_y (y_bval (cs := [I 0, I 0, .string (sb []), .slice none 0 0])) <| s_sta (b := b4) (vs := #[I 0, I 0, .string (sb []), .slice none 0 0]) (cs := #[I 0, I 0, .string (sb []), .slice none 0 0]) (h1 := by intro u hu; simp at hu; rcases hu with rfl | rfl | rfl | rfl <;> rfl) (hl := rfl) (hs1 := rfl) ?_
          refine s_nil <| q_then <| c_ret <| q_ret <| q_retb <| q_ret <| ?_
          exact ret1 Tryz.results148 (rv_ca (b := b4) (cs := #[I 0, I 0, .string (sb []), .slice none 0 0]) (hl := rfl)) fun w' hw => ⟨⟨V0, none, 0, p3, true, []⟩, ⟨hy1, rd_30 hx3, fun h => by cases h⟩, rfl, hw.sub (.cons _ (.refl _))⟩
        | succ f' =>
          rw [rd_3 hx3, rdLen_yes hy3 (by rw [hdl]; omega)]
          simp only []
          obtain ⟨R, hR⟩ : ∃ R, R = rdL (rdVal f') N (q.drop p3) := ⟨_, rfl⟩
          rw [← hR]
          refine d_kf (y_eql (p := ((16 - (f' + 1) : Nat) : Int)) (q := 16)) (by omega) <| d_y y_pk <| d_nil <| q_then <| c_f <| c_skip <| q_then <| c_seq <| c_reg <| s_y (y_bval (cs := [I 3, I 0, .string (sb []), .slice none 0 0])) <| s_alloc fun b8 => s_sta (b := b8) (vs := #[I 3, I 0, .string (sb []), .slice none 0 0]) (cs := #[I 0, I 0, .string (sb []), .slice none 0 0]) (h1 := by intro u hu; simp at hu; rcases hu with rfl | rfl | rfl | rfl <;> rfl) (hl := rfl) (hs1 := rfl) ?_
          refine s_nil <| q_then <| c_seq <| c_seq <| c_reg <| s_y y_as <| s_nil <| q_then <| c_nilrow 76 4 <| c_perm (l' := [.blk b8 (.cells #[I 3, I 0, .string (sb []), .slice none 0 0] 76 (0, 0)), .row none 0 76 4 0 [], rrb b a q.length c p3 false, .blk b4 (.cells #[I 0, I 0, .string (sb []), .slice none 0 0] 76 (0, 0))]) ((List.Perm.swap _ _ _).trans (.cons _ (.cons _ (.swap _ _ _)))) <| c_block <| ?_
          refine c_loop (fun s : LSr => [(0, .pointer (some ⟨b, 0, none⟩)), (1, I (16 - (f' + 1) : Nat)), (4, .pointer (some ⟨b4, 0, none⟩)), (7, U N), (8, .pointer (some ⟨b8, 0, none⟩)), (9, U s.j)])
            (fun s => .blk b8 (.cells #[I 3, I 0, .string (sb []), .slice s.la s.j s.lc] 76 (0, 0)) :: .row s.la s.lc 76 4 s.j s.cells :: rrb b a q.length c s.At s.bd :: .blk b4 (.cells #[I 0, I 0, .string (sb []), .slice none 0 0] 76 (0, 0)) :: s.rs)
            (fun s => s.j ≤ N ∧ s.At ≤ q.length ∧ s.dn.length = s.j ∧ s.cells.length = s.j * 4 ∧ (s.bd = true → R = none) ∧ (s.bd = false → R = (rdL (rdVal f') (N - s.j) (q.drop s.At)).map (fun p => (s.dn ++ p.1, p.2)) ∧ ∀ (i : Nat) (hi : i < s.dn.length), Vs s.rs s.dn[i] (.agg ((s.cells.drop (i * 4)).take 4).toArray)))
            (fun s => N - s.j) ⟨0, [], p3, false, none, 0, [], []⟩ ⟨Nat.zero_le _, hy1, rfl, rfl, (fun h => by cases h), fun _ => ⟨(by rw [hR]; simp only [Nat.sub_zero, List.nil_append]; cases rdL (rdVal f') N (q.drop p3) <;> rfl), fun i hi => absurd hi (Nat.not_lt_zero _)⟩⟩ ⟨rfl, rfl, rfl, rfl, rfl, rfl, trivial⟩ (.refl _) ?_
          rintro ⟨j, dn, A2, bd, la, lc, cells, rs⟩ ⟨i1, i2, i3, i4, i5, i6⟩
          simp only at i1 i2 i3 i4 i5 i6
          by_cases hgo : j < N ∧ bd = false
          · obtain ⟨hjN, rfl⟩ := hgo
            obtain ⟨i6, i7⟩ := i6 rfl
            obtain ⟨m, hm1⟩ : ∃ m, N - j = m + 1 := ⟨N - j - 1, by omega⟩
            rw [hm1] at i6
            refine c_seq <| c_seq <| c_reg <| s_y y_mv <| s_y y_mv <| s_kt (y_lss (k := .u64) (p := ((j : Nat) : Int)) (q := ((N : Nat) : Int))) (by omega) <| s_y y_mv <| s_y y_mv <| s_y y_nc <| s_y y_fa <| s_y (y_ld (v := .bool false)) <| s_y (v := .bool true) (y_not (b := false)) <| s_y y_pk <| s_nil <| q_then <| c_t <| c_skip <| q_then <| c_seq <| c_block <| ?_
            refine c_regG [.blk b8 (.cells #[I 3, I 0, .string (sb []), .slice la j lc] 76 (0, 0))] (List.Sublist.cons_cons _ (List.nil_sublist _)) 9 <| f_y 0 rfl y_fa <| f_y 2 rfl y_mv <| f_y 3 rfl y_mv <| f_y 4 rfl (y_add (p := ((16 - (f' + 1) : Nat) : Int)) (q := 1)) <| f_y 1 rfl (y_ld (v := .slice la j lc)) <| ?_
            rw [show ((16 - (f' + 1) : Nat) : Int) + 1 = ((16 - f' : Nat) : Int) by omega]
            refine f_w 5 rfl (s_chg (b := b) (fun w' hw => ih f' (by omega) w' b a c q A2 (by omega) (fun h => (hr h).st hw) hm i2 (hw.own _ (.tail _ (.tail _ (.head _)))).1) (fun _ => .tail _ (.tail _ (.head _))) (fun z hz => s_perm (List.perm_append_comm_assoc [_, _, _, _] _ _) (f_kk ?_))) (hsub := List.Sublist.cons_cons _ (List.nil_sublist _))
            obtain ⟨v, va, vc, A3, bd3, rs3⟩ := z
            obtain ⟨hz1, hz2, hz3⟩ := hz
            simp only at hz1 hz2 hz3
            refine f_w 6 rfl (s_bslr (cs := [I v.k, I v.n, .string (sb v.s), .slice va v.l.length vc]) fun b45 => f_kk ?_) (hsub := List.Sublist.cons_cons _ (List.nil_sublist _))
            refine f_w 7 rfl (s_app (m := 1) (fun w' hw => Src.slice (rdR (.head _) w' hw) rfl) (h1 := fun v hv => by simp at hv; rcases hv with rfl | rfl | rfl | rfl <;> rfl) (hm := .tail _ (.tail _ (.head _))) (hrep := fun _ _ => .tail _ (.tail _ (.head _))) (hfit := by show j + 1 ≤ maxLen; unfold maxLen; omega) (hby := by show (j + 1) * 56 ≤ 140737488355328; omega) fun a46 c46 h46 => f_kk ?_) (hsub := List.Sublist.cons _ (List.Sublist.cons_cons _ (List.nil_sublist _)))
            refine f_y 8 rfl y_fa <| f_w 9 rfl (s_st (b := b8) (off := 3) (v := .slice a46 (j + 1) c46) (cs := #[I 3, I 0, .string (sb []), .slice la j lc]) (hl := show 3 < 4 by decide) <| f_z <| q_nb <| q_then <| c_reg <| s_y y_mv <| s_y (y_add64 (p := j) (q := 1)) <| s_y y_as <| s_nil <| ?_) (hsub := List.Sublist.cons _ (List.Sublist.cons_cons _ (List.nil_sublist _)))
            have hm2 : N - (j + 1) = m := by omega
            refine q_round ⟨j + 1, dn ++ [v], A3, bd3, a46, c46, cells ++ [I v.k, I v.n, .string (sb v.s), .slice va v.l.length vc], rs3 ++ rs⟩ ⟨hjN, hz1, by rw [List.length_append, i3]; rfl, by rw [List.length_append, i4]; show j * 4 + 4 = (j + 1) * 4; omega, fun hb => ?_, fun hb => ⟨?_, ?_⟩⟩ (by show N - (j + 1) < N - j; omega) ⟨rfl, rfl, rfl, rfl, rfl, rfl, trivial⟩ (.cons _ (.refl _))
            · have hb : bd3 = true := hb
              rw [hb, if_pos rfl] at hz2
              rw [i6, rdL, hz2]; rfl
            · have hb : bd3 = false := hb
              rw [hb, if_neg (by simp)] at hz2
              rw [i6, rdL, hz2]
              show _ = (rdL (rdVal f') (N - (j + 1)) (q.drop A3)).map _
              rw [hm2]
              simp only []
              cases rdL (rdVal f') m (q.drop A3) with
              | none => rfl
              | some p => simp
            · have hb : bd3 = false := hb
              intro i hi
              rw [List.length_append, i3] at hi
              have hi : i < j + 1 := hi
              rcases Nat.lt_or_ge i j with h9 | h9
              · rw [List.getElem_append_left (by omega), cells_old i4 h9]
                exact (i7 i (by omega)).mono fun p hp => List.mem_append_right _ hp
              · obtain rfl : i = j := by omega
                rw [cells_new i4 rfl]
                have e : (dn ++ [v])[i]'(by rw [List.length_append, i3]; exact hi) = v := by simp [← i3]
                rw [e]
                exact (hz3 hb).mono fun p hp => List.mem_append_left _ hp
          · have hfin : rd3F R = if bd = true then none else some (V.mk 3 0 [] dn, q.drop A2) := by
              cases bd with
              | true => rw [i5 rfl]; rfl
              | false =>
                obtain ⟨i6, _⟩ := i6 rfl
                have : j = N := by
                  have : ¬ j < N := fun h => hgo ⟨h, rfl⟩
                  omega
                rw [i6, this, Nat.sub_self, rdL]
                simp [rd3F]
            have hvs : bd = false → Vs (.row la lc 76 4 j cells :: rs) (V.mk 3 0 [] dn) (vval (V.mk 3 0 [] dn) la lc) := fun hb w2 hw2 => by
              obtain ⟨_, i7⟩ := i6 hb
              rw [Vv]
              exact ⟨la, lc, cells, rfl, by unfold R64; omega, ⟨by simp, by omega⟩, Res.rd (hw2 _ (.head _)), by rw [i3, i4], fun i => i7 i.val i.isLt w2 fun p hp => hw2 p (.tail _ hp)⟩
            by_cases hjN : j < N
            · cases bd with
              | false => exact absurd ⟨hjN, rfl⟩ hgo
              | true =>
              refine c_seq <| c_seq <| c_reg <| s_y y_mv <| s_y y_mv <| s_kt (y_lss (k := .u64) (p := ((j : Nat) : Int)) (q := ((N : Nat) : Int))) (by omega) <| s_y y_mv <| s_y y_mv <| s_y y_nc <| s_y y_fa <| s_y (y_ld (v := .bool true)) <| s_y (v := .bool false) (y_not (b := true)) <| s_y y_pk <| s_nil <| q_then <| ?_
              refine c_f <| c_exit <| q_ex <| q_ex <| q_exb <| q_then <| c_seq <| c_reg <| s_y (y_lda (b := b8) (cs := #[I 3, I 0, .string (sb []), .slice la j lc]) (hl := rfl)) <| s_sta (b := b4) (vs := #[I 3, I 0, .string (sb []), .slice la j lc]) (cs := #[I 0, I 0, .string (sb []), .slice none 0 0]) (h1 := by intro u hu; simp at hu; rcases hu with rfl | rfl | rfl | rfl <;> rfl) (hl := rfl) (hs1 := rfl) ?_
              refine s_nil <| q_then <| c_ret <| q_retb <| q_ret <| ?_
              exact ret1 Tryz.results148 (rv_ca (b := b4) (cs := #[I 3, I 0, .string (sb []), .slice la j lc]) (hl := rfl)) fun w' hw => ⟨⟨V.mk 3 0 [] dn, la, lc, A2, true, .row la lc 76 4 j cells :: rs⟩, ⟨i2, hfin, hvs⟩, by rw [← i3]; rfl, (hw.sub (.cons _ (.cons_cons _ (.cons_cons _ (.cons _ (.refl _)))))).perm (.swap _ _ _)⟩
            · refine c_seq <| c_seq <| c_reg <| s_y y_mv <| s_y y_mv <| s_kf (y_lss (k := .u64) (p := ((j : Nat) : Int)) (q := ((N : Nat) : Int))) (by omega) <| s_y y_mv <| s_no <| s_no <| s_no <| s_no <| s_no <| s_y y_pk <| s_nil <| q_then <| ?_
              refine c_f <| c_exit <| q_ex <| q_ex <| q_exb <| q_then <| c_seq <| c_reg <| s_y (y_lda (b := b8) (cs := #[I 3, I 0, .string (sb []), .slice la j lc]) (hl := rfl)) <| s_sta (b := b4) (vs := #[I 3, I 0, .string (sb []), .slice la j lc]) (cs := #[I 0, I 0, .string (sb []), .slice none 0 0]) (h1 := by intro u hu; simp at hu; rcases hu with rfl | rfl | rfl | rfl <;> rfl) (hl := rfl) (hs1 := rfl) ?_
              refine s_nil <| q_then <| c_ret <| q_retb <| q_ret <| ?_
              exact ret1 Tryz.results148 (rv_ca (b := b4) (cs := #[I 3, I 0, .string (sb []), .slice la j lc]) (hl := rfl)) fun w' hw => ⟨⟨V.mk 3 0 [] dn, la, lc, A2, bd, .row la lc 76 4 j cells :: rs⟩, ⟨i2, hfin, hvs⟩, by rw [← i3]; rfl, (hw.sub (.cons _ (.cons_cons _ (.cons_cons _ (.cons _ (.refl _)))))).perm (.swap _ _ _)⟩
  refine s_kf (y_eql (p := (x.toNat : Int)) (q := 3)) (by omega) <| s_y y_as <| s_nil <| q_then <| c_f <| c_skip <| q_nb <| q_then <| c_seq <| c_reg <| s_y y_mv <| s_y y_nc <| s_y y_fa <| s_st (b := b) (v := .bool true) (cs := #[.slice a q.length c, I p2, .bool bd]) (hl := show 2 < 3 by decide) ?_
  refine s_nil <| q_then <| c_seq <| c_reg <| s_y (y_bval (cs := [I 0, I 0, .string (sb []), .slice none 0 0])) <| s_sta (b := b4) (vs := #[I 0, I 0, .string (sb []), .slice none 0 0]) (cs := #[I 0, I 0, .string (sb []), .slice none 0 0]) (h1 := by intro u hu; simp at hu; rcases hu with rfl | rfl | rfl | rfl <;> rfl) (hl := rfl) (hs1 := rfl) ?_
  refine s_nil <| q_then <| c_ret <| ?_
  refine ret1 Tryz.results148 (rv_ca (b := b4) (cs := #[I 0, I 0, .string (sb []), .slice none 0 0]) (hl := rfl)) fun w' hw => ⟨⟨V0, none, 0, p2, true, []⟩, ⟨hpq, ?_, fun h => by cases h⟩, rfl, hw.sub (.cons _ (.refl _))⟩
  rw [if_pos rfl]
  rcases Nat.lt_or_ge At q.length with h | h
  · rw [hd h, rd_bad hx1 hx2 hx3]
  · rw [hd0 h]
    cases f <;> rfl
end Go.Proofs.YtejdjnkilikehaaGreatDoor
end
section
namespace Go.Proofs.YtejdjnkilikehaaGreatDoor
open Go Eng Cod
set_option maxRecDepth 100000
abbrev zV : Value := .agg #[I 0, I 0, .string (sb []), .slice none 0 0]
theorem r1_Decode_ok (w : World) (a : Option Addr) (c : Nat) (q : List UInt8) (hr : Rd w a (bs q)) (hc : q.length ≤ c) (hm : c ≤ 9223372036854775807) (hq : q.length ≤ 2000000000000) (v : V) (h : rdVal 16 q = some (v, [])) :
    Gives Tryz.prog 72 [.slice a q.length c] w [] (fun x : Option Addr × Nat × SH => .tuple #[vval v x.1 x.2.1, I 0]) (fun x => x.2.2) (fun x => Vs x.2.2 v (vval v x.1 x.2.1)) := by
  have hne : bs q ≠ [] := by
    cases q with
    | nil => simp [rdVal] at h
    | cons x q => exact List.cons_ne_nil _ _
  obtain ⟨e1, e2, e3⟩ := rdVal_inv' 16 q v [] h
  rw [List.append_nil] at e1
  refine enter Tryz.func72 Tryz.ntmps72 ?_
  refine c_seq <| c_reg <| s_alloc fun b2 => s_y y_as <| s_nil <| q_then <| c_seq <| c_reg <| s_y y_mv <| s_y (y_blds (places := #[(0, 1), (1, 1), (2, 1)]) (cs := [.slice a q.length c, I 0, .bool false]) Tryz.underlying144 (fun w => by kernel_rfl)) <| s_box rfl fun b8 => s_y y_as <| s_nil <| q_then <| ?_
  refine c_seq <| c_reg <| s_y y_mv <| s_chg (b := b8) (fun w' hw => rvalue_ok 16 w' b8 a c q 0 (Nat.le_refl _) (fun _ => ⟨hr.st hw, hc, hr.apart hne hw.new⟩) hq (Nat.zero_le _) (hw.own _ (.head _)).1) (fun _ => .head _) (fun z hz => s_perm (List.perm_append_comm_assoc [_, _] _ _) ?_)
  obtain ⟨v', va, vc, A2, bd, rs⟩ := z
  obtain ⟨hz1, hz2, hz3⟩ := hz
  simp only at hz1 hz2 hz3
  rw [List.drop_zero, h] at hz2
  cases bd with
  | true => rw [if_pos rfl] at hz2; cases hz2
  | false =>
  rw [if_neg (by simp)] at hz2
  simp only [Option.some.injEq, Prod.mk.injEq] at hz2
  obtain ⟨rfl, hz2⟩ := hz2
  have hA : A2 = q.length := by
    have := congrArg List.length hz2
    rw [List.length_nil, List.length_drop] at this
    omega
  subst hA
  have hvs := hz3 rfl
  refine s_alloc fun b5 => s_sta (b := b5) (vs := #[I v.k, I v.n, .string (sb v.s), .slice va v.l.length vc]) (cs := #[I 0, I 0, .string (sb []), .slice none 0 0]) (h1 := by intro u hu; simp at hu; rcases hu with rfl | rfl | rfl | rfl <;> rfl) (hl := rfl) (hs1 := rfl) ?_
  have hV : ∀ w', St w [] w' (.blk b5 (.cells #[I v.k, I v.n, .string (sb v.s), .slice va v.l.length vc] 76 (0, 0)) :: rrb b8 a q.length c q.length false :: .blk b2 (.cells #[I 0, I 0, .string (sb []), .slice none 0 0] 76 (0, 0)) :: (rs ++ [])) → Vv w' v (vval v va vc) := fun w' hw =>
    hvs w' fun p hp => (hw.own p (.tail _ (.tail _ (.tail _ (List.mem_append_left _ hp))))).1
  have hdep : v.dep < 9000000000000000000 := by omega
  refine s_nil <| q_then <| c_seq <| c_seq <| ?_
  refine c_regL (.blk b5 (.cells #[I v.k, I v.n, .string (sb v.s), .slice va v.l.length vc] 76 (0, 0)) :: rrb b8 a q.length c q.length false :: .blk b2 (.cells #[I 0, I 0, .string (sb []), .slice none 0 0] 76 (0, 0)) :: (rs ++ [])) <| r_y 0 rfl y_mv <| r_y 1 rfl y_nc <| r_y 2 rfl y_fa <| r_y 3 rfl (y_ld (v := .bool false)) <| r_y 4 rfl y_mv <| r_y 5 rfl y_mv <| r_y 6 rfl y_nc <| r_y 7 rfl y_fa <| r_y 8 rfl (y_ld (v := I q.length)) <| r_y 9 rfl y_mv <| r_y 10 rfl y_len <| r_nf 11 rfl (y_neq (p := ((q.length : Nat) : Int)) (q := ((q.length : Nat) : Int))) rfl <| r_y 12 rfl y_pk <| r_y 13 rfl y_mv <| r_y 14 rfl (y_lda (b := b5) (cs := #[I v.k, I v.n, .string (sb v.s), .slice va v.l.length vc]) (hl := rfl)) <| r_W 15 rfl <| s_pure (fun w' hw => ref01_Check_ok w' v _ (hV w' hw) hdep) <| ?_
  rw [show v.chk = 0 by rw [V.chk, if_pos e2, if_neg (by omega)]]
  refine r_K <| r_nf 16 rfl (y_neq (p := 0) (q := 0)) rfl <| r_y 17 rfl y_pk <| r_y 18 rfl y_mv <| r_y 19 rfl (y_lda (b := b5) (cs := #[I v.k, I v.n, .string (sb v.s), .slice va v.l.length vc]) (hl := rfl)) <| r_y 22 rfl y_mv <| r_y 23 rfl (y_b2s (q := q) (hr := rdW0 hr)) <| r_W 20 rfl <| s_gives (fun w' hw => ref01_encode_ok v w' _ (hV w' hw) (by rw [← e1]; omega)) fun x _ => r_kl <| r_y 21 rfl (y_b2s (q := v.enc) (hr := rdR (.head _))) <| r_nf 24 rfl (y_neqs (a := sb v.enc) (b := sb q)) (by rw [e1]) <| r_y 25 rfl y_pk <| r_E <| ?_
  refine q_then <| c_f <| c_skip <| q_then <| c_seq <| c_reg <| s_y (y_lda (b := b5) (cs := #[I v.k, I v.n, .string (sb v.s), .slice va v.l.length vc]) (hl := rfl)) <| s_sta (b := b2) (vs := #[I v.k, I v.n, .string (sb v.s), .slice va v.l.length vc]) (cs := #[I 0, I 0, .string (sb []), .slice none 0 0]) (h1 := by intro u hu; simp at hu; rcases hu with rfl | rfl | rfl | rfl <;> rfl) (hl := rfl) (hs1 := rfl) ?_
  refine s_y y_as <| s_nil <| q_then <| c_ret <| ?_
  exact ret2 Tryz.results72 (rv_ca (b := b2) (cs := #[I v.k, I v.n, .string (sb v.s), .slice va v.l.length vc]) (hl := rfl)) rv_t fun w' hw => ⟨(va, vc, rs), hvs, rfl, hw.sub (.cons _ (.cons _ (.cons _ (.cons _ (by rw [List.append_nil]; exact .refl _)))))⟩
theorem r1_Decode_no (w : World) (a : Option Addr) (c : Nat) (q : List UInt8) (hr : Rd w a (bs q)) (hc : q.length ≤ c) (hm : c ≤ 9223372036854775807) (hq : q.length ≤ 2000000000000) (h : ∀ v, rdVal 16 q ≠ some (v, [])) :
    Pure Tryz.prog 72 [.slice a q.length c] w (.tuple #[zV, I 10]) := by
  refine enter Tryz.func72 Tryz.ntmps72 ?_
  refine c_seq <| c_reg <| s_alloc fun b2 => s_y y_as <| s_nil <| q_then <| c_seq <| c_reg <| s_y y_mv <| s_y (y_blds (places := #[(0, 1), (1, 1), (2, 1)]) (cs := [.slice a q.length c, I 0, .bool false]) Tryz.underlying144 (fun w => by kernel_rfl)) <| s_box rfl fun b8 => s_y y_as <| s_nil <| q_then <| ?_
  refine c_seq <| c_reg <| s_y y_mv <| s_chg (b := b8) (fun w' hw => rvalue_ok 16 w' b8 a c q 0 (Nat.le_refl _) (fun hne => ⟨hr.st hw, hc, hr.apart (fun e => hne (by cases q <;> simp_all [bs])) hw.new⟩) hq (Nat.zero_le _) (hw.own _ (.head _)).1) (fun _ => .head _) (fun z hz => s_perm (List.perm_append_comm_assoc [_, _] _ _) ?_)
  obtain ⟨v, va, vc, A2, bd, rs⟩ := z
  obtain ⟨hz1, hz2, hz3⟩ := hz
  simp only at hz1 hz2 hz3
  rw [List.drop_zero] at hz2
  refine s_alloc fun b5 => s_sta (b := b5) (vs := #[I v.k, I v.n, .string (sb v.s), .slice va v.l.length vc]) (cs := #[I 0, I 0, .string (sb []), .slice none 0 0]) (h1 := by intro u hu; simp at hu; rcases hu with rfl | rfl | rfl | rfl <;> rfl) (hl := rfl) (hs1 := rfl) ?_
  refine s_nil <| q_then <| c_seq <| c_seq <| ?_
  cases bd with
  | true =>
    refine c_regL (rrb b8 a q.length c A2 true :: .blk b2 (.cells #[I 0, I 0, .string (sb []), .slice none 0 0] 76 (0, 0)) :: (rs ++ [])) <| r_y 0 rfl y_mv <| r_y 1 rfl y_nc <| r_y 2 rfl y_fa <| r_y 3 rfl (y_ld (v := .bool true)) <| r_y 4 rfl y_mv <| r_no 5 rfl <| r_no 6 rfl <| r_no 7 rfl <| r_no 8 rfl <| r_no 9 rfl <| r_no 10 rfl <| r_no 11 rfl <| r_y 12 rfl y_pk <| r_y 13 rfl y_mv <| r_no 14 rfl <| r_no 15 rfl <| r_no 16 rfl <| r_y 17 rfl y_pk <| r_y 18 rfl y_mv <| r_no 19 rfl <| r_no 20 rfl <| r_no 21 rfl <| r_no 22 rfl <| r_no 23 rfl <| r_no 24 rfl <| r_y 25 rfl y_pk <| r_E <| ?_
    refine q_then <| c_t <| c_seq <| c_reg <| s_y (y_bval (cs := [I 0, I 0, .string (sb []), .slice none 0 0])) <| s_sta (b := b2) (vs := #[I 0, I 0, .string (sb []), .slice none 0 0]) (cs := #[I 0, I 0, .string (sb []), .slice none 0 0]) (h1 := by intro u hu; simp at hu; rcases hu with rfl | rfl | rfl | rfl <;> rfl) (hl := rfl) (hs1 := rfl) ?_
    refine s_y y_as <| s_nil <| q_then <| c_ret <| q_ret <| ?_
    exact ret2 Tryz.results72 (rv_ca (b := b2) (cs := #[I 0, I 0, .string (sb []), .slice none 0 0]) (hl := rfl)) rv_t fun w' hw => ⟨rfl, hw.sub (List.nil_sublist _)⟩
  | false =>
    rw [if_neg (by simp)] at hz2
    have hA : A2 ≠ q.length := fun e => h v (by rw [hz2, e, List.drop_length])
    refine c_regL (rrb b8 a q.length c A2 false :: .blk b2 (.cells #[I 0, I 0, .string (sb []), .slice none 0 0] 76 (0, 0)) :: (rs ++ [])) <| r_y 0 rfl y_mv <| r_y 1 rfl y_nc <| r_y 2 rfl y_fa <| r_y 3 rfl (y_ld (v := .bool false)) <| r_y 4 rfl y_mv <| r_y 5 rfl y_mv <| r_y 6 rfl y_nc <| r_y 7 rfl y_fa <| r_y 8 rfl (y_ld (v := I A2)) <| r_y 9 rfl y_mv <| r_y 10 rfl y_len <| r_nt 11 rfl (y_neq (p := ((A2 : Nat) : Int)) (q := ((q.length : Nat) : Int))) (by omega) <| r_y 12 rfl y_pk <| r_y 13 rfl y_mv <| r_no 14 rfl <| r_no 15 rfl <| r_no 16 rfl <| r_y 17 rfl y_pk <| r_y 18 rfl y_mv <| r_no 19 rfl <| r_no 20 rfl <| r_no 21 rfl <| r_no 22 rfl <| r_no 23 rfl <| r_no 24 rfl <| r_y 25 rfl y_pk <| r_E <| ?_
    refine q_then <| c_t <| c_seq <| c_reg <| s_y (y_bval (cs := [I 0, I 0, .string (sb []), .slice none 0 0])) <| s_sta (b := b2) (vs := #[I 0, I 0, .string (sb []), .slice none 0 0]) (cs := #[I 0, I 0, .string (sb []), .slice none 0 0]) (h1 := by intro u hu; simp at hu; rcases hu with rfl | rfl | rfl | rfl <;> rfl) (hl := rfl) (hs1 := rfl) ?_
    refine s_y y_as <| s_nil <| q_then <| c_ret <| q_ret <| ?_
    exact ret2 Tryz.results72 (rv_ca (b := b2) (cs := #[I 0, I 0, .string (sb []), .slice none 0 0]) (hl := rfl)) rv_t fun w' hw => ⟨rfl, hw.sub (List.nil_sublist _)⟩
end Go.Proofs.YtejdjnkilikehaaGreatDoor
end
section
namespace Eng
open Go Go.RowKit
theorem y_fld {P : Program} {n : Nat} {D : List Deferred} {W : World} {Bo : List Nat} {F : List (Nat × Value)} {l : SH} {d : Option Tmp} {ty : TypeId} {ps : String} {af : Array Edge} {g : Option (Nat × Bool)} {x : Operand} {v : Value} {t : TypeId}
    {k ft off : Nat} [hu : HD P t k ft off] [hf : HT P ft true] {by' : Nat} [hs : HS P ft 1 by'] {cs : Array Value} (hx : evO F x = some (.agg cs) := by rfl) (hv : cs[off]? = some v := by rfl) :
    Y P n D W Bo ⟨d, .field t x k, ty, ps, af, g⟩ F l v :=
  .mk (by simp) fun a w ha _ => by
    obtain ⟨fs, f, h1, h2, rfl, rfl⟩ := hu.h
    simp [execOp, ha.eval hx, Instr.field, run_underlying h1, h2, asAgg, run_part1 hv]
end Eng
namespace Go.Proofs.YtejdjnkilikehaaGreatDoor
open Go Eng Gf Sha Sig Wr Cod Cha Itm
set_option maxRecDepth 100000
theorem hgd : (Tryz.prog).eqGuardType (Tryz.prog).depth 23 = false := by kernel_rfl
/-- what lies in the variables of packages -/
structure LG (w : World) : Prop where
  ls : LS w
  ld : LD w
  lc : LC w
theorem LG.st {W w : World} {l : SH} (h : LG W) (hs : St W [] w l) : LG w := ⟨h.ls.st hs, h.ld.st hs, h.lc.st hs⟩
theorem fcells_one1 (l : List V) : ∀ v ∈ fcells l, v.oneCell' = true := by
  intro v hv
  unfold fcells at hv
  obtain ⟨x, _, h⟩ := List.mem_flatMap.1 hv
  unfold fcell at h
  simp only [List.mem_cons, List.not_mem_nil, or_false] at h
  rcases h with rfl | rfl | rfl | rfl <;> rfl
/-- bytes that lie somewhere in a row -/
structure OX where
  a : Option Addr
  c : Nat
  ra : Option Addr
  rc : Nat
  p : List UInt8
def OX.row (x : OX) : Res := .row x.ra x.rc 5 1 x.p.length (bs x.p)
structure OX.ok (x : OX) (q : List UInt8) : Prop where
  rd : ∀ w, x.row.holds w → Rd w x.a (bs q)
  le : q.length ≤ x.c
abbrev GivesO (k : FuncId) (args : List Value) (w : World) (q : List UInt8) (e : Int) : Prop :=
  Gives Tryz.prog k args w [] (fun x : OX => .tuple #[.slice x.a q.length x.c, I e]) (fun x => [x.row]) (fun x => x.ok q)
def OX.nil : OX := ⟨none, 0, none, 0, []⟩
theorem OX.nil_ok : OX.nil.ok [] := ⟨fun _ _ => Rd.nil _ _, Nat.le_refl _⟩
theorem St.nilO {W w : World} {l : SH} (hw : St W [] w l) : St W [] w [OX.nil.row] := (hw.nilRow _ _).sub (.cons_cons _ (List.nil_sublist _))
theorem opB_len {k h c : List UInt8} (hc : c.length ≤ 70000) : (opB k z12 h c).length ≤ 70000 := by
  unfold opB
  split
  · rw [strm_length, List.length_take]; omega
  · simp
theorem rd0 {W w : World} {Bo : List Nat} {l : SH} {b : Nat} {xs : List Value} {t : TypeId} (hw : St W Bo w l) (hm : Res.blk b (.cells xs.toArray t (0, 0)) ∈ l) : Rd w (some ⟨b, 0, none⟩) xs :=
  rdB hm (fun j v h => by rw [Nat.zero_add, List.getElem?_toArray]; exact h) w hw
theorem Open1_ok (w : World) (b2 b3 : Nat) (i : It) (s : Value) (km ks : List UInt8) (hg : LG w) (h : i.Wf) (hkm : km.length = 32) (hks : ks.length = 32) (hr2 : Rd w (some ⟨b2, 0, none⟩) (bs km ++ bs ks)) (hr3 : Rd w (some ⟨b3, 0, none⟩) (itC i s)) :
    Pure Tryz.prog 57 [.pointer (some ⟨b2, 0, none⟩), .pointer (some ⟨b3, 0, none⟩)] w (.tuple #[.agg (bs (ckey ks i.dv i.ct)).toArray, I 0]) := by
  have e1 : (itC i s)[0 + 33]? = some (I i.dv) := by have := it_dv (i := i) (s := s) h.cm; rwa [List.getElem?_toArray] at this
  have e2 : (itC i s)[0 + 34]? = some (I i.ct) := by have := it_ct (i := i) (s := s) h.cm; rwa [List.getElem?_toArray] at this
  refine enter Tryz.func57 Tryz.ntmps57 ?_
  refine c_seq <| c_reg <| s_alloc fun b4 => s_y y_as <| s_nil <| q_then <| c_seq <| c_reg <| s_y y_fa <| s_y (y_ldra (a := some ⟨b2, 0, none⟩) (i := 0 + 32) (xs := bs km ++ bs ks) (cs := bs ks) (rdW0 hr2) (by rw [bs_length, hks]) (fun j v hj => by rw [List.getElem?_append_right (by rw [bs_length]; omega), bs_length, hkm, show 0 + 32 + j - 32 = j by omega]; exact hj)) <| s_y y_fa <| s_y (y_ldr (a := some ⟨b3, 0, none⟩) (i := 0 + 33) (xs := itC i s) (v := I i.dv) e1 (hr := rdW0 hr3)) <| s_y y_fa <| s_y (y_ldr (a := some ⟨b3, 0, none⟩) (i := 0 + 34) (xs := itC i s) (v := I i.ct) e2 (hr := rdW0 hr3)) <| ?_
  refine s_pure (fun w' hw => sch_Content_ok w' ks i.dv i.ct (hg.ls.st hw) hks h.dv h.ct) <| s_sta (b := b4) (vs := (bs (ckey ks i.dv i.ct)).toArray) (cs := (bs (List.replicate 32 0)).toArray) (h1 := fun v hv => bs_one (by simpa using hv)) (hl := (hz32 (expand_length _ _ _)).trans (hz32 List.length_replicate).symm) (hs1 := (hz32 (expand_length _ _ _))) ?_
  refine s_y y_as <| s_nil <| q_then <| c_ret <| ?_
  exact ret2 Tryz.results57 (rv_ca (b := b4) (cs := (bs (ckey ks i.dv i.ct)).toArray) (hl := (hz32 (expand_length _ _ _)))) rv_t fun w' hw => ⟨rfl, hw.sub (List.nil_sublist _)⟩
theorem Via1_ok (w : World) (b3 b4 : Nat) (x a b : Int) (p : List UInt8) (hg : LG w) (hp : p.length = 32) (hr3 : Rd w (some ⟨b3, 0, none⟩) [I x]) (hr4 : Rd w (some ⟨b4, 0, none⟩) (I a :: I b :: bs p)) :
    Pure Tryz.prog 60 [.pointer (some ⟨b3, 0, none⟩), .pointer (some ⟨b4, 0, none⟩)] w (.tuple #[.agg (bs (opK x a b p)).toArray, I (Go.Proofs.YtejdjnkilikehaaGreatDoor.opE x a b)]) := by
  have hl : (opK x a b p).length = 32 := opK_length x a b hp
  refine enter Tryz.func60 Tryz.ntmps60 ?_
  refine c_seq <| c_reg <| s_alloc fun b2 => s_y y_as <| s_nil <| q_then <| c_seq <| c_reg <| s_y (y_ldr (a := some ⟨b3, 0, none⟩) (i := 0) (xs := [I x]) (v := I x) rfl (hr := rdW0 hr3)) <| s_y (y_ldra (a := some ⟨b4, 0, none⟩) (i := 0) (xs := I a :: I b :: bs p) (cs := I a :: I b :: bs p) (rdW0 hr4) (by simp [bs_length, hp]) (fun j v h => by rw [Nat.zero_add]; exact h)) <| s_pure (fun w' hw => Open_ok w' x a b p hp (hg.ls.st hw)) <| s_y y_ext <| s_y y_ext <| s_sta (b := b2) (vs := (bs (opK x a b p)).toArray) (cs := (bs (List.replicate 32 0)).toArray) (h1 := fun v hv => bs_one (by simpa using hv)) (hl := (hz32 hl).trans (hz32 List.length_replicate).symm) (hs1 := (hz32 hl)) ?_
  refine s_y y_as <| s_nil <| q_then <| c_ret <| ?_
  exact ret2 Tryz.results60 (rv_ca (b := b2) (cs := (bs (opK x a b p)).toArray) (hl := (hz32 hl))) rv_t fun w' hw => ⟨rfl, hw.sub (List.nil_sublist _)⟩
theorem open_e (w : World) (i : It) (a : Option Addr) (c : Nat) {kf : FuncId} [HF Tryz.prog kf] (cs : List Value) (k : List UInt8) (e : Int) (hkl : k.length = 32) (hk : ∀ w', St w [] w' [] → Pure Tryz.prog kf cs w' (.tuple #[.agg (bs k).toArray, I e])) (hcc : i.bd.length ≤ c) (h : i.Wf) (hg : LG w) (hr : Rd w a (bs i.bd)) (hb : i.bd.length ≤ 70000) (he : ¬ e = 0) : GivesO 56 [itV i (.slice a i.bd.length c), .func (.func kf) #[] cs.toArray] w [] e := by
  obtain ⟨hc, hp⟩ : i.cm.length = 32 ∧ i.pd.length = 32 := ⟨h.cm, h.pd⟩
  have hhl := head_len h
  refine enter Tryz.func56 Tryz.ntmps56 ?_
  refine c_seq <| c_reg <| s_box rfl fun b2 => s_y y_as <| s_y y_as <| s_nil <| q_then <| c_seq <| c_reg <| s_y y_mv <| s_pure (fun w' hw => hk w' (hw.sub (List.nil_sublist _))) <| s_y y_mv <| s_y y_ext <| s_y y_ext <| s_alloc fun b6 => s_sta (b := b6) (vs := (bs k).toArray) (cs := (bs (List.replicate 32 0)).toArray) (h1 := fun v hv => bs_one (by simpa using hv)) (hl := ((hz32 hkl)).trans ((hz32 List.length_replicate)).symm) (hs1 := (hz32 hkl)) ?_
  refine s_y y_as <| s_nil <| q_then <| c_seq <| c_seq <| c_reg <| s_y y_mv <| s_nt (y_neq (p := e) (q := 0)) he <| s_nil <| q_then <| c_t <| c_seq <| c_reg <| s_y y_mv <| s_y y_as <| s_y y_as <| s_nil <| q_then <| c_ret <| q_ret <| ?_
  exact ret2 Tryz.results56 rv_t rv_t fun w' hw => ⟨OX.nil, OX.nil_ok, rfl, St.nilO hw⟩
theorem open_n (w : World) (i : It) (a : Option Addr) (c : Nat) {kf : FuncId} [HF Tryz.prog kf] (cs : List Value) (k : List UInt8) (hkl : k.length = 32) (hk : ∀ w', St w [] w' [] → Pure Tryz.prog kf cs w' (.tuple #[.agg (bs k).toArray, I 0])) (hcc : i.bd.length ≤ c) (h : i.Wf) (hg : LG w) (hr : Rd w a (bs i.bd)) (hb : i.bd.length ≤ 70000) (ho : opOk k z12 i.head i.bd = false) : GivesO 56 [itV i (.slice a i.bd.length c), .func (.func kf) #[] cs.toArray] w [] 60 := by
  obtain ⟨hc, hp⟩ : i.cm.length = 32 ∧ i.pd.length = 32 := ⟨h.cm, h.pd⟩
  have hhl := head_len h
  refine enter Tryz.func56 Tryz.ntmps56 ?_
  refine c_seq <| c_reg <| s_box rfl fun b2 => s_y y_as <| s_y y_as <| s_nil <| q_then <| c_seq <| c_reg <| s_y y_mv <| s_pure (fun w' hw => hk w' (hw.sub (List.nil_sublist _))) <| s_y y_mv <| s_y y_ext <| s_y y_ext <| s_alloc fun b6 => s_sta (b := b6) (vs := (bs k).toArray) (cs := (bs (List.replicate 32 0)).toArray) (h1 := fun v hv => bs_one (by simpa using hv)) (hl := ((hz32 hkl)).trans ((hz32 List.length_replicate)).symm) (hs1 := (hz32 hkl)) ?_
  refine s_y y_as <| s_nil <| q_then <| c_seq <| c_seq <| c_reg <| s_y y_mv <| s_nf (y_neq (p := 0) (q := 0)) (by omega) <| s_nil <| q_then <| c_f <| c_skip <| q_then <| c_seq <| c_regL [.blk b6 (.cells (bs k).toArray 24 (0, 0)), .blk b2 (.cells (itC i (.slice a i.bd.length c)).toArray 83 (0, 0))] <| r_y 0 rfl (y_lda (b := b6) (cs := (bs k).toArray) (hl := (hz32 hkl))) <| r_y 1 rfl (y_blda (cs := bs (List.replicate 12 0))) <| r_y 2 rfl (y_lda (b := b2) (cs := (itC i (.slice a i.bd.length c)).toArray) (hl := it_size hc hp)) <| r_y 4 rfl y_fa <| r_y 5 rfl y_fa <| r_y 6 rfl (y_ld (b := b2) (v := .slice a i.bd.length c) (hv := it_bd hc hp)) <| r_W 3 rfl <| s_gives (fun w' hw => head_ok w' i a c h) fun x20 _ => r_K <| r_W 7 rfl <| s_pure (fun w' hw => c_Open_no w' x20.1 a x20.2 c k z12 i.head i.bd hkl List.length_replicate (rdR (.head _) w' hw) (by omega) (hg.lc.st hw) (hr.st hw) (by omega) hcc ho) <| r_K <| r_y 8 rfl y_mv <| r_y 9 rfl y_ext <| r_y 10 rfl y_ext <| r_y 11 rfl y_as <| r_y 12 rfl y_as <| r_E <| q_then <| c_seq <| c_seq <| c_reg <| s_y y_mv <| s_nt (y_neq (p := 60) (q := 0)) (by omega) <| s_nil <| q_then <| c_t <| c_seq <| c_reg <| s_y y_mv <| s_y y_as <| s_y y_as <| s_nil <| q_then <| c_ret <| q_ret <| ?_
  exact ret2 Tryz.results56 rv_t rv_t fun w' hw => ⟨OX.nil, OX.nil_ok, rfl, St.nilO hw⟩
theorem open_y (w : World) (i : It) (a : Option Addr) (c : Nat) {kf : FuncId} [HF Tryz.prog kf] (cs : List Value) (k : List UInt8) (hkl : k.length = 32) (hk : ∀ w', St w [] w' [] → Pure Tryz.prog kf cs w' (.tuple #[.agg (bs k).toArray, I 0])) (hcc : i.bd.length ≤ c) (h : i.Wf) (hg : LG w) (hr : Rd w a (bs i.bd)) (hb : i.bd.length ≤ 70000) (ho : opOk k z12 i.head i.bd = true) : GivesO 56 [itV i (.slice a i.bd.length c), .func (.func kf) #[] cs.toArray] w (unpad (opB k z12 i.head i.bd)) (unpE (opB k z12 i.head i.bd)) := by
  obtain ⟨hc, hp⟩ : i.cm.length = 32 ∧ i.pd.length = 32 := ⟨h.cm, h.pd⟩
  have hhl := head_len h
  have hol := opB_len (k := k) (h := i.head) hb
  refine enter Tryz.func56 Tryz.ntmps56 ?_
  refine c_seq <| c_reg <| s_box rfl fun b2 => s_y y_as <| s_y y_as <| s_nil <| q_then <| c_seq <| c_reg <| s_y y_mv <| s_pure (fun w' hw => hk w' (hw.sub (List.nil_sublist _))) <| s_y y_mv <| s_y y_ext <| s_y y_ext <| s_alloc fun b6 => s_sta (b := b6) (vs := (bs k).toArray) (cs := (bs (List.replicate 32 0)).toArray) (h1 := fun v hv => bs_one (by simpa using hv)) (hl := ((hz32 hkl)).trans ((hz32 List.length_replicate)).symm) (hs1 := (hz32 hkl)) ?_
  refine s_y y_as <| s_nil <| q_then <| c_seq <| c_seq <| c_reg <| s_y y_mv <| s_nf (y_neq (p := 0) (q := 0)) (by omega) <| s_nil <| q_then <| c_f <| c_skip <| q_then <| c_seq <| c_regL [.blk b6 (.cells (bs k).toArray 24 (0, 0)), .blk b2 (.cells (itC i (.slice a i.bd.length c)).toArray 83 (0, 0))] <| r_y 0 rfl (y_lda (b := b6) (cs := (bs k).toArray) (hl := (hz32 hkl))) <| r_y 1 rfl (y_blda (cs := bs (List.replicate 12 0))) <| r_y 2 rfl (y_lda (b := b2) (cs := (itC i (.slice a i.bd.length c)).toArray) (hl := it_size hc hp)) <| r_y 4 rfl y_fa <| r_y 5 rfl y_fa <| r_y 6 rfl (y_ld (b := b2) (v := .slice a i.bd.length c) (hv := it_bd hc hp)) <| r_W 3 rfl <| s_gives (fun w' hw => head_ok w' i a c h) fun x20 _ => r_K <| r_W 7 rfl <| s_gives (fun w' hw => c_Open_yes w' x20.1 a x20.2 c k z12 i.head i.bd hkl List.length_replicate (rdR (.head _) w' hw) (by omega) (hg.lc.st hw) (hr.st hw) hcc ho) fun x24 _ => r_K <| r_y 8 rfl y_mv <| r_y 9 rfl y_ext <| r_y 10 rfl y_ext <| r_y 11 rfl y_as <| r_y 12 rfl y_as <| r_E <| q_then <| c_seq <| c_seq <| c_reg <| s_y y_mv <| s_nf (y_neq (p := 0) (q := 0)) (by omega) <| s_nil <| q_then <| c_f <| c_skip <| q_then <| c_seq <| c_reg <| s_y y_mv <| s_pure (fun w' hw => padding_Unpad_ok w' x24.1 x24.2 (opB k z12 i.head i.bd) (hg.ld.st hw) (rdR (.head _) w' hw) (by omega) (row_fact hw (.head _)).1) <| s_y y_ext <| s_y y_ext <| s_y y_as <| s_y y_as <| s_nil <| q_then <| c_ret <| ?_
  exact ret2 Tryz.results56 rv_t rv_t fun w' hw => ⟨⟨unpA (opB k z12 i.head i.bd) x24.1, _, x24.1, x24.2, opB k z12 i.head i.bd⟩, ⟨fun w2 h2 => unpad_rd (Res.rd h2), Nat.le_refl _⟩, rfl, hw.sub (.cons_cons _ (List.nil_sublist _))⟩
theorem open_ok (w : World) (i : It) (a : Option Addr) (c : Nat) {kf : FuncId} [HF Tryz.prog kf] (cs : List Value) (k : List UInt8) (hkl : k.length = 32) (hk : ∀ w', St w [] w' [] → Pure Tryz.prog kf cs w' (.tuple #[.agg (bs k).toArray, I 0])) (hcc : i.bd.length ≤ c) (h : i.Wf) (hg : LG w) (hr : Rd w a (bs i.bd)) (hb : i.bd.length ≤ 70000) : GivesO 56 [itV i (.slice a i.bd.length c), .func (.func kf) #[] cs.toArray] w (i.opnB k) (i.opnE k) := by
  unfold It.opnB It.opnE
  cases ho : opOk k z12 i.head i.bd with
  | false => exact open_n w i a c cs k hkl hk hcc h hg hr hb ho
  | true => exact open_y w i a c cs k hkl hk hcc h hg hr hb ho
theorem Open_n1 (w : World) (i : It) (a : Option Addr) (c : Nat) (km ks : List UInt8) (hkm : km.length = 32) (hks : ks.length = 32) (hcc : i.bd.length ≤ c) (h : i.Wf) (hg : LG w) (hr : Rd w a (bs i.bd)) (hb : i.bd.length ≤ 70000) (hv : i.vld = false) : GivesO 17 [.agg (bs km ++ bs ks).toArray, itV i (.slice a i.bd.length c)] w [] 290 := by
  obtain ⟨hc, hp⟩ : i.cm.length = 32 ∧ i.pd.length = 32 := ⟨h.cm, h.pd⟩
  have hhl := head_len h
  refine enter Tryz.func17 Tryz.ntmps17 ?_
  refine c_seq <| c_reg <| s_box rfl fun b2 => s_box rfl fun b3 => s_y y_as <| s_y y_as <| s_nil <| q_then <| c_seq <| c_reg <| s_y (y_lda (b := b3) (cs := (itC i (.slice a i.bd.length c)).toArray) (hl := it_size hc hp)) <| s_y (y_bsealed hc hp) <| s_allocC (cs := (itC it0 (.slice none 0 0)).toArray) (by kernel_rfl) fun b6 => s_sta (b := b6) (vs := (itC i (.slice a i.bd.length c)).toArray) (cs := (itC it0 (.slice none 0 0)).toArray) (h1 := it_one) (hl := (it_size hc hp).trans (it_size rfl rfl).symm) (hs1 := it_size hc hp) ?_
  refine s_nil <| q_then <| c_seq <| c_seq <| c_reg <| s_y (y_lda (b := b6) (cs := (itC i (.slice a i.bd.length c)).toArray) (hl := it_size hc hp)) <| s_pure (fun w' hw => (by have h9 := valid_ok w' i a c hc hp (hg.ld.st hw) hb; rw [hv] at h9; exact h9)) <| s_y (v := .bool true) (y_not (b := false)) <| s_y y_mv <| s_no <| s_no <| s_no <| s_no <| s_no <| s_y y_pk <| s_nil <| q_then <| c_t <| c_seq <| c_reg <| s_y y_as <| s_y y_as <| s_nil <| q_then <| c_ret <| q_ret <| ?_
  exact ret2 Tryz.results17 rv_t rv_t fun w' hw => ⟨OX.nil, OX.nil_ok, rfl, St.nilO hw⟩
theorem Open_n2 (w : World) (i : It) (a : Option Addr) (c : Nat) (km ks : List UInt8) (hkm : km.length = 32) (hks : ks.length = 32) (hcc : i.bd.length ≤ c) (h : i.Wf) (hg : LG w) (hr : Rd w a (bs i.bd)) (hb : i.bd.length ≤ 70000) (hv : i.vld = true) (hm : ¬ i.cm = km) : GivesO 17 [.agg (bs km ++ bs ks).toArray, itV i (.slice a i.bd.length c)] w [] 290 := by
  obtain ⟨hc, hp⟩ : i.cm.length = 32 ∧ i.pd.length = 32 := ⟨h.cm, h.pd⟩
  have hhl := head_len h
  refine enter Tryz.func17 Tryz.ntmps17 ?_
  refine c_seq <| c_reg <| s_box rfl fun b2 => s_box rfl fun b3 => s_y y_as <| s_y y_as <| s_nil <| q_then <| c_seq <| c_reg <| s_y (y_lda (b := b3) (cs := (itC i (.slice a i.bd.length c)).toArray) (hl := it_size hc hp)) <| s_y (y_bsealed hc hp) <| s_allocC (cs := (itC it0 (.slice none 0 0)).toArray) (by kernel_rfl) fun b6 => s_sta (b := b6) (vs := (itC i (.slice a i.bd.length c)).toArray) (cs := (itC it0 (.slice none 0 0)).toArray) (h1 := it_one) (hl := (it_size hc hp).trans (it_size rfl rfl).symm) (hs1 := it_size hc hp) ?_
  refine s_nil <| q_then <| c_seq <| c_seq <| c_reg <| s_y (y_lda (b := b6) (cs := (itC i (.slice a i.bd.length c)).toArray) (hl := it_size hc hp)) <| s_pure (fun w' hw => (by have h9 := valid_ok w' i a c hc hp (hg.ld.st hw) hb; rw [hv] at h9; exact h9)) <| s_y (v := .bool false) (y_not (b := true)) <| s_y y_mv <| s_y y_fa <| s_y (y_ldin (b := b3) (off := 1) (cs := (itC i (.slice a i.bd.length c)).toArray) (ys := bs i.cm) (hl := (by rw [bs_length, hc])) (hv := it_cm)) <| s_y y_fa <| s_y (y_ldin (b := b2) (off := 0 + 0) (cs := (bs km ++ bs ks).toArray) (ys := bs km) (hl := by rw [bs_length, hkm]) (hv := (fun j v h => by rw [List.getElem?_toArray, Nat.add_assoc, Nat.zero_add, Nat.zero_add]; exact pre_at h))) <| s_nt (y_neqa (p := i.cm) (q := km) hc hkm hgd) hm <| s_y y_pk <| s_nil <| q_then <| c_t <| c_seq <| c_reg <| s_y y_as <| s_y y_as <| s_nil <| q_then <| c_ret <| q_ret <| ?_
  exact ret2 Tryz.results17 rv_t rv_t fun w' hw => ⟨OX.nil, OX.nil_ok, rfl, St.nilO hw⟩
theorem Open_y (w : World) (i : It) (a : Option Addr) (c : Nat) (km ks : List UInt8) (hkm : km.length = 32) (hks : ks.length = 32) (hcc : i.bd.length ≤ c) (h : i.Wf) (hg : LG w) (hr : Rd w a (bs i.bd)) (hb : i.bd.length ≤ 70000) (hv : i.vld = true) (hm : i.cm = km) : GivesO 17 [.agg (bs km ++ bs ks).toArray, itV i (.slice a i.bd.length c)] w (i.opnB (ckey ks i.dv i.ct)) (i.opnE (ckey ks i.dv i.ct)) := by
  obtain ⟨hc, hp⟩ : i.cm.length = 32 ∧ i.pd.length = 32 := ⟨h.cm, h.pd⟩
  have hhl := head_len h
  refine enter Tryz.func17 Tryz.ntmps17 ?_
  refine c_seq <| c_reg <| s_box rfl fun b2 => s_box rfl fun b3 => s_y y_as <| s_y y_as <| s_nil <| q_then <| c_seq <| c_reg <| s_y (y_lda (b := b3) (cs := (itC i (.slice a i.bd.length c)).toArray) (hl := it_size hc hp)) <| s_y (y_bsealed hc hp) <| s_allocC (cs := (itC it0 (.slice none 0 0)).toArray) (by kernel_rfl) fun b6 => s_sta (b := b6) (vs := (itC i (.slice a i.bd.length c)).toArray) (cs := (itC it0 (.slice none 0 0)).toArray) (h1 := it_one) (hl := (it_size hc hp).trans (it_size rfl rfl).symm) (hs1 := it_size hc hp) ?_
  refine s_nil <| q_then <| c_seq <| c_seq <| c_reg <| s_y (y_lda (b := b6) (cs := (itC i (.slice a i.bd.length c)).toArray) (hl := it_size hc hp)) <| s_pure (fun w' hw => (by have h9 := valid_ok w' i a c hc hp (hg.ld.st hw) hb; rw [hv] at h9; exact h9)) <| s_y (v := .bool false) (y_not (b := true)) <| s_y y_mv <| s_y y_fa <| s_y (y_ldin (b := b3) (off := 1) (cs := (itC i (.slice a i.bd.length c)).toArray) (ys := bs i.cm) (hl := (by rw [bs_length, hc])) (hv := it_cm)) <| s_y y_fa <| s_y (y_ldin (b := b2) (off := 0 + 0) (cs := (bs km ++ bs ks).toArray) (ys := bs km) (hl := by rw [bs_length, hkm]) (hv := (fun j v h => by rw [List.getElem?_toArray, Nat.add_assoc, Nat.zero_add, Nat.zero_add]; exact pre_at h))) <| s_nf (y_neqa (p := i.cm) (q := km) hc hkm hgd) hm <| s_y y_pk <| s_nil <| q_then <| c_f <| c_skip <| q_then <| c_seq <| c_reg <| s_y (y_lda (b := b6) (cs := (itC i (.slice a i.bd.length c)).toArray) (hl := it_size hc hp)) <| s_y y_func <| s_gives (fun w' hw => open_ok w' i a c (kf := 57) [.pointer (some ⟨b2, 0, none⟩), .pointer (some ⟨b3, 0, none⟩)] (ckey ks i.dv i.ct) (expand_length _ _ _) (fun w2 h2 => Open1_ok w2 b2 b3 i (.slice a i.bd.length c) km ks ((hg.st hw).st h2) h hkm hks ((rd0 hw (.tail _ (.tail _ (.head _)))).st h2) ((rd0 hw (.tail _ (.head _))).st h2)) hcc h (hg.st hw) (hr.st hw) hb) fun x21 hx => s_y y_ext <| s_y y_ext <| s_y y_as <| s_y y_as <| s_nil <| q_then <| c_ret <| ?_
  exact ret2 Tryz.results17 rv_t rv_t fun w' hw => ⟨x21, hx, rfl, hw.sub (.cons_cons _ (List.nil_sublist _))⟩
theorem Open_ok' (w : World) (i : It) (a : Option Addr) (c : Nat) (km ks : List UInt8) (hkm : km.length = 32) (hks : ks.length = 32) (hcc : i.bd.length ≤ c) (h : i.Wf) (hg : LG w) (hr : Rd w a (bs i.bd)) (hb : i.bd.length ≤ 70000) : GivesO 17 [.agg (bs km ++ bs ks).toArray, itV i (.slice a i.bd.length c)] w (i.openB km ks) (i.openE km ks) := by
  unfold It.openB It.openE
  cases hv : i.vld with
  | false =>
    rw [if_neg (by simp), if_neg (by simp)]
    exact Open_n1 w i a c km ks hkm hks hcc h hg hr hb hv
  | true =>
    by_cases hm : i.cm = km
    · rw [if_pos ⟨rfl, hm⟩, if_pos ⟨rfl, hm⟩]
      exact Open_y w i a c km ks hkm hks hcc h hg hr hb hv hm
    · rw [if_neg (fun e => hm e.2), if_neg (fun e => hm e.2)]
      exact Open_n2 w i a c km ks hkm hks hcc h hg hr hb hv hm
theorem Via_n1 (w : World) (i : It) (a : Option Addr) (c : Nat) (x ca cb : Int) (cp : List UInt8) (hcp : cp.length = 32) (hcc : i.bd.length ≤ c) (h : i.Wf) (hg : LG w) (hr : Rd w a (bs i.bd)) (hb : i.bd.length ≤ 70000) (hv : i.vld = false) : GivesO 19 [I x, .agg (I ca :: I cb :: bs cp).toArray, itV i (.slice a i.bd.length c)] w [] 290 := by
  obtain ⟨hc, hp⟩ : i.cm.length = 32 ∧ i.pd.length = 32 := ⟨h.cm, h.pd⟩
  have hhl := head_len h
  refine enter Tryz.func19 Tryz.ntmps19 ?_
  refine c_seq <| c_reg <| s_box rfl fun b3 => s_box rfl fun b4 => s_box rfl fun b5 => s_y y_as <| s_y y_as <| s_nil <| q_then <| c_seq <| c_reg <| s_y (y_lda (b := b5) (cs := (itC i (.slice a i.bd.length c)).toArray) (hl := it_size hc hp)) <| s_y (y_bsealed hc hp) <| s_allocC (cs := (itC it0 (.slice none 0 0)).toArray) (by kernel_rfl) fun b8 => s_sta (b := b8) (vs := (itC i (.slice a i.bd.length c)).toArray) (cs := (itC it0 (.slice none 0 0)).toArray) (h1 := it_one) (hl := (it_size hc hp).trans (it_size rfl rfl).symm) (hs1 := it_size hc hp) ?_
  refine s_nil <| q_then <| c_seq <| c_seq <| c_reg <| s_y (y_lda (b := b8) (cs := (itC i (.slice a i.bd.length c)).toArray) (hl := it_size hc hp)) <| s_pure (fun w' hw => (by have h9 := valid_ok w' i a c hc hp (hg.ld.st hw) hb; rw [hv] at h9; exact h9)) <| s_y (v := .bool true) (y_not (b := false)) <| s_y y_mv <| s_no <| s_no <| s_no <| s_no <| s_no <| s_no <| s_y y_pk <| s_y y_mv <| s_no <| s_no <| s_no <| s_no <| s_no <| s_no <| s_y y_pk <| s_nil <| q_then <| c_t <| c_seq <| c_reg <| s_y y_as <| s_y y_as <| s_nil <| q_then <| c_ret <| q_ret <| ?_
  exact ret2 Tryz.results19 rv_t rv_t fun w' hw => ⟨OX.nil, OX.nil_ok, rfl, St.nilO hw⟩
theorem Via_n2 (w : World) (i : It) (a : Option Addr) (c : Nat) (x ca cb : Int) (cp : List UInt8) (hcp : cp.length = 32) (hcc : i.bd.length ≤ c) (h : i.Wf) (hg : LG w) (hr : Rd w a (bs i.bd)) (hb : i.bd.length ≤ 70000) (hv : i.vld = true) (hm : ¬ cb = i.cB) : GivesO 19 [I x, .agg (I ca :: I cb :: bs cp).toArray, itV i (.slice a i.bd.length c)] w [] 290 := by
  obtain ⟨hc, hp⟩ : i.cm.length = 32 ∧ i.pd.length = 32 := ⟨h.cm, h.pd⟩
  have hhl := head_len h
  refine enter Tryz.func19 Tryz.ntmps19 ?_
  refine c_seq <| c_reg <| s_box rfl fun b3 => s_box rfl fun b4 => s_box rfl fun b5 => s_y y_as <| s_y y_as <| s_nil <| q_then <| c_seq <| c_reg <| s_y (y_lda (b := b5) (cs := (itC i (.slice a i.bd.length c)).toArray) (hl := it_size hc hp)) <| s_y (y_bsealed hc hp) <| s_allocC (cs := (itC it0 (.slice none 0 0)).toArray) (by kernel_rfl) fun b8 => s_sta (b := b8) (vs := (itC i (.slice a i.bd.length c)).toArray) (cs := (itC it0 (.slice none 0 0)).toArray) (h1 := it_one) (hl := (it_size hc hp).trans (it_size rfl rfl).symm) (hs1 := it_size hc hp) ?_
  refine s_nil <| q_then <| c_seq <| c_seq <| c_reg <| s_y (y_lda (b := b8) (cs := (itC i (.slice a i.bd.length c)).toArray) (hl := it_size hc hp)) <| s_pure (fun w' hw => (by have h9 := valid_ok w' i a c hc hp (hg.ld.st hw) hb; rw [hv] at h9; exact h9)) <| s_y (v := .bool false) (y_not (b := true)) <| s_y y_mv <| s_y y_fa <| s_y (y_ld (b := b4) (v := I cb)) <| s_y y_fa <| s_y y_fa <| s_y (y_ld (b := b5) (v := I i.cB) (hv := it_cB hc)) <| s_nt (y_neq (p := cb) (q := i.cB)) hm <| s_y y_pk <| s_y y_mv <| s_no <| s_no <| s_no <| s_no <| s_no <| s_no <| s_y y_pk <| s_nil <| q_then <| c_t <| c_seq <| c_reg <| s_y y_as <| s_y y_as <| s_nil <| q_then <| c_ret <| q_ret <| ?_
  exact ret2 Tryz.results19 rv_t rv_t fun w' hw => ⟨OX.nil, OX.nil_ok, rfl, St.nilO hw⟩
theorem Via_n3 (w : World) (i : It) (a : Option Addr) (c : Nat) (x ca cb : Int) (cp : List UInt8) (hcp : cp.length = 32) (hcc : i.bd.length ≤ c) (h : i.Wf) (hg : LG w) (hr : Rd w a (bs i.bd)) (hb : i.bd.length ≤ 70000) (hv : i.vld = true) (hm : cb = i.cB) (hm2 : ¬ cp = i.pd) : GivesO 19 [I x, .agg (I ca :: I cb :: bs cp).toArray, itV i (.slice a i.bd.length c)] w [] 290 := by
  obtain ⟨hc, hp⟩ : i.cm.length = 32 ∧ i.pd.length = 32 := ⟨h.cm, h.pd⟩
  have hhl := head_len h
  refine enter Tryz.func19 Tryz.ntmps19 ?_
  refine c_seq <| c_reg <| s_box rfl fun b3 => s_box rfl fun b4 => s_box rfl fun b5 => s_y y_as <| s_y y_as <| s_nil <| q_then <| c_seq <| c_reg <| s_y (y_lda (b := b5) (cs := (itC i (.slice a i.bd.length c)).toArray) (hl := it_size hc hp)) <| s_y (y_bsealed hc hp) <| s_allocC (cs := (itC it0 (.slice none 0 0)).toArray) (by kernel_rfl) fun b8 => s_sta (b := b8) (vs := (itC i (.slice a i.bd.length c)).toArray) (cs := (itC it0 (.slice none 0 0)).toArray) (h1 := it_one) (hl := (it_size hc hp).trans (it_size rfl rfl).symm) (hs1 := it_size hc hp) ?_
  refine s_nil <| q_then <| c_seq <| c_seq <| c_reg <| s_y (y_lda (b := b8) (cs := (itC i (.slice a i.bd.length c)).toArray) (hl := it_size hc hp)) <| s_pure (fun w' hw => (by have h9 := valid_ok w' i a c hc hp (hg.ld.st hw) hb; rw [hv] at h9; exact h9)) <| s_y (v := .bool false) (y_not (b := true)) <| s_y y_mv <| s_y y_fa <| s_y (y_ld (b := b4) (v := I cb)) <| s_y y_fa <| s_y y_fa <| s_y (y_ld (b := b5) (v := I i.cB) (hv := it_cB hc)) <| s_nf (y_neq (p := cb) (q := i.cB)) hm <| s_y y_pk <| s_y y_mv <| s_y y_fa <| s_y (y_ldin (b := b4) (off := 0 + 2) (cs := (I ca :: I cb :: bs cp).toArray) (ys := bs cp) (hl := by rw [bs_length, hcp]) (hv := fun j v h => by rw [List.getElem?_toArray, show 0 + 2 + j = j + 1 + 1 by omega, List.getElem?_cons_succ, List.getElem?_cons_succ]; exact h)) <| s_y y_fa <| s_y y_fa <| s_y (y_ldin (b := b5) (off := 39) (cs := (itC i (.slice a i.bd.length c)).toArray) (ys := bs i.pd) (hl := (by rw [bs_length, hp])) (hv := it_pd hc)) <| s_nt (y_neqa (p := cp) (q := i.pd) hcp hp hgk) hm2 <| s_y y_pk <| s_nil <| q_then <| c_t <| c_seq <| c_reg <| s_y y_as <| s_y y_as <| s_nil <| q_then <| c_ret <| q_ret <| ?_
  exact ret2 Tryz.results19 rv_t rv_t fun w' hw => ⟨OX.nil, OX.nil_ok, rfl, St.nilO hw⟩
theorem Via_e (w : World) (i : It) (a : Option Addr) (c : Nat) (x ca cb : Int) (cp : List UInt8) (hcp : cp.length = 32) (hcc : i.bd.length ≤ c) (h : i.Wf) (hg : LG w) (hr : Rd w a (bs i.bd)) (hb : i.bd.length ≤ 70000) (hv : i.vld = true) (hm : cb = i.cB) (hm2 : cp = i.pd) (he : ¬ Go.Proofs.YtejdjnkilikehaaGreatDoor.opE x ca cb = 0) : GivesO 19 [I x, .agg (I ca :: I cb :: bs cp).toArray, itV i (.slice a i.bd.length c)] w [] (Go.Proofs.YtejdjnkilikehaaGreatDoor.opE x ca cb) := by
  obtain ⟨hc, hp⟩ : i.cm.length = 32 ∧ i.pd.length = 32 := ⟨h.cm, h.pd⟩
  have hhl := head_len h
  refine enter Tryz.func19 Tryz.ntmps19 ?_
  refine c_seq <| c_reg <| s_box rfl fun b3 => s_box rfl fun b4 => s_box rfl fun b5 => s_y y_as <| s_y y_as <| s_nil <| q_then <| c_seq <| c_reg <| s_y (y_lda (b := b5) (cs := (itC i (.slice a i.bd.length c)).toArray) (hl := it_size hc hp)) <| s_y (y_bsealed hc hp) <| s_allocC (cs := (itC it0 (.slice none 0 0)).toArray) (by kernel_rfl) fun b8 => s_sta (b := b8) (vs := (itC i (.slice a i.bd.length c)).toArray) (cs := (itC it0 (.slice none 0 0)).toArray) (h1 := it_one) (hl := (it_size hc hp).trans (it_size rfl rfl).symm) (hs1 := it_size hc hp) ?_
  refine s_nil <| q_then <| c_seq <| c_seq <| c_reg <| s_y (y_lda (b := b8) (cs := (itC i (.slice a i.bd.length c)).toArray) (hl := it_size hc hp)) <| s_pure (fun w' hw => (by have h9 := valid_ok w' i a c hc hp (hg.ld.st hw) hb; rw [hv] at h9; exact h9)) <| s_y (v := .bool false) (y_not (b := true)) <| s_y y_mv <| s_y y_fa <| s_y (y_ld (b := b4) (v := I cb)) <| s_y y_fa <| s_y y_fa <| s_y (y_ld (b := b5) (v := I i.cB) (hv := it_cB hc)) <| s_nf (y_neq (p := cb) (q := i.cB)) hm <| s_y y_pk <| s_y y_mv <| s_y y_fa <| s_y (y_ldin (b := b4) (off := 0 + 2) (cs := (I ca :: I cb :: bs cp).toArray) (ys := bs cp) (hl := by rw [bs_length, hcp]) (hv := fun j v h => by rw [List.getElem?_toArray, show 0 + 2 + j = j + 1 + 1 by omega, List.getElem?_cons_succ, List.getElem?_cons_succ]; exact h)) <| s_y y_fa <| s_y y_fa <| s_y (y_ldin (b := b5) (off := 39) (cs := (itC i (.slice a i.bd.length c)).toArray) (ys := bs i.pd) (hl := (by rw [bs_length, hp])) (hv := it_pd hc)) <| s_nf (y_neqa (p := cp) (q := i.pd) hcp hp hgk) hm2 <| s_y y_pk <| s_nil <| q_then <| c_f <| c_skip <| q_then <| c_seq <| c_reg <| s_y (y_lda (b := b8) (cs := (itC i (.slice a i.bd.length c)).toArray) (hl := it_size hc hp)) <| s_y y_func <| s_gives (fun w' hw => open_e w' i a c (kf := 60) [.pointer (some ⟨b3, 0, none⟩), .pointer (some ⟨b4, 0, none⟩)] (opK x ca cb cp) (Go.Proofs.YtejdjnkilikehaaGreatDoor.opE x ca cb) (opK_length x ca cb hcp) (fun w2 h2 => Via1_ok w2 b3 b4 x ca cb cp ((hg.st hw).st h2) hcp ((rd0 (xs := [I x]) hw (.tail _ (.tail _ (.tail _ (.head _))))).st h2) ((rd0 hw (.tail _ (.tail _ (.head _)))).st h2)) hcc h (hg.st hw) (hr.st hw) hb he) fun x32 hx => s_y y_ext <| s_y y_ext <| s_y y_as <| s_y y_as <| s_nil <| q_then <| c_ret <| ?_
  exact ret2 Tryz.results19 rv_t rv_t fun w' hw => ⟨x32, hx, rfl, hw.sub (.cons_cons _ (List.nil_sublist _))⟩
theorem Via_y (w : World) (i : It) (a : Option Addr) (c : Nat) (x ca cb : Int) (cp : List UInt8) (hcp : cp.length = 32) (hcc : i.bd.length ≤ c) (h : i.Wf) (hg : LG w) (hr : Rd w a (bs i.bd)) (hb : i.bd.length ≤ 70000) (hv : i.vld = true) (hm : cb = i.cB) (hm2 : cp = i.pd) (he : Go.Proofs.YtejdjnkilikehaaGreatDoor.opE x ca cb = 0) : GivesO 19 [I x, .agg (I ca :: I cb :: bs cp).toArray, itV i (.slice a i.bd.length c)] w (i.opnB (opK x ca cb cp)) (i.opnE (opK x ca cb cp)) := by
  obtain ⟨hc, hp⟩ : i.cm.length = 32 ∧ i.pd.length = 32 := ⟨h.cm, h.pd⟩
  have hhl := head_len h
  refine enter Tryz.func19 Tryz.ntmps19 ?_
  refine c_seq <| c_reg <| s_box rfl fun b3 => s_box rfl fun b4 => s_box rfl fun b5 => s_y y_as <| s_y y_as <| s_nil <| q_then <| c_seq <| c_reg <| s_y (y_lda (b := b5) (cs := (itC i (.slice a i.bd.length c)).toArray) (hl := it_size hc hp)) <| s_y (y_bsealed hc hp) <| s_allocC (cs := (itC it0 (.slice none 0 0)).toArray) (by kernel_rfl) fun b8 => s_sta (b := b8) (vs := (itC i (.slice a i.bd.length c)).toArray) (cs := (itC it0 (.slice none 0 0)).toArray) (h1 := it_one) (hl := (it_size hc hp).trans (it_size rfl rfl).symm) (hs1 := it_size hc hp) ?_
  refine s_nil <| q_then <| c_seq <| c_seq <| c_reg <| s_y (y_lda (b := b8) (cs := (itC i (.slice a i.bd.length c)).toArray) (hl := it_size hc hp)) <| s_pure (fun w' hw => (by have h9 := valid_ok w' i a c hc hp (hg.ld.st hw) hb; rw [hv] at h9; exact h9)) <| s_y (v := .bool false) (y_not (b := true)) <| s_y y_mv <| s_y y_fa <| s_y (y_ld (b := b4) (v := I cb)) <| s_y y_fa <| s_y y_fa <| s_y (y_ld (b := b5) (v := I i.cB) (hv := it_cB hc)) <| s_nf (y_neq (p := cb) (q := i.cB)) hm <| s_y y_pk <| s_y y_mv <| s_y y_fa <| s_y (y_ldin (b := b4) (off := 0 + 2) (cs := (I ca :: I cb :: bs cp).toArray) (ys := bs cp) (hl := by rw [bs_length, hcp]) (hv := fun j v h => by rw [List.getElem?_toArray, show 0 + 2 + j = j + 1 + 1 by omega, List.getElem?_cons_succ, List.getElem?_cons_succ]; exact h)) <| s_y y_fa <| s_y y_fa <| s_y (y_ldin (b := b5) (off := 39) (cs := (itC i (.slice a i.bd.length c)).toArray) (ys := bs i.pd) (hl := (by rw [bs_length, hp])) (hv := it_pd hc)) <| s_nf (y_neqa (p := cp) (q := i.pd) hcp hp hgk) hm2 <| s_y y_pk <| s_nil <| q_then <| c_f <| c_skip <| q_then <| c_seq <| c_reg <| s_y (y_lda (b := b8) (cs := (itC i (.slice a i.bd.length c)).toArray) (hl := it_size hc hp)) <| s_y y_func <| s_gives (fun w' hw => open_ok w' i a c (kf := 60) [.pointer (some ⟨b3, 0, none⟩), .pointer (some ⟨b4, 0, none⟩)] (opK x ca cb cp) (opK_length x ca cb hcp) (fun w2 h2 => (by have h9 := Via1_ok w2 b3 b4 x ca cb cp ((hg.st hw).st h2) hcp ((rd0 (xs := [I x]) hw (.tail _ (.tail _ (.tail _ (.head _))))).st h2) ((rd0 hw (.tail _ (.tail _ (.head _)))).st h2); rw [he] at h9; exact h9)) hcc h (hg.st hw) (hr.st hw) hb) fun x32 hx => s_y y_ext <| s_y y_ext <| s_y y_as <| s_y y_as <| s_nil <| q_then <| c_ret <| ?_
  exact ret2 Tryz.results19 rv_t rv_t fun w' hw => ⟨x32, hx, rfl, hw.sub (.cons_cons _ (List.nil_sublist _))⟩
theorem Via_ok (w : World) (i : It) (a : Option Addr) (c : Nat) (x ca cb : Int) (cp : List UInt8) (hcp : cp.length = 32) (hcc : i.bd.length ≤ c) (h : i.Wf) (hg : LG w) (hr : Rd w a (bs i.bd)) (hb : i.bd.length ≤ 70000) : GivesO 19 [I x, .agg (I ca :: I cb :: bs cp).toArray, itV i (.slice a i.bd.length c)] w (i.viaB x ca cb cp) (i.viaE x ca cb cp) := by
  unfold It.viaB It.viaE
  cases hv : i.vld with
  | false =>
    rw [if_neg (by simp), if_neg (by simp)]
    exact Via_n1 w i a c x ca cb cp hcp hcc h hg hr hb hv
  | true =>
    by_cases hm : cb = i.cB
    · by_cases hm2 : cp = i.pd
      · rw [if_pos (show true = true ∧ cb = i.cB ∧ cp = i.pd from ⟨rfl, hm, hm2⟩), if_pos (show true = true ∧ cb = i.cB ∧ cp = i.pd from ⟨rfl, hm, hm2⟩)]
        by_cases he : Go.Proofs.YtejdjnkilikehaaGreatDoor.opE x ca cb = 0
        · rw [if_pos he, if_pos he]
          exact Via_y w i a c x ca cb cp hcp hcc h hg hr hb hv hm hm2 he
        · rw [if_neg he, if_neg he]
          exact Via_e w i a c x ca cb cp hcp hcc h hg hr hb hv hm hm2 he
      · rw [if_neg (fun e => hm2 e.2.2), if_neg (fun e => hm2 e.2.2)]
        exact Via_n3 w i a c x ca cb cp hcp hcc h hg hr hb hv hm hm2
    · rw [if_neg (fun e => hm e.2.1), if_neg (fun e => hm e.2.1)]
      exact Via_n2 w i a c x ca cb cp hcp hcc h hg hr hb hv hm
theorem Check_n (w : World) (i : It) (a : Option Addr) (c : Nat) (v : Int) (h : i.Wf) (hg : LG w) (hr : Rd w a (bs i.bd)) (hb : i.bd.length ≤ 70000) (hv : i.vld = false) : Pure Tryz.prog 21 [itV i (.slice a i.bd.length c), I v] w (I 290) := by
  obtain ⟨hc, hp⟩ : i.cm.length = 32 ∧ i.pd.length = 32 := ⟨h.cm, h.pd⟩
  have hhl := head_len h
  have hsg : i.sg.length ≤ 71000 := by unfold It.sg; rw [List.length_append]; omega
  refine enter Tryz.func21 Tryz.ntmps21 ?_
  refine c_seq <| c_reg <| s_box rfl fun b2 => s_y y_as <| s_nil <| q_then <| c_seq <| c_reg <| s_y (y_lda (b := b2) (cs := (itC i (.slice a i.bd.length c)).toArray) (hl := it_size hc hp)) <| s_y (y_bsealed hc hp) <| s_allocC (cs := (itC it0 (.slice none 0 0)).toArray) (by kernel_rfl) fun b5 => s_sta (b := b5) (vs := (itC i (.slice a i.bd.length c)).toArray) (cs := (itC it0 (.slice none 0 0)).toArray) (h1 := it_one) (hl := (it_size hc hp).trans (it_size rfl rfl).symm) (hs1 := it_size hc hp) ?_
  refine s_nil <| q_then <| c_seq <| c_seq <| c_reg <| s_y (y_lda (b := b5) (cs := (itC i (.slice a i.bd.length c)).toArray) (hl := it_size hc hp)) <| s_pure (fun w' hw => (by have h9 := valid_ok w' i a c hc hp (hg.ld.st hw) hb; rw [hv] at h9; exact h9)) <| s_y (v := .bool true) (y_not (b := false)) <| s_nil <| q_then <| c_t <| c_seq <| c_reg <| s_y y_as <| s_nil <| q_then <| c_ret <| q_ret <| ?_
  exact ret1 Tryz.results21 rv_t fun w' hw => ⟨rfl, hw.sub (List.nil_sublist _)⟩
theorem Check_b (w : World) (i : It) (a : Option Addr) (c : Nat) (v : Int) (h : i.Wf) (hg : LG w) (hr : Rd w a (bs i.bd)) (hb : i.bd.length ≤ 70000) (hv : i.vld = true) (hvf : vrf v i.sg i.sR i.sS = false) : Pure Tryz.prog 21 [itV i (.slice a i.bd.length c), I v] w (I 222) := by
  obtain ⟨hc, hp⟩ : i.cm.length = 32 ∧ i.pd.length = 32 := ⟨h.cm, h.pd⟩
  have hhl := head_len h
  have hsg : i.sg.length ≤ 71000 := by unfold It.sg; rw [List.length_append]; omega
  refine enter Tryz.func21 Tryz.ntmps21 ?_
  refine c_seq <| c_reg <| s_box rfl fun b2 => s_y y_as <| s_nil <| q_then <| c_seq <| c_reg <| s_y (y_lda (b := b2) (cs := (itC i (.slice a i.bd.length c)).toArray) (hl := it_size hc hp)) <| s_y (y_bsealed hc hp) <| s_allocC (cs := (itC it0 (.slice none 0 0)).toArray) (by kernel_rfl) fun b5 => s_sta (b := b5) (vs := (itC i (.slice a i.bd.length c)).toArray) (cs := (itC it0 (.slice none 0 0)).toArray) (h1 := it_one) (hl := (it_size hc hp).trans (it_size rfl rfl).symm) (hs1 := it_size hc hp) ?_
  refine s_nil <| q_then <| c_seq <| c_seq <| c_reg <| s_y (y_lda (b := b5) (cs := (itC i (.slice a i.bd.length c)).toArray) (hl := it_size hc hp)) <| s_pure (fun w' hw => (by have h9 := valid_ok w' i a c hc hp (hg.ld.st hw) hb; rw [hv] at h9; exact h9)) <| s_y (v := .bool false) (y_not (b := true)) <| s_nil <| q_then <| c_f <| c_skip <| q_then <| c_seq <| c_seq <| c_regL [.blk b5 (.cells (itC i (.slice a i.bd.length c)).toArray 83 (0, 0)), .blk b2 (.cells (itC i (.slice a i.bd.length c)).toArray 36 (0, 0))] <| r_y 0 rfl y_mv <| r_y 1 rfl (y_lda (b := b5) (cs := (itC i (.slice a i.bd.length c)).toArray) (hl := it_size hc hp)) <| r_y 3 rfl y_fa <| r_y 4 rfl (y_ldin (b := b2) (off := 72) (cs := (itC i (.slice a i.bd.length c)).toArray) (ys := [I i.sR, I i.sS]) (hl := rfl) (hv := it_sig hc hp)) <| r_W 2 rfl <| s_gives (fun w' hw => isgd_ok w' i a c h (hr.st hw) hb) fun x13 _ => r_K <| r_W 5 rfl <| s_pure (fun w' hw => (by have h9 := sVerify_ok w' x13.1 x13.2 i.sg v i.sR i.sS (hg.ls.st hw) (rdR (.head _) w' hw) (by omega); rw [hvf] at h9; exact h9)) <| r_K <| r_y 6 rfl (v := .bool true) (y_not (b := false)) <| r_E <| q_then <| c_t <| c_seq <| c_reg <| s_y y_as <| s_nil <| q_then <| c_ret <| q_ret <| ?_
  exact ret1 Tryz.results21 rv_t fun w' hw => ⟨rfl, hw.sub (List.nil_sublist _)⟩
theorem Check_y (w : World) (i : It) (a : Option Addr) (c : Nat) (v : Int) (h : i.Wf) (hg : LG w) (hr : Rd w a (bs i.bd)) (hb : i.bd.length ≤ 70000) (hv : i.vld = true) (hvf : vrf v i.sg i.sR i.sS = true) : Pure Tryz.prog 21 [itV i (.slice a i.bd.length c), I v] w (I 0) := by
  obtain ⟨hc, hp⟩ : i.cm.length = 32 ∧ i.pd.length = 32 := ⟨h.cm, h.pd⟩
  have hhl := head_len h
  have hsg : i.sg.length ≤ 71000 := by unfold It.sg; rw [List.length_append]; omega
  refine enter Tryz.func21 Tryz.ntmps21 ?_
  refine c_seq <| c_reg <| s_box rfl fun b2 => s_y y_as <| s_nil <| q_then <| c_seq <| c_reg <| s_y (y_lda (b := b2) (cs := (itC i (.slice a i.bd.length c)).toArray) (hl := it_size hc hp)) <| s_y (y_bsealed hc hp) <| s_allocC (cs := (itC it0 (.slice none 0 0)).toArray) (by kernel_rfl) fun b5 => s_sta (b := b5) (vs := (itC i (.slice a i.bd.length c)).toArray) (cs := (itC it0 (.slice none 0 0)).toArray) (h1 := it_one) (hl := (it_size hc hp).trans (it_size rfl rfl).symm) (hs1 := it_size hc hp) ?_
  refine s_nil <| q_then <| c_seq <| c_seq <| c_reg <| s_y (y_lda (b := b5) (cs := (itC i (.slice a i.bd.length c)).toArray) (hl := it_size hc hp)) <| s_pure (fun w' hw => (by have h9 := valid_ok w' i a c hc hp (hg.ld.st hw) hb; rw [hv] at h9; exact h9)) <| s_y (v := .bool false) (y_not (b := true)) <| s_nil <| q_then <| c_f <| c_skip <| q_then <| c_seq <| c_seq <| c_regL [.blk b5 (.cells (itC i (.slice a i.bd.length c)).toArray 83 (0, 0)), .blk b2 (.cells (itC i (.slice a i.bd.length c)).toArray 36 (0, 0))] <| r_y 0 rfl y_mv <| r_y 1 rfl (y_lda (b := b5) (cs := (itC i (.slice a i.bd.length c)).toArray) (hl := it_size hc hp)) <| r_y 3 rfl y_fa <| r_y 4 rfl (y_ldin (b := b2) (off := 72) (cs := (itC i (.slice a i.bd.length c)).toArray) (ys := [I i.sR, I i.sS]) (hl := rfl) (hv := it_sig hc hp)) <| r_W 2 rfl <| s_gives (fun w' hw => isgd_ok w' i a c h (hr.st hw) hb) fun x13 _ => r_K <| r_W 5 rfl <| s_pure (fun w' hw => (by have h9 := sVerify_ok w' x13.1 x13.2 i.sg v i.sR i.sS (hg.ls.st hw) (rdR (.head _) w' hw) (by omega); rw [hvf] at h9; exact h9)) <| r_K <| r_y 6 rfl (v := .bool false) (y_not (b := true)) <| r_E <| q_then <| c_f <| c_skip <| q_then <| c_seq <| c_reg <| s_y y_as <| s_nil <| q_then <| c_ret <| ?_
  exact ret1 Tryz.results21 rv_t fun w' hw => ⟨rfl, hw.sub (List.nil_sublist _)⟩
theorem Check_ok (w : World) (i : It) (a : Option Addr) (c : Nat) (v : Int) (h : i.Wf) (hg : LG w) (hr : Rd w a (bs i.bd)) (hb : i.bd.length ≤ 70000) : Pure Tryz.prog 21 [itV i (.slice a i.bd.length c), I v] w (I (i.chk v)) := by
  unfold It.chk
  cases hv : i.vld with
  | false =>
    rw [if_neg (by simp)]
    exact Check_n w i a c v h hg hr hb hv
  | true =>
    rw [if_pos rfl]
    cases hvf : vrf v i.sg i.sR i.sS with
    | false =>
      rw [if_neg (by simp)]
      exact Check_b w i a c v h hg hr hb hv hvf
    | true =>
      rw [if_pos rfl]
      exact Check_y w i a c v h hg hr hb hv hvf
theorem Encode_n (w : World) (i : It) (a : Option Addr) (c : Nat) (h : i.Wf) (hg : LG w) (hr : Rd w a (bs i.bd)) (hb : i.bd.length ≤ 70000) (hv : i.vld = false) : Gives Tryz.prog 23 [itV i (.slice a i.bd.length c)] w [] (fun x : Option Addr × Nat => .tuple #[.slice x.1 ([] : List UInt8).length x.2, I 290]) (fun x => [.row x.1 x.2 5 1 ([] : List UInt8).length (bs ([] : List UInt8))]) (fun _ => True) := by
  obtain ⟨hc, hp⟩ : i.cm.length = 32 ∧ i.pd.length = 32 := ⟨h.cm, h.pd⟩
  have hhl := head_len h
  refine enter Tryz.func23 Tryz.ntmps23 ?_
  refine c_seq <| c_reg <| s_box rfl fun b1 => s_y y_as <| s_y y_as <| s_nil <| q_then <| c_seq <| c_reg <| s_y (y_lda (b := b1) (cs := (itC i (.slice a i.bd.length c)).toArray) (hl := it_size hc hp)) <| s_y (y_bsealed hc hp) <| s_allocC (cs := (itC it0 (.slice none 0 0)).toArray) (by kernel_rfl) fun b4 => s_sta (b := b4) (vs := (itC i (.slice a i.bd.length c)).toArray) (cs := (itC it0 (.slice none 0 0)).toArray) (h1 := it_one) (hl := (it_size hc hp).trans (it_size rfl rfl).symm) (hs1 := it_size hc hp) ?_
  refine s_nil <| q_then <| c_seq <| c_seq <| c_reg <| s_y (y_lda (b := b4) (cs := (itC i (.slice a i.bd.length c)).toArray) (hl := it_size hc hp)) <| s_pure (fun w' hw => (by have h9 := valid_ok w' i a c hc hp (hg.ld.st hw) hb; rw [hv] at h9; exact h9)) <| s_y (v := .bool true) (y_not (b := false)) <| s_nil <| q_then <| c_t <| c_seq <| c_reg <| s_y y_as <| s_y y_as <| s_nil <| q_then <| c_ret <| q_ret <| ?_
  exact ret2 Tryz.results23 rv_t rv_t fun w' hw => ⟨(none, 0), trivial, rfl, (hw.nilRow _ _).sub (.cons_cons _ (List.nil_sublist _))⟩
theorem Encode_y (w : World) (i : It) (a : Option Addr) (c : Nat) (h : i.Wf) (hg : LG w) (hr : Rd w a (bs i.bd)) (hb : i.bd.length ≤ 70000) (hv : i.vld = true) : Gives Tryz.prog 23 [itV i (.slice a i.bd.length c)] w [] (fun x : Option Addr × Nat => .tuple #[.slice x.1 i.all.length x.2, I 0]) (fun x => [.row x.1 x.2 5 1 i.all.length (bs i.all)]) (fun _ => True) := by
  obtain ⟨hc, hp⟩ : i.cm.length = 32 ∧ i.pd.length = 32 := ⟨h.cm, h.pd⟩
  have hhl := head_len h
  refine enter Tryz.func23 Tryz.ntmps23 ?_
  refine c_seq <| c_reg <| s_box rfl fun b1 => s_y y_as <| s_y y_as <| s_nil <| q_then <| c_seq <| c_reg <| s_y (y_lda (b := b1) (cs := (itC i (.slice a i.bd.length c)).toArray) (hl := it_size hc hp)) <| s_y (y_bsealed hc hp) <| s_allocC (cs := (itC it0 (.slice none 0 0)).toArray) (by kernel_rfl) fun b4 => s_sta (b := b4) (vs := (itC i (.slice a i.bd.length c)).toArray) (cs := (itC it0 (.slice none 0 0)).toArray) (h1 := it_one) (hl := (it_size hc hp).trans (it_size rfl rfl).symm) (hs1 := it_size hc hp) ?_
  refine s_nil <| q_then <| c_seq <| c_seq <| c_reg <| s_y (y_lda (b := b4) (cs := (itC i (.slice a i.bd.length c)).toArray) (hl := it_size hc hp)) <| s_pure (fun w' hw => (by have h9 := valid_ok w' i a c hc hp (hg.ld.st hw) hb; rw [hv] at h9; exact h9)) <| s_y (v := .bool false) (y_not (b := true)) <| s_nil <| q_then <| c_f <| c_skip <| q_then <| c_seq <| c_reg <| s_y (y_lda (b := b4) (cs := (itC i (.slice a i.bd.length c)).toArray) (hl := it_size hc hp)) <| s_gives (fun w' hw => fields_ok w' i a c hc hp) fun x12 _ => s_alloc fun b5 => s_sta (b := b5) (vs := #[I 3, I 0, .string (sb []), .slice x12.1 9 x12.2]) (cs := #[I 0, I 0, .string .empty, .slice none 0 0]) (h1 := by intro u hu; simp at hu; rcases hu with rfl | rfl | rfl | rfl <;> rfl) (hl := rfl) (hs1 := rfl) ?_
  refine s_nil <| q_then <| c_seq <| c_regG [.blk b5 (.cells #[I 3, I 0, .string (sb []), .slice x12.1 9 x12.2] 76 (0, 0)), .blk b4 (.cells (itC i (.slice a i.bd.length c)).toArray 83 (0, 0)), .blk b1 (.cells (itC i (.slice a i.bd.length c)).toArray 36 (0, 0))] (.cons_cons _ (.cons _ (.cons_cons _ (.cons_cons _ (List.nil_sublist _))))) 18 <| f_y 0 rfl y_fa <| f_y 1 rfl (y_ld (b := b5) (v := .slice x12.1 9 x12.2)) <| f_y 2 rfl y_fa <| f_y 3 rfl (y_ld (b := b1) (v := .slice a i.bd.length c) (hv := it_bd hc hp)) <| f_y 4 rfl y_mki <| f_y 5 rfl y_fa <| f_y 6 rfl y_fa <| f_y 7 rfl (y_ld (b := b1) (v := I i.sR) (hv := it_sR hc hp)) <| f_y 8 rfl y_mki <| f_y 9 rfl y_fa <| f_y 10 rfl y_fa <| f_y 11 rfl (y_ld (b := b1) (v := I i.sS) (hv := it_sS hc hp)) <| f_y 12 rfl y_mki <| f_w 13 rfl (hsub := by repeat (first | exact List.nil_sublist _ | exact List.Sublist.refl _ | apply List.Sublist.cons_cons | apply List.Sublist.cons)) <| s_bslr (cs := [.iface 27 (.slice a i.bd.length c), .iface 3 (I i.sR), .iface 3 (I i.sS)]) fun b26 => f_kk <| f_w 14 rfl (hsub := by repeat (first | exact List.nil_sublist _ | exact List.Sublist.refl _ | apply List.Sublist.cons_cons | apply List.Sublist.cons)) <| s_gives (fun w' hw => list_ok w' (some ⟨b26, 0, none⟩) 3 [.inr (a, i.bd.length, c, i.bd), .inl i.sR, .inl i.sS] (rdR (.head _) w' hw) ⟨rfl, hr.st hw, trivial⟩ (by simp)) fun x27 _ => f_kk <| f_y 15 rfl y_fld <| f_w 16 rfl (hsub := by repeat (first | exact List.nil_sublist _ | exact List.Sublist.refl _ | apply List.Sublist.cons_cons | apply List.Sublist.cons)) <| s_app (m := 3) (fun w' hw => Src.slice (rdR (.head _) w' hw) rfl) (h1 := fcells_one1 _) (hm := .tail _ (.tail _ (.tail _ (.head _)))) (hrep := fun _ _ => .tail _ (.tail _ (.tail _ (.head _)))) fun a29 c29 h29 => ?_
  rw [show fcells i.hl ++ fcells (List.map toV [.inr (a, i.bd.length, c, i.bd), .inl i.sR, .inl i.sS]) = fcells i.al by rw [← fcells_append]; rfl]
  refine f_kk <| f_y 17 rfl y_fa <| f_w 18 rfl (hsub := by repeat (first | exact List.nil_sublist _ | exact List.Sublist.refl _ | apply List.Sublist.cons_cons | apply List.Sublist.cons)) <| s_st (b := b5) (v := .slice a29 (9 + 3) c29) (cs := #[I 3, I 0, .string (sb []), .slice x12.1 9 x12.2]) (hl := by simp) ?_
  refine f_z <| q_then <| c_seq <| c_reg <| s_y (y_lda (b := b5) (cs := #[I 3, I 0, .string (sb []), .slice a29 (9 + 3) c29]) (hl := rfl)) <| s_gives (fun w' hw => codec_Encode_ok w' (vL i.al) (.agg #[I 3, I 0, .string (sb []), .slice a29 (9 + 3) c29]) (vL_vv (rdR (.tail _ (.tail _ (.tail _ (.head _)))) w' hw) (al_flat h hb) (show ((9 + 3) : Nat) < 1152921504606846976 by decide)) (by rw [vL_dep (al_k i)]; decide) (Nat.le_trans (all_len h hb) (by decide))) fun x32 _ => ?_
  rw [vL_encd (al_k i), vL_chk (al_k i), show (vL i.al).enc = i.all from rfl]
  refine s_y y_ext <| s_y y_ext <| s_y y_as <| s_y y_as <| s_nil <| q_then <| c_ret <| ?_
  exact ret2 Tryz.results23 rv_t rv_t fun w' hw => ⟨x32, trivial, rfl, hw.sub (.cons_cons _ (List.nil_sublist _))⟩
theorem Encode_ok (w : World) (i : It) (a : Option Addr) (c : Nat) (h : i.Wf) (hg : LG w) (hr : Rd w a (bs i.bd)) (hb : i.bd.length ≤ 70000) : Gives Tryz.prog 23 [itV i (.slice a i.bd.length c)] w [] (fun x : Option Addr × Nat => .tuple #[.slice x.1 i.encB.length x.2, I i.encE]) (fun x => [.row x.1 x.2 5 1 i.encB.length (bs i.encB)]) (fun _ => True) := by
  unfold It.encB It.encE
  cases hv : i.vld with
  | false => exact Encode_n w i a c h hg hr hb hv
  | true => exact Encode_y w i a c h hg hr hb hv
theorem encB_len {i : It} (h : i.Wf) (hb : i.bd.length ≤ 70000) : i.encB.length ≤ 80000 := by
  unfold It.encB
  split
  · exact all_len h hb
  · simp
theorem ID_ok (w : World) (i : It) (a : Option Addr) (c : Nat) (h : i.Wf) (hg : LG w) (hr : Rd w a (bs i.bd)) (hb : i.bd.length ≤ 70000) : Pure Tryz.prog 25 [itV i (.slice a i.bd.length c)] w (.agg (bs (tagged lbItem i.encB)).toArray) := by
  obtain ⟨hc, hp⟩ : i.cm.length = 32 ∧ i.pd.length = 32 := ⟨h.cm, h.pd⟩
  have hhl := head_len h
  have hel := encB_len h hb
  refine enter Tryz.func25 Tryz.ntmps25 ?_
  refine c_seq <| c_reg <| s_box rfl fun b1 => s_alloc fun b2 => s_nil <| q_then <| c_seq <| c_reg <| s_y (y_lda (b := b1) (cs := (itC i (.slice a i.bd.length c)).toArray) (hl := it_size hc hp)) <| s_gives (fun w' hw => Encode_ok w' i a c h (hg.st hw) (hr.st hw) hb) fun x7 _ => s_y y_mv <| s_y y_ext <| s_y y_ext <| s_y y_as <| s_y y_as <| s_nil <| q_then <| c_seq <| c_reg <| s_y y_mv <| s_pure (fun w' hw => digest_Tagged_ok w' lbItem x7.1 x7.2 i.encB (hg.ls.st hw) (by decide) (rdR (.head _) w' hw) (by omega)) <| s_sta (b := b2) (vs := (bs (tagged lbItem i.encB)).toArray) (cs := (bs (List.replicate 32 0)).toArray) (h1 := fun v hv => bs_one (by simpa using hv)) (hl := ((hz32 (tagged_length _ _))).trans ((hz32 List.length_replicate)).symm) (hs1 := (hz32 (tagged_length _ _))) ?_
  refine s_nil <| q_then <| c_ret <| ?_
  exact ret1 Tryz.results25 (rv_ca (b := b2) (cs := (bs (tagged lbItem i.encB)).toArray) (hl := (hz32 (tagged_length _ _)))) fun w' hw => ⟨rfl, hw.sub (List.nil_sublist _)⟩
end Go.Proofs.YtejdjnkilikehaaGreatDoor
end
section
namespace Eng
open Go Go.RowKit
theorem fillL_st {place : Nat → Option (Nat × Nat)} {z z' : List Value} {v : Value} {r : List (Nat × Value)} {k off m : Nat} (hp : place k = some (off, m)) (hl : v.cells.toList.length = m) (hz : off + m ≤ z.length) (he : z.take off ++ v.cells.toList ++ z.drop (off + m) = z') :
    fillL place z ((k, v) :: r) = fillL place z' r := by
  rw [fillL]
  simp only [hp]
  have e1 : Nat.beq v.cells.toList.length m = true := by rw [hl]; exact Nat.beq_refl m
  have e2 : Nat.ble (off + m) z.length = true := Nat.ble_eq_true_of_le hz
  rw [e1, e2, he]
  rfl
theorem fillL_1 {place : Nat → Option (Nat × Nat)} {z z' : List Value} {v : Value} {r : List (Nat × Value)} {k off : Nat} (hp : place k = some (off, 1)) (hv : v.cells = #[v]) (hz : off < z.length) (he : z.set off v = z') :
    fillL place z ((k, v) :: r) = fillL place z' r :=
  fillL_st hp (by rw [hv]; rfl) hz (by rw [hv, ← he, List.set_eq_take_append_cons_drop, if_pos hz]; simp)
end Eng
namespace Itm
open Go Eng Cod Gf Sha Cha Sig Wr Go.Proofs.YtejdjnkilikehaaGreatDoor
def itPl : Array (Nat × Nat) := #[(0, 1), (1, 32), (33, 1), (34, 1), (35, 1), (36, 1), (37, 34), (71, 1), (72, 2)]
theorem put_cm {i : It} {s : Value} (hc : i.cm.length = 32) {q : List UInt8} (hq : q.length = 32) : (itC i s).take 1 ++ bs q ++ (itC i s).drop (1 + 32) = itC { i with cm := q } s := by
  unfold itC
  rw [cons_take, List.take_zero, show 1 + 32 = 32 + 1 from rfl, cons_drop, List.drop_left' (by rw [bs_length, hc])]
  rfl
section
variable {i : It} {s : Value} {r : List (Nat × Value)} (hc : i.cm.length = 32) (hp : i.pd.length = 32)
include hc hp
theorem fI0 (z : Int) : fillL (fun k => itPl[k]?) (itC i s) ((0, I z) :: r) = fillL (fun k => itPl[k]?) (itC { i with fo := z } s) r := fillL_1 (off := 0) rfl rfl (by rw [it_len hc hp]; decide) (set_fo z)
theorem fI1 {q : List UInt8} (hq : q.length = 32) : fillL (fun k => itPl[k]?) (itC i s) ((1, .agg (bs q).toArray) :: r) = fillL (fun k => itPl[k]?) (itC { i with cm := q } s) r :=
  fillL_st (off := 1) (m := 32) rfl (by show (bs q).toArray.toList.length = 32; rw [List.toList_toArray, bs_length, hq]) (by rw [it_len hc hp]; decide) (by show _ ++ (bs q).toArray.toList ++ _ = _; rw [List.toList_toArray]; exact put_cm hc hq)
theorem fI2 (z : Int) : fillL (fun k => itPl[k]?) (itC i s) ((2, I z) :: r) = fillL (fun k => itPl[k]?) (itC { i with dv := z } s) r := fillL_1 (off := 33) rfl rfl (by rw [it_len hc hp]; decide) (set_dv hc z)
theorem fI3 (z : Int) : fillL (fun k => itPl[k]?) (itC i s) ((3, I z) :: r) = fillL (fun k => itPl[k]?) (itC { i with ct := z } s) r := fillL_1 (off := 34) rfl rfl (by rw [it_len hc hp]; decide) (set_ct hc z)
theorem fI4 (z : Int) : fillL (fun k => itPl[k]?) (itC i s) ((4, I z) :: r) = fillL (fun k => itPl[k]?) (itC { i with kd := z } s) r := fillL_1 (off := 35) rfl rfl (by rw [it_len hc hp]; decide) (set_kd hc z)
theorem fI5 (z : Int) : fillL (fun k => itPl[k]?) (itC i s) ((5, I z) :: r) = fillL (fun k => itPl[k]?) (itC { i with sz := z } s) r := fillL_1 (off := 36) rfl rfl (by rw [it_len hc hp]; decide) (set_sz hc z)
theorem fI6 (a b : Int) {p : List UInt8} (hq : p.length = 32) : fillL (fun k => itPl[k]?) (itC i s) ((6, .agg (I a :: I b :: bs p).toArray) :: r) = fillL (fun k => itPl[k]?) (itC { i with cA := a, cB := b, pd := p } s) r :=
  fillL_st (off := 37) (m := 34) rfl (by show (I a :: I b :: bs p).toArray.toList.length = 34; simp [bs_length, hq]) (by rw [it_len hc hp]; decide) (by
    have h := put_cap (s := s) hc hp a b hq
    rw [show (I a :: I b :: bs p).length = 34 by simp [bs_length, hq]] at h
    show _ ++ (I a :: I b :: bs p).toArray.toList ++ _ = _
    rw [List.toList_toArray]; exact h)
theorem fI7 (q : List UInt8) (a : Option Addr) (m c : Nat) : fillL (fun k => itPl[k]?) (itC i s) ((7, .slice a m c) :: r) = fillL (fun k => itPl[k]?) (itC { i with bd := q } (.slice a m c)) r := fillL_1 (off := 71) rfl rfl (by rw [it_len hc hp]; decide) (set_bd hc hp _ q)
theorem fI8 (a b : Int) : fillL (fun k => itPl[k]?) (itC i s) ((8, .agg #[I a, I b]) :: r) = fillL (fun k => itPl[k]?) (itC { i with sR := a, sS := b } s) r :=
  fillL_st (off := 72) (m := 2) rfl rfl (by rw [it_len hc hp]; decide) (put_sig hc hp a b)
end
theorem fill5 (f d c k : Int) {cm : List UInt8} (hcm : cm.length = 32) : fillL (fun k => itPl[k]?) (itC it0 (.slice none 0 0)) [(0, I f), (1, .agg (bs cm).toArray), (2, I d), (3, I c), (4, I k)] = some (itC ⟨f, cm, d, c, k, 0, 0, 0, List.replicate 32 0, [], 0, 0⟩ (.slice none 0 0)) :=
  (fI0 rfl rfl f).trans <| (fI1 rfl rfl hcm).trans <| (fI2 hcm rfl d).trans <| (fI3 hcm rfl c).trans <| (fI4 hcm rfl k).trans rfl
noncomputable def sl0 (f : Int) (cm ks : List UInt8) (d c k : Int) (q s : List UInt8) : It := ⟨f, cm, d, c, k, clV q.length, lkA (pp 4 (lnk ks) : Nat) s, lkB (pp 4 (lnk ks) : Nat) s, lkP (pp 4 (lnk ks) : Nat) (ckey ks d c) s, [], 0, 0⟩
noncomputable def sl1 (f : Int) (cm ks : List UInt8) (d c k : Int) (q s : List UInt8) : It := { sl0 f cm ks d c k q s with bd := sealB (ckey ks d c) z12 (sl0 f cm ks d c k q s).head (pad q) }
noncomputable def sl (f : Int) (cm ks : List UInt8) (d c k : Int) (x : Nat) (q s : List UInt8) : It := { sl1 f cm ks d c k q s with sR := (sgR x (sl1 f cm ks d c k q s).sg : Nat), sS := (sgS x (sl1 f cm ks d c k q s).sg : Nat) }
theorem ckey_length (s : List UInt8) (d c : Int) : (ckey s d c).length = 32 := expand_length _ _ _
theorem lkA_r (y : Nat) (s : List UInt8) : R64 (lkA (y : Int) s) := by
  unfold lkA
  cases el (y : Int) with
  | false => exact R64_0
  | true =>
    have := pp_lt (y : Int).toNat (dscal s lbLock)
    show R64 ((pp (y : Int).toNat (dscal s lbLock) : Nat) : Int)
    unfold R64; omega
theorem lkB_r (y : Nat) (s : List UInt8) : R64 (lkB (y : Int) s) := by
  unfold lkB
  cases el (y : Int) with
  | false => exact R64_0
  | true =>
    have := Nat.mod_lt (pp 4 (dscal s lbMask) * pp 4 (dscal s lbLock)) (show 4611686018427377339 > 0 by decide)
    show R64 ((pp 4 (dscal s lbMask) * pp 4 (dscal s lbLock) % 4611686018427377339 : Nat) : Int)
    unfold R64; omega
theorem clV_r (n : Int) : R64 (clV n) := by
  unfold clV
  split
  · exact R64_0
  · have := pcl_bd n; unfold R64; omega
theorem sl0_wf {f d c k : Int} {cm ks q s : List UInt8} (hf : R64 f) (hcm : cm.length = 32) (hd : R64 d) (hc : R64 c) (hk : R64 k) : (sl0 f cm ks d c k q s).Wf where
  fo := hf
  cm := hcm
  dv := hd
  ct := hc
  kd := hk
  sz := clV_r _
  cA := lkA_r _ _
  cB := lkB_r _ _
  pd := lkP_length _ _ (ckey_length _ _ _)
  sR := R64_0
  sS := R64_0
theorem sl1_wf {f d c k : Int} {cm ks q s : List UInt8} (hf : R64 f) (hcm : cm.length = 32) (hd : R64 d) (hc : R64 c) (hk : R64 k) : (sl1 f cm ks d c k q s).Wf := by
  have h := sl0_wf (ks := ks) (q := q) (s := s) hf hcm hd hc hk
  exact ⟨h.fo, h.cm, h.dv, h.ct, h.kd, h.sz, h.cA, h.cB, h.pd, R64_0, R64_0⟩
theorem sg_r (x : Nat) (m : List UInt8) : R64 (sgR x m : Nat) ∧ R64 (sgS x m : Nat) := by
  have h1 := pp_lt 4 (nonce x m)
  have h2 := sgS_lt x m
  have h3 : sgR x m = pp 4 (nonce x m) := rfl
  unfold R64
  omega
theorem sl_wf {f d c k : Int} {cm ks q s : List UInt8} {x : Nat} (hf : R64 f) (hcm : cm.length = 32) (hd : R64 d) (hc : R64 c) (hk : R64 k) : (sl f cm ks d c k x q s).Wf := by
  have h := sl1_wf (ks := ks) (q := q) (s := s) hf hcm hd hc hk
  have h2 := sg_r x (sl1 f cm ks d c k q s).sg
  exact ⟨h.fo, h.cm, h.dv, h.ct, h.kd, h.sz, h.cA, h.cB, h.pd, h2.1, h2.2⟩
theorem pad_le (q : List UInt8) : (pad q).length ≤ 65536 := by
  by_cases h : q.length ≤ 65532
  · have := pad_length h; have := plen_le (pcl q.length); omega
  · unfold pad; rw [if_pos (by omega)]; simp
theorem sl1_bd {f d c k : Int} {cm ks q s : List UInt8} : (sl1 f cm ks d c k q s).bd.length = (pad q).length + 16 := sealB_length _ _ _ _
end Itm
namespace Go.Proofs.YtejdjnkilikehaaGreatDoor
open Go Eng Gf Sha Sig Wr Cod Cha Itm
set_option maxRecDepth 100000
theorem y_bitem {n : Nat} {D : List Deferred} {W : World} {Bo : List Nat} {F : List (Nat × Value)} {l : SH} {d : Option Tmp} {ty : TypeId} {ps : String} {af : Array Edge} {g : Option (Nat × Bool)} {parts : Array (Nat × Operand)} {vs : List (Nat × Value)} {i : It} {s : Value}
    (hf : fillL (fun k => itPl[k]?) (itC it0 (.slice none 0 0)) vs = some (itC i s)) (hx : evP F parts.toList = some vs := by rfl) : Y Tryz.prog n D W Bo ⟨d, .build 36 parts, ty, ps, af, g⟩ F l (itV i s) :=
  y_blds (places := itPl) Tryz.underlying36 (fun w => by kernel_rfl) hx (by exact hf)
theorem Seal_n (w : World) (f : Int) (cm ks : List UInt8) (d c k : Int) (q s : List UInt8) (pa : Option Addr) (pc : Nat) (x : Int) (hg : LG w) (hf : R64 f) (hcm : cm.length = 32) (hks : ks.length = 32) (hd : R64 d) (hc : R64 c) (hk : R64 k) (hs : s.length = 32) (hrp : Rd w pa (bs q)) (hq : q.length < 9223372036854775807) (hn : numB f d c k = false) : Gives Tryz.prog 41 [I f, .agg (bs cm ++ bs ks).toArray, I d, I c, I k, I x, .slice pa q.length pc, .agg (bs s).toArray] w [] (fun y : Option Addr × Nat => .tuple #[itV it0 (.slice y.1 it0.bd.length y.2), I 290]) (fun y => [.row y.1 y.2 5 1 it0.bd.length (bs it0.bd)]) (fun _ => True) := by
  refine enter Tryz.func41 Tryz.ntmps41 ?_
  refine c_seq <| c_reg <| s_box rfl fun b9 => s_box rfl fun b15 => s_allocC (cs := (itC it0 (.slice none 0 0)).toArray) (by kernel_rfl) fun b16 => s_y y_as <| s_nil <| q_then <| c_seq <| c_seq <| c_reg <| s_y y_mv <| s_y y_mv <| s_y y_mv <| s_y y_mv <| s_pure (fun w' hw => (by have h9 := numbers_ok w' f d c k; rw [hn] at h9; exact h9)) <| s_y (v := .bool true) (y_not (b := false)) <| s_nil <| q_then <| c_t <| c_seq <| c_reg <| s_y (y_lda (b := b16) (cs := (itC it0 (.slice none 0 0)).toArray) (hl := it_size rfl rfl)) <| s_sta (b := b16) (vs := (itC it0 (.slice none 0 0)).toArray) (cs := (itC it0 (.slice none 0 0)).toArray) (h1 := it_one) (hl := (it_size rfl rfl).trans (it_size rfl rfl).symm) (hs1 := it_size rfl rfl) ?_
  refine s_y y_as <| s_nil <| q_then <| c_ret <| q_ret <| ?_
  exact ret2 Tryz.results41 (rv_ca (b := b16) (cs := (itC it0 (.slice none 0 0)).toArray) (hl := (it_size rfl rfl))) rv_t fun w' hw => ⟨(none, 0), trivial, rfl, (hw.nilRow _ _).sub (.cons_cons _ (List.nil_sublist _))⟩
theorem Seal_p (w : World) (f : Int) (cm ks : List UInt8) (d c k : Int) (q s : List UInt8) (pa : Option Addr) (pc : Nat) (x : Int) (hg : LG w) (hf : R64 f) (hcm : cm.length = 32) (hks : ks.length = 32) (hd : R64 d) (hc : R64 c) (hk : R64 k) (hs : s.length = 32) (hrp : Rd w pa (bs q)) (hq : q.length < 9223372036854775807) (hn : numB f d c k = true) (hx : pvB x = false) : Gives Tryz.prog 41 [I f, .agg (bs cm ++ bs ks).toArray, I d, I c, I k, I x, .slice pa q.length pc, .agg (bs s).toArray] w [] (fun y : Option Addr × Nat => .tuple #[itV it0 (.slice y.1 it0.bd.length y.2), I 50]) (fun y => [.row y.1 y.2 5 1 it0.bd.length (bs it0.bd)]) (fun _ => True) := by
  refine enter Tryz.func41 Tryz.ntmps41 ?_
  refine c_seq <| c_reg <| s_box rfl fun b9 => s_box rfl fun b15 => s_allocC (cs := (itC it0 (.slice none 0 0)).toArray) (by kernel_rfl) fun b16 => s_y y_as <| s_nil <| q_then <| c_seq <| c_seq <| c_reg <| s_y y_mv <| s_y y_mv <| s_y y_mv <| s_y y_mv <| s_pure (fun w' hw => (by have h9 := numbers_ok w' f d c k; rw [hn] at h9; exact h9)) <| s_y (v := .bool false) (y_not (b := true)) <| s_nil <| q_then <| c_f <| c_skip <| q_then <| c_seq <| c_seq <| c_reg <| s_y y_mv <| s_pure (fun w' hw => sPublic_no w' x hx) <| s_y y_mv <| s_y y_ext <| s_y y_ext <| s_y y_as <| s_y y_as <| s_nil <| q_then <| c_seq <| c_reg <| s_y y_mv <| s_nt (y_neq (p := 50) (q := 0)) (by omega) <| s_nil <| q_then <| c_t <| c_seq <| c_reg <| s_y (y_lda (b := b16) (cs := (itC it0 (.slice none 0 0)).toArray) (hl := it_size rfl rfl)) <| s_y y_mv <| s_sta (b := b16) (vs := (itC it0 (.slice none 0 0)).toArray) (cs := (itC it0 (.slice none 0 0)).toArray) (h1 := it_one) (hl := (it_size rfl rfl).trans (it_size rfl rfl).symm) (hs1 := it_size rfl rfl) ?_
  refine s_y y_as <| s_nil <| q_then <| c_ret <| q_ret <| ?_
  exact ret2 Tryz.results41 (rv_ca (b := b16) (cs := (itC it0 (.slice none 0 0)).toArray) (hl := (it_size rfl rfl))) rv_t fun w' hw => ⟨(none, 0), trivial, rfl, (hw.nilRow _ _).sub (.cons_cons _ (List.nil_sublist _))⟩
theorem Seal_b (w : World) (f : Int) (cm ks : List UInt8) (d c k : Int) (q s : List UInt8) (pa : Option Addr) (pc : Nat) (x : Nat) (hg : LG w) (hf : R64 f) (hcm : cm.length = 32) (hks : ks.length = 32) (hd : R64 d) (hc : R64 c) (hk : R64 k) (hs : s.length = 32) (hrp : Rd w pa (bs q)) (hq : q.length < 9223372036854775807) (hn : numB f d c k = true) (hx0 : 1 ≤ x) (hx : x < 2305843009213688669) (he : ¬ padE q = 0) : Gives Tryz.prog 41 [I f, .agg (bs cm ++ bs ks).toArray, I d, I c, I k, I x, .slice pa q.length pc, .agg (bs s).toArray] w [] (fun y : Option Addr × Nat => .tuple #[itV it0 (.slice y.1 it0.bd.length y.2), I (padE q)]) (fun y => [.row y.1 y.2 5 1 it0.bd.length (bs it0.bd)]) (fun _ => True) := by
  refine enter Tryz.func41 Tryz.ntmps41 ?_
  refine c_seq <| c_reg <| s_box rfl fun b9 => s_box rfl fun b15 => s_allocC (cs := (itC it0 (.slice none 0 0)).toArray) (by kernel_rfl) fun b16 => s_y y_as <| s_nil <| q_then <| c_seq <| c_seq <| c_reg <| s_y y_mv <| s_y y_mv <| s_y y_mv <| s_y y_mv <| s_pure (fun w' hw => (by have h9 := numbers_ok w' f d c k; rw [hn] at h9; exact h9)) <| s_y (v := .bool false) (y_not (b := true)) <| s_nil <| q_then <| c_f <| c_skip <| q_then <| c_seq <| c_seq <| c_reg <| s_y y_mv <| s_pure (fun w' hw => sPublic_yes w' x hx0 hx) <| s_y y_mv <| s_y y_ext <| s_y y_ext <| s_y y_as <| s_y y_as <| s_nil <| q_then <| c_seq <| c_reg <| s_y y_mv <| s_nf (y_neq (p := 0) (q := 0)) (by omega) <| s_nil <| q_then <| c_f <| c_skip <| q_then <| c_seq <| c_reg <| s_y y_mv <| s_gives (fun w' hw => padding_Pad_ok w' pa pc q (hg.ld.st hw) (hrp.st hw) hq) fun x43 _ => s_y y_mv <| s_y y_ext <| s_y y_ext <| s_y y_as <| s_y y_as <| s_nil <| q_then <| c_seq <| c_seq <| c_reg <| s_y y_mv <| s_nt (y_neq (p := padE q) (q := 0)) he <| s_nil <| q_then <| c_t <| c_seq <| c_reg <| s_y (y_lda (b := b16) (cs := (itC it0 (.slice none 0 0)).toArray) (hl := it_size rfl rfl)) <| s_y y_mv <| s_sta (b := b16) (vs := (itC it0 (.slice none 0 0)).toArray) (cs := (itC it0 (.slice none 0 0)).toArray) (h1 := it_one) (hl := (it_size rfl rfl).trans (it_size rfl rfl).symm) (hs1 := it_size rfl rfl) ?_
  refine s_y y_as <| s_nil <| q_then <| c_ret <| q_ret <| ?_
  exact ret2 Tryz.results41 (rv_ca (b := b16) (cs := (itC it0 (.slice none 0 0)).toArray) (hl := (it_size rfl rfl))) rv_t fun w' hw => ⟨(none, 0), trivial, rfl, (hw.nilRow _ _).sub (.cons_cons _ (List.nil_sublist _))⟩
theorem Seal_y (w : World) (f : Int) (cm ks : List UInt8) (d c k : Int) (q s : List UInt8) (pa : Option Addr) (pc : Nat) (x : Nat) (hg : LG w) (hf : R64 f) (hcm : cm.length = 32) (hks : ks.length = 32) (hd : R64 d) (hc : R64 c) (hk : R64 k) (hs : s.length = 32) (hrp : Rd w pa (bs q)) (hq : q.length < 9223372036854775807) (hn : numB f d c k = true) (hx0 : 1 ≤ x) (hx : x < 2305843009213688669) (he : padE q = 0) : Gives Tryz.prog 41 [I f, .agg (bs cm ++ bs ks).toArray, I d, I c, I k, I x, .slice pa q.length pc, .agg (bs s).toArray] w [] (fun y : Option Addr × Nat => .tuple #[itV (sl f cm ks d c k x q s) (.slice y.1 (sl f cm ks d c k x q s).bd.length y.2), I 0]) (fun y => [.row y.1 y.2 5 1 (sl f cm ks d c k x q s).bd.length (bs (sl f cm ks d c k x q s).bd)]) (fun _ => True) := by
  have hpl := pad_le q
  have hhl := head_len (sl0_wf (ks := ks) (q := q) (s := s) hf hcm hd hc hk)
  have hbl : (sl1 f cm ks d c k q s).bd.length = _ := sl1_bd
  have hsg : (sl1 f cm ks d c k q s).sg.length ≤ 70000 := by
    have : (sl1 f cm ks d c k q s).sg.length = (sl0 f cm ks d c k q s).head.length + (sl1 f cm ks d c k q s).bd.length := by unfold It.sg; rw [List.length_append]; rfl
    omega
  refine enter Tryz.func41 Tryz.ntmps41 ?_
  refine c_seq <| c_reg <| s_box rfl fun b9 => s_box rfl fun b15 => s_allocC (cs := (itC it0 (.slice none 0 0)).toArray) (by kernel_rfl) fun b16 => s_y y_as <| s_nil <| q_then <| c_seq <| c_seq <| c_reg <| s_y y_mv <| s_y y_mv <| s_y y_mv <| s_y y_mv <| s_pure (fun w' hw => (by have h9 := numbers_ok w' f d c k; rw [hn] at h9; exact h9)) <| s_y (v := .bool false) (y_not (b := true)) <| s_nil <| q_then <| c_f <| c_skip <| q_then <| c_seq <| c_seq <| c_reg <| s_y y_mv <| s_pure (fun w' hw => sPublic_yes w' x hx0 hx) <| s_y y_mv <| s_y y_ext <| s_y y_ext <| s_y y_as <| s_y y_as <| s_nil <| q_then <| c_seq <| c_reg <| s_y y_mv <| s_nf (y_neq (p := 0) (q := 0)) (by omega) <| s_nil <| q_then <| c_f <| c_skip <| q_then <| c_seq <| c_reg <| s_y y_mv <| s_gives (fun w' hw => padding_Pad_ok w' pa pc q (hg.ld.st hw) (hrp.st hw) hq) fun x43 _ => s_y y_mv <| s_y y_ext <| s_y y_ext <| s_y y_as <| s_y y_as <| s_nil <| q_then <| c_seq <| c_seq <| c_reg <| s_y y_mv <| s_nf (y_neq (p := padE q) (q := 0)) he <| s_nil <| q_then <| c_f <| c_skip <| q_then <| c_seq <| c_reg <| s_y y_mv <| s_y y_fa <| s_y (y_ldin (b := b9) (off := 0 + 0) (cs := (bs cm ++ bs ks).toArray) (ys := bs cm) (hl := by rw [bs_length, hcm]) (hv := (fun j v h => by rw [List.getElem?_toArray, Nat.add_assoc, Nat.zero_add, Nat.zero_add]; exact pre_at h))) <| s_y y_mv <| s_y y_mv <| s_y y_mv <| s_y (y_bitem (fill5 f d c k hcm)) <| s_y (y_bsealed hcm rfl) <| s_allocC (cs := (itC it0 (.slice none 0 0)).toArray) (by kernel_rfl) fun b21 => s_sta (b := b21) (vs := (itC (⟨f, cm, d, c, k, 0, 0, 0, List.replicate 32 0, [], 0, 0⟩ : It) (.slice none 0 0)).toArray) (cs := (itC it0 (.slice none 0 0)).toArray) (h1 := it_one) (hl := (it_size hcm rfl).trans (it_size rfl rfl).symm) (hs1 := it_size hcm rfl) ?_
  refine s_nil <| q_then <| c_seq <| c_reg <| s_y y_mv <| s_y y_len <| s_pure (fun w' hw => padding_Class_ok w' ((q.length : Nat) : Int) (hg.ld.st hw)) <| s_y y_mv <| s_y y_ext <| s_y y_ext <| s_y y_fa <| s_y y_fa <| s_st1 (b := b21) (cs := (itC (⟨f, cm, d, c, k, 0, 0, 0, List.replicate 32 0, [], 0, 0⟩ : It) (.slice none 0 0))) (cs' := (itC (⟨f, cm, d, c, k, clV q.length, 0, 0, List.replicate 32 0, [], 0, 0⟩ : It) (.slice none 0 0))) (hcs := set_sz hcm _) (hl := by rw [it_len hcm rfl]; decide) ?_
  refine s_nil <| q_then <| c_seq <| c_reg <| s_y y_fa <| s_y (y_ldin (b := b9) (off := 0 + 32) (cs := (bs cm ++ bs ks).toArray) (ys := bs ks) (hl := by rw [bs_length, hks]) (hv := (fun j v h => by rw [List.getElem?_toArray, List.getElem?_append_right (by rw [bs_length]; omega), bs_length, hcm, show 0 + 32 + j - 32 = j by omega]; exact h))) <| s_y y_mv <| s_y y_mv <| s_pure (fun w' hw => sch_Content_ok w' ks d c (hg.ls.st hw) hks hd hc) <| s_alloc fun b22 => s_sta (b := b22) (vs := (bs (ckey ks d c)).toArray) (cs := (bs (List.replicate 32 0)).toArray) (h1 := fun v hv => bs_one (by simpa using hv)) (hl := ((hz32 (ckey_length _ _ _))).trans ((hz32 List.length_replicate)).symm) (hs1 := (hz32 (ckey_length _ _ _))) ?_
  refine s_nil <| q_then <| c_seq <| c_reg <| s_y y_fa <| s_y (y_ldin (b := b9) (off := 0 + 32) (cs := (bs cm ++ bs ks).toArray) (ys := bs ks) (hl := by rw [bs_length, hks]) (hv := (fun j v h => by rw [List.getElem?_toArray, List.getElem?_append_right (by rw [bs_length]; omega), bs_length, hcm, show 0 + 32 + j - 32 = j by omega]; exact h))) <| s_pure (fun w' hw => sch_Link_ok w' ks (hg.ls.st hw) hks) <| ?_
  rw [show dscal ks lbLink = lnk ks from rfl]
  refine s_pure (fun w' hw => sPublic_yes w' (lnk ks) (scal_lt _ _).1 (scal_lt _ _).2) <| s_y y_mv <| s_y y_ext <| s_y y_ext <| s_y y_as <| s_y y_as <| s_nil <| q_then <| c_seq <| c_reg <| s_y y_mv <| s_y (y_lda (b := b22) (cs := (bs (ckey ks d c)).toArray) (hl := (hz32 (ckey_length _ _ _)))) <| s_y (y_lda (b := b15) (cs := (bs s).toArray) (hl := (hz32 hs))) <| s_pure (fun w' hw => Lock_ok w' ((pp 4 (lnk ks) : Nat) : Int) (ckey ks d c) s (ckey_length _ _ _) hs (hg.ls.st hw)) <| s_y y_mv <| s_y y_ext <| s_y y_ext <| s_y y_fa <| s_y y_fa <| s_stin (b := b21) (off := 37) (cs := (itC (⟨f, cm, d, c, k, clV q.length, 0, 0, List.replicate 32 0, [], 0, 0⟩ : It) (.slice none 0 0))) (vs := (I (lkA ((pp 4 (lnk ks) : Nat) : Int) s) :: I (lkB ((pp 4 (lnk ks) : Nat) : Int) s) :: bs (lkP ((pp 4 (lnk ks) : Nat) : Int) (ckey ks d c) s))) (cs' := (itC (⟨f, cm, d, c, k, clV q.length, lkA ((pp 4 (lnk ks) : Nat) : Int) s, lkB ((pp 4 (lnk ks) : Nat) : Int) s, lkP ((pp 4 (lnk ks) : Nat) : Int) (ckey ks d c) s, [], 0, 0⟩ : It) (.slice none 0 0))) (hcs := put_cap hcm rfl _ _ (lkP_length _ _ (ckey_length _ _ _))) (hl := by rw [it_len hcm rfl]; simp [bs_length, (lkP_length _ _ (ckey_length _ _ _))]) (h1 := one_cap) (hs1 := (by simp [bs_length, (lkP_length _ _ (ckey_length _ _ _))])) ?_
  refine s_nil <| q_then <| c_seq <| c_regL [.blk b22 (.cells (bs (ckey ks d c)).toArray 24 (0, 0)), .row x43.1 x43.2 5 1 ((pad q).length) (bs (pad q)), .blk b16 (.cells (itC it0 (.slice none 0 0)).toArray 36 (0, 0)), .blk b15 (.cells (bs s).toArray 24 (0, 0)), .blk b9 (.cells (bs cm ++ bs ks).toArray 26 (0, 0))] <| r_y 0 rfl (y_lda (b := b22) (cs := (bs (ckey ks d c)).toArray) (hl := (hz32 (ckey_length _ _ _)))) <| r_y 1 rfl (y_blda (cs := bs (List.replicate 12 0))) <| r_y 4 rfl y_mv <| r_W 2 rfl <| s_y (y_lda (b := b21) (cs := (itC (⟨f, cm, d, c, k, clV q.length, lkA ((pp 4 (lnk ks) : Nat) : Int) s, lkB ((pp 4 (lnk ks) : Nat) : Int) s, lkP ((pp 4 (lnk ks) : Nat) : Int) (ckey ks d c) s, [], 0, 0⟩ : It) (.slice none 0 0)).toArray) (hl := it_size hcm (lkP_length _ _ (ckey_length _ _ _)))) <| r_K <| r_W 3 rfl <| s_gives (fun w' hw => head_ok w' (sl0 f cm ks d c k q s) none 0 (sl0_wf hf hcm hd hc hk)) fun x91 _ => r_K <| r_W 5 rfl <| s_gives (fun w' hw => c_Seal_ok w' x91.1 x43.1 x91.2 x43.2 (ckey ks d c) z12 (sl0 f cm ks d c k q s).head (pad q) (ckey_length _ _ _) List.length_replicate (rdR (.head _) w' hw) (by omega) (hg.lc.st hw) (rdR (.tail _ (.tail _ (.tail _ (.head _)))) w' hw) (pad_le q)) fun x93 _ => ?_
  rw [← sealB_length (ckey ks d c) z12 (sl0 f cm ks d c k q s).head (pad q)]
  refine r_K <| r_y 6 rfl y_mv <| r_y 7 rfl y_ext <| r_y 8 rfl y_ext <| r_y 9 rfl y_fa <| r_y 10 rfl y_fa <| r_W 11 rfl <| s_st1 (b := b21) (cs := (itC (⟨f, cm, d, c, k, clV q.length, lkA ((pp 4 (lnk ks) : Nat) : Int) s, lkB ((pp 4 (lnk ks) : Nat) : Int) s, lkP ((pp 4 (lnk ks) : Nat) : Int) (ckey ks d c) s, [], 0, 0⟩ : It) (.slice none 0 0))) (cs' := (itC (⟨f, cm, d, c, k, clV q.length, lkA ((pp 4 (lnk ks) : Nat) : Int) s, lkB ((pp 4 (lnk ks) : Nat) : Int) s, lkP ((pp 4 (lnk ks) : Nat) : Int) (ckey ks d c) s, sealB (ckey ks d c) z12 (sl0 f cm ks d c k q s).head (pad q), 0, 0⟩ : It) (.slice x93.1 ((sealB (ckey ks d c) z12 (sl0 f cm ks d c k q s).head (pad q)).length) x93.2))) (hcs := set_bd hcm (lkP_length _ _ (ckey_length _ _ _)) _ _) (hl := by rw [it_len hcm (lkP_length _ _ (ckey_length _ _ _))]; decide) ?_
  refine r_K <| r_E <| q_then <| c_seq <| c_reg <| s_y y_mv <| s_y (y_lda (b := b21) (cs := (itC (⟨f, cm, d, c, k, clV q.length, lkA ((pp 4 (lnk ks) : Nat) : Int) s, lkB ((pp 4 (lnk ks) : Nat) : Int) s, lkP ((pp 4 (lnk ks) : Nat) : Int) (ckey ks d c) s, sealB (ckey ks d c) z12 (sl0 f cm ks d c k q s).head (pad q), 0, 0⟩ : It) (.slice x93.1 ((sealB (ckey ks d c) z12 (sl0 f cm ks d c k q s).head (pad q)).length) x93.2)).toArray) (hl := it_size hcm (lkP_length _ _ (ckey_length _ _ _)))) <| s_gives (fun w' hw => isgd_ok w' (sl1 f cm ks d c k q s) x93.1 x93.2 (sl1_wf hf hcm hd hc hk) (rdR (.head _) w' hw) (by omega)) fun x101 _ => s_pure (fun w' hw => sSign_yes w' x101.1 x101.2 (sl1 f cm ks d c k q s).sg x (hg.ls.st hw) (rdR (.head _) w' hw) (by omega) hx0 hx) <| s_y y_mv <| s_y y_ext <| s_y y_ext <| s_y y_fa <| s_y y_fa <| s_stin (b := b21) (off := 72) (cs := (itC (⟨f, cm, d, c, k, clV q.length, lkA ((pp 4 (lnk ks) : Nat) : Int) s, lkB ((pp 4 (lnk ks) : Nat) : Int) s, lkP ((pp 4 (lnk ks) : Nat) : Int) (ckey ks d c) s, sealB (ckey ks d c) z12 (sl0 f cm ks d c k q s).head (pad q), 0, 0⟩ : It) (.slice x93.1 ((sealB (ckey ks d c) z12 (sl0 f cm ks d c k q s).head (pad q)).length) x93.2))) (vs := [I (sgR x (sl1 f cm ks d c k q s).sg : Nat), I (sgS x (sl1 f cm ks d c k q s).sg : Nat)]) (cs' := (itC (⟨f, cm, d, c, k, clV q.length, lkA ((pp 4 (lnk ks) : Nat) : Int) s, lkB ((pp 4 (lnk ks) : Nat) : Int) s, lkP ((pp 4 (lnk ks) : Nat) : Int) (ckey ks d c) s, sealB (ckey ks d c) z12 (sl0 f cm ks d c k q s).head (pad q), (sgR x (sl1 f cm ks d c k q s).sg : Nat), (sgS x (sl1 f cm ks d c k q s).sg : Nat)⟩ : It) (.slice x93.1 ((sealB (ckey ks d c) z12 (sl0 f cm ks d c k q s).head (pad q)).length) x93.2))) (hcs := put_sig hcm (lkP_length _ _ (ckey_length _ _ _)) _ _) (hl := by rw [it_len hcm (lkP_length _ _ (ckey_length _ _ _))]; show 72 + 2 ≤ 74; decide) (h1 := by intro u hu; simp at hu; rcases hu with rfl | rfl <;> rfl) (hs1 := rfl) ?_
  refine s_y y_as <| s_nil <| q_then <| c_seq <| c_reg <| s_y y_fa <| s_y (y_lda (b := b21) (cs := (itC (⟨f, cm, d, c, k, clV q.length, lkA ((pp 4 (lnk ks) : Nat) : Int) s, lkB ((pp 4 (lnk ks) : Nat) : Int) s, lkP ((pp 4 (lnk ks) : Nat) : Int) (ckey ks d c) s, sealB (ckey ks d c) z12 (sl0 f cm ks d c k q s).head (pad q), (sgR x (sl1 f cm ks d c k q s).sg : Nat), (sgS x (sl1 f cm ks d c k q s).sg : Nat)⟩ : It) (.slice x93.1 ((sealB (ckey ks d c) z12 (sl0 f cm ks d c k q s).head (pad q)).length) x93.2)).toArray) (hl := it_size hcm (lkP_length _ _ (ckey_length _ _ _)))) <| s_y y_mv <| s_sta (b := b16) (vs := (itC (⟨f, cm, d, c, k, clV q.length, lkA ((pp 4 (lnk ks) : Nat) : Int) s, lkB ((pp 4 (lnk ks) : Nat) : Int) s, lkP ((pp 4 (lnk ks) : Nat) : Int) (ckey ks d c) s, sealB (ckey ks d c) z12 (sl0 f cm ks d c k q s).head (pad q), (sgR x (sl1 f cm ks d c k q s).sg : Nat), (sgS x (sl1 f cm ks d c k q s).sg : Nat)⟩ : It) (.slice x93.1 ((sealB (ckey ks d c) z12 (sl0 f cm ks d c k q s).head (pad q)).length) x93.2)).toArray) (cs := (itC it0 (.slice none 0 0)).toArray) (h1 := it_one) (hl := (it_size hcm (lkP_length _ _ (ckey_length _ _ _))).trans (it_size rfl rfl).symm) (hs1 := it_size hcm (lkP_length _ _ (ckey_length _ _ _))) ?_
  refine s_y y_as <| s_nil <| q_then <| c_ret <| ?_
  exact ret2 Tryz.results41 (rv_ca (b := b16) (cs := (itC (⟨f, cm, d, c, k, clV q.length, lkA ((pp 4 (lnk ks) : Nat) : Int) s, lkB ((pp 4 (lnk ks) : Nat) : Int) s, lkP ((pp 4 (lnk ks) : Nat) : Int) (ckey ks d c) s, sealB (ckey ks d c) z12 (sl0 f cm ks d c k q s).head (pad q), (sgR x (sl1 f cm ks d c k q s).sg : Nat), (sgS x (sl1 f cm ks d c k q s).sg : Nat)⟩ : It) (.slice x93.1 ((sealB (ckey ks d c) z12 (sl0 f cm ks d c k q s).head (pad q)).length) x93.2)).toArray) (hl := (it_size hcm (lkP_length _ _ (ckey_length _ _ _))))) rv_t fun w' hw => ⟨(x93.1, x93.2), trivial, rfl, hw.sub (.cons _ (.cons_cons _ (List.nil_sublist _)))⟩
end Go.Proofs.YtejdjnkilikehaaGreatDoor
end
section
namespace Eng
open Go Go.RowKit
def mesF (i : Nat) : List (Int × Value) → List MapEntry
  | [] => []
  | (k, v) :: r => { key := I k, val := v, born := i } :: mesF (i + 1) r
def mes (kv : List (Int × Value)) : Array MapEntry := (mesF 0 kv).toArray
theorem mesF_append : ∀ (kv : List (Int × Value)) (i : Nat) (k : Int) (v : Value), mesF i (kv ++ [(k, v)]) = mesF i kv ++ [{ key := I k, val := v, born := i + kv.length }]
  | [], _, _, _ => rfl
  | (a, b) :: r, i, k, v => by
    rw [List.cons_append, mesF, mesF, mesF_append r (i + 1) k v, List.length_cons, show i + 1 + r.length = i + (r.length + 1) by omega]; rfl
theorem mes_push (kv : List (Int × Value)) (k : Int) (v : Value) : (mes kv).push { key := I k, val := v, born := kv.length } = mes (kv ++ [(k, v)]) := by
  unfold mes
  rw [mesF_append, Nat.zero_add]
  simp
theorem mesF_mem : ∀ {kv : List (Int × Value)} {i : Nat} {e : MapEntry}, e ∈ mesF i kv → ∃ j k v, kv[j]? = some (k, v) ∧ e = { key := I k, val := v, born := i + j }
  | (a, b) :: r, i, e, h => by
    rcases List.mem_cons.1 h with rfl | h
    · exact ⟨0, a, b, rfl, rfl⟩
    · obtain ⟨j, k, v, h1, rfl⟩ := mesF_mem h
      exact ⟨j + 1, k, v, h1, by rw [show i + 1 + j = i + (j + 1) by omega]⟩
theorem mesF_get : ∀ {kv : List (Int × Value)} {i j : Nat} {k : Int} {v : Value}, kv[j]? = some (k, v) → { key := I k, val := v, born := i + j } ∈ mesF i kv
  | (a, b) :: r, i, 0, k, v, h => by
    simp only [List.getElem?_cons_zero, Option.some.injEq, Prod.mk.injEq] at h
    obtain ⟨rfl, rfl⟩ := h
    exact .head _
  | (a, b) :: r, i, j + 1, k, v, h => by
    have h1 := mesF_get (i := i + 1) (show r[j]? = some (k, v) from h)
    rw [show i + 1 + j = i + (j + 1) by omega] at h1
    exact .tail _ h1
theorem mes_born : ∀ (kv : List (Int × Value)) (i : Nat), ((mesF i kv).map (·.born)) = List.range' i kv.length
  | [], _ => rfl
  | (a, b) :: r, i => by
    rw [mesF, List.map_cons, mes_born r (i + 1), List.length_cons, List.range'_succ]
def unseen (n : Nat) (s : List Nat) : Nat := ((List.range n).filter fun i => !s.contains i).length
theorem unseen_lt {n i : Nat} {s : List Nat} (hi : i < n) (hs : i ∉ s) : unseen n (s ++ [i]) < unseen n s := by
  unfold unseen
  have key : ∀ l : List Nat, (l.filter fun j => !(s ++ [i]).contains j).length ≤ (l.filter fun j => !s.contains j).length ∧ (i ∈ l → (l.filter fun j => !(s ++ [i]).contains j).length < (l.filter fun j => !s.contains j).length) := by
    intro l
    induction l with
    | nil => exact ⟨Nat.le_refl _, fun h => by cases h⟩
    | cons a l ih =>
      rw [List.filter_cons, List.filter_cons]
      by_cases ha : a ∈ s
      · have e1 : (s ++ [i]).contains a = true := by simp [ha]
        have e2 : s.contains a = true := by simp [ha]
        simp only [e1, e2, Bool.not_true, Bool.false_eq_true, if_false]
        refine ⟨ih.1, fun h => ?_⟩
        rcases List.mem_cons.1 h with rfl | h
        · exact absurd ha hs
        · exact ih.2 h
      · have e2 : s.contains a = false := by simp [ha]
        by_cases hai : a = i
        · subst hai
          have e1 : (s ++ [a]).contains a = true := by simp
          simp only [e1, e2, Bool.not_true, Bool.not_false, Bool.false_eq_true, if_false, if_true, List.length_cons]
          exact ⟨by have := ih.1; omega, fun _ => by have := ih.1; omega⟩
        · have e1 : (s ++ [i]).contains a = false := by simp [ha, hai]
          simp only [e1, e2, Bool.not_false, if_true, List.length_cons]
          refine ⟨by have := ih.1; omega, fun h => ?_⟩
          rcases List.mem_cons.1 h with rfl | h
          · exact absurd rfl hai
          · have := ih.2 h; omega
  exact (key _).2 (List.mem_range.2 hi)
section
variable {r : Option Nat} {P : Program} {n : Nat} {D : List Deferred} {W : World} {Bo : List Nat} {F : List (Nat × Value)} {l l' : SH}
  {d : Option Tmp} {dd : Nat} {ty : TypeId} {ps : String} {af : Array Edge} {g : Option (Nat × Bool)} {x y z : Operand} {v u : Value} {ta tb t e : TypeId}
  {Q : Exit → Act → World → Prop} {ops : Array Oper} {rest : List Oper} {td : TypeDesc} {c : Code}
abbrev mblk (m : Nat) (kv : List (Int × Value)) : Res := .blk m (.map (mes kv) kv.length)
abbrev mit (b m n : Nat) (s : List Nat) : Res := .blk b (.mapIter (some m) n s.toArray n)
theorem s_mkmap {kt et : TypeId} [hm : HU P t (.map kt et)] {rs : Option Operand} (hrs : rs = none ∨ ∃ o k i, rs = some o ∧ evO F o = some (.int k i))
    (h : ∀ b, LP r P n D W Bo ops Q rest ((dd, .map (some b)) :: F) (mblk b [] :: l))
    (hn : Nat.blt dd n = true := by rfl) (hg : Wn ops F g := by first | exact .none | exact .some rfl rfl) :
    LP r P n D W Bo ops Q (⟨some dd, .makeMap t rs, ty, ps, af, g⟩ :: rest) F l := by
  refine s_new (fun b : Nat => .map (some b)) (fun b => mblk b [] :: l) (fun _ => True) (by simp) ?_ (hn := hn) (hg := hg) (h := fun b _ => h b)
  intro a w ha hw
  refine ⟨w.heap.size, w.alloc (.map #[] 0), trivial, ?_, hw.alloc _⟩
  rcases hrs with rfl | ⟨o, k, i, rfl, ho⟩
  · simp [execOp, Instr.makeMap, World.alloc_eq]
  · simp only [execOp, Option.map, ha.eval ho, Instr.makeMap, Sem.run_bind, run_underlying hm.h, Result.andThen_ok]
    have hai : (asIntOf (.int k i)).run P w = .ok (k, i) w := rfl
    simp [asInt, World.alloc_eq, hai]
theorem s_range {kt et : TypeId} [hm : HU P t (.map kt et)] {m : Nat} {kv : List (Int × Value)}
    (h : ∀ b, LP r P n D W Bo ops Q rest ((dd, .pointer (some ⟨b, 0, none⟩)) :: F) (mit b m kv.length [] :: l))
    (hx : evO F x = some (.map (some m)) := by rfl) (hmem : mblk m kv ∈ l := by repeat (first | exact .head _ | apply List.Mem.tail))
    (hn : Nat.blt dd n = true := by rfl) (hg : Wn ops F g := by first | exact .none | exact .some rfl rfl) :
    LP r P n D W Bo ops Q (⟨some dd, .range t x, ty, ps, af, g⟩ :: rest) F l := by
  refine s_new (fun b : Nat => .pointer (some ⟨b, 0, none⟩)) (fun b => mit b m kv.length [] :: l) (fun _ => True) (by simp) ?_ (hn := hn) (hg := hg) (h := fun b _ => h b)
  intro a w ha hw
  have hb : w.heap[m]? = some (.map (mes kv) kv.length) := (hw.own _ hmem).1
  refine ⟨w.heap.size, w.alloc (.mapIter (some m) kv.length #[] kv.length), trivial, ?_, hw.alloc _⟩
  simp only [execOp, ha.eval hx, Sem.run_bind, run_range_map w t kt et m (mes kv) kv.length hm.h hb, Result.andThen_ok, Sem.run_pure]
theorem mes_left {kv : List (Int × Value)} {s : List Nat} {e0 : MapEntry} (h : e0 ∈ (leftOf (mes kv) s.toArray).toList) : ∃ j k v, kv[j]? = some (k, v) ∧ e0 = { key := I k, val := v, born := j } ∧ j ∉ s := by
  unfold leftOf mes at h
  simp only [Array.toList_filter, List.mem_filter] at h
  obtain ⟨j, k, v, h1, rfl⟩ := mesF_mem h.1
  have h2 := h.2
  simp at h2
  exact ⟨j, k, v, h1, by rw [Nat.zero_add], h2⟩
theorem s_next {b m : Nat} {kv : List (Int × Value)} {s : List Nat} {l2 : Nat → SH}
    (h0 : (∀ i, i < kv.length → i ∈ s) → LP r P n D W Bo ops Q rest ((dd, .tuple #[.bool false]) :: F) l)
    (h1 : ∀ i k v, kv[i]? = some (k, v) → i ∉ s → LP r P n D W Bo ops Q rest ((dd, .tuple #[.bool true, I k, v]) :: F) (l2 i))
    (hx : evO F x = some (.pointer (some ⟨b, 0, none⟩)) := by rfl) (hmem : mblk m kv ∈ l := by repeat (first | exact .head _ | apply List.Mem.tail))
    (hr : ∀ i, Rep (mit b m kv.length s) (mit b m kv.length (s ++ [i])) l (l2 i) := by intro _; repeat (first | exact .head _ | apply Rep.tail))
    (hn : Nat.blt dd n = true := by rfl) (hg : Wn ops F g := by first | exact .none | exact .some rfl rfl) :
    LP r P n D W Bo ops Q (⟨some dd, .next x false, ty, ps, af, g⟩ :: rest) F l := by
  refine s_new (σ := Option Nat) (fun o => match o with | none => .tuple #[.bool false] | some i => .tuple #[.bool true, I (kv.getD i (0, .nilIface)).1, (kv.getD i (0, .nilIface)).2]) (fun o => match o with | none => l | some i => l2 i)
    (fun o => match o with | none => ∀ i, i < kv.length → i ∈ s | some i => i < kv.length ∧ i ∉ s) (by simp) ?_ (hn := hn) (hg := hg) (h := fun o ho => ?_)
  · intro a w ha hw
    have hb : w.heap[m]? = some (.map (mes kv) kv.length) := (hw.own _ hmem).1
    have hi : w.heap[b]? = some (.mapIter (some m) kv.length s.toArray kv.length) := (hw.own _ (hr 0).mem).1
    have hold : ∀ x ∈ (mes kv).toList, x.born < kv.length := fun x hx => by
      obtain ⟨j, k', v', h4, rfl⟩ := mesF_mem (show x ∈ mesF 0 kv by simpa [mes] using hx)
      have := (List.getElem?_eq_some_iff.1 h4).1
      show 0 + j < _
      omega
    rcases run_next_at (P := P) w ty b m kv.length kv.length s.toArray (mes kv) kv.length hi hb hold (Nat.le_refl _) with ⟨h2, h3⟩ | ⟨e0, h2, w1, hw1, h3⟩
    · refine ⟨none, w, ?_, ?_, hw⟩
      · intro i hil
        refine Classical.byContradiction fun hns => ?_
        have hmm := mesF_get (i := 0) (show kv[i]? = some (kv[i].1, kv[i].2) from List.getElem?_eq_getElem hil)
        have hin : { key := I kv[i].1, val := kv[i].2, born := 0 + i } ∈ (leftOf (mes kv) s.toArray).toList := by
          unfold leftOf mes
          rw [Array.toList_filter, List.mem_filter]
          refine ⟨by simpa using hmm, by simpa using hns⟩
        have := Array.eq_empty_of_size_eq_zero h2
        rw [this] at hin
        cases hin
      · simp only [execOp, ha.eval hx, Sem.run_bind, h3, Result.andThen_ok, Sem.run_pure]
    · obtain ⟨j, k, v, h4, rfl, h5⟩ := mes_left h2
      have hj : j < kv.length := (List.getElem?_eq_some_iff.1 h4).1
      have hgd : kv.getD j (0, .nilIface) = (k, v) := by rw [List.getD_eq_getElem?_getD, h4]; rfl
      have hw1' : St W Bo w1 l := hw1.elim (fun e => e ▸ hw) (fun e => e ▸ hw.drew)
      have hi1 : w1.heap[b]? = some (.mapIter (some m) kv.length s.toArray kv.length) := (hw1'.own _ (hr 0).mem).1
      refine ⟨some j, ChangeMaps.setBlock w1 b (.mapIter (some m) kv.length (s.toArray.push j) kv.length), ⟨hj, h5⟩, ?_, ?_⟩
      · simp only [execOp, ha.eval hx, Sem.run_bind, h3, Result.andThen_ok, Sem.run_pure, hgd]
      · have hs := MapKept.heap_set (o' := .mapIter (some m) kv.length (s.toArray.push j) kv.length) hi1
        refine hw1'.change (hr j) rfl rfl rfl (by simp [ChangeMaps.setBlock]) (fun i _ hne => hs.2 i (fun e => hne (by rw [e]; rfl))) ?_ (fun i hi => .inl hi)
        show (w1.heap.setIfInBounds b _)[b]? = some (.mapIter (some m) kv.length (s ++ [j]).toArray kv.length)
        rw [hs.1]; simp
  · cases o with
    | none => exact h0 ho
    | some i =>
      refine h1 i _ _ ?_ ho.2
      rw [List.getD_eq_getElem?_getD, List.getElem?_eq_getElem ho.1]; rfl
theorem y_entry {b m : Nat} {kv : List (Int × Value)} {s : List Nat} {i : Nat} {k : Int} (hi : kv[i]? = some (k, v))
    (hx : evO F x = some (.pointer (some ⟨b, 0, none⟩)) := by rfl) (hmem : mblk m kv ∈ l := by repeat (first | exact .head _ | apply List.Mem.tail)) (hit : mit b m kv.length (s ++ [i]) ∈ l := by repeat (first | exact .head _ | apply List.Mem.tail)) :
    Y P n D W Bo ⟨d, .entry x, ty, ps, af, g⟩ F l (.tuple #[I k, v]) :=
  .mk (by simp) fun a w ha hw => by
    have hb : w.heap[m]? = some (.map (mes kv) kv.length) := (hw.own _ hmem).1
    have hit' : w.heap[b]? = some (.mapIter (some m) kv.length (s ++ [i]).toArray kv.length) := (hw.own _ hit).1
    have he : ({ key := I k, val := v, born := i } : MapEntry) ∈ (mes kv).toList := by
      have := mesF_get (i := 0) hi
      rw [Nat.zero_add] at this
      simpa [mes] using this
    have hnd : ((mes kv).toList.map (·.born)).Nodup := by
      show ((mesF 0 kv).toArray.toList.map (·.born)).Nodup
      rw [List.toList_toArray, mes_born]
      exact List.nodup_range'
    have h := run_entry_at (P := P) w b m kv.length s.toArray (mes kv) kv.length _ (by simpa using hit') hb he hnd
    simp only [execOp, ha.eval hx, Sem.run_bind, h, Result.andThen_ok, Sem.run_pure]
end
end Eng
end
