/- Reading values: the reader of the program. -/
import Derived.Test.YtjfiggbgpplopaaDoorDecP
import Derived.Test.YtjfiggbgpplopaaDoorRec
import Derived.Test.YtjfiggbgpplopaaDoorDivX
namespace Eng
open Go Go.RowKit
section
variable {P : Program} {n : Nat} {D : List Deferred} {W : World} {Bo : List Nat} {F : List (Nat × Value)} {l : SH}
  {d : Option Tmp} {ty : TypeId} {ps : String} {af : Array Edge} {g : Option (Nat × Bool)} {x y z : Operand} {ta tb t e : TypeId}
theorem y_slhm [hu : HU P t (.slice e)] {s by' : Nat} [hs : HS P e s by'] {a : Option Addr} {m c : Nat} {k k' : IntKind} {j h : Int} (hx : evO F x = some (.slice a m c) := by rfl) (hy : evO F y = some (.int k j) := by rfl) (hz : evO F z = some (.int k' h) := by rfl)
    (h1 : 0 ≤ j := by omega) (h2 : j ≤ h := by omega) (h3 : h ≤ c := by omega) : Y P n D W Bo ⟨d, .slice t x none (some y) (some z), ty, ps, af, g⟩ F l (.slice a j.toNat h.toNat) :=
  .mk (by simp) fun ac w ha hw => by
    have e0 : (Instr.sliceBound (.int k' h) c .slice3Acap).run P w = .ok h.toNat w := run_sliceBound w k' h c _ (by omega) h3
    have e1 : (Instr.sliceBound (.int k j) h.toNat .slice3B).run P w = .ok j.toNat w := run_sliceBound w k j h.toNat _ (by omega) (by omega)
    have e2 := sa_zero (a := a) (c := h.toNat) (s := s)
    unfold sa at e2
    simp only [execOp, ha.eval hx, Option.map, ha.eval hy, ha.eval hz, Sem.run_bind, Instr.sliceAt, Instr.slice, run_underlying hu.h, Result.andThen_ok, Instr.sliceBounds, Sem.run_pure, if_true, e0, e1, run_sizeOf' hs]
    simp only [Option.map] at e2
    rw [e2]
    rfl
end
end Eng
namespace Cod
open Go Eng
/-- bytes that a reader has before it -/
structure RdX (w : World) (b : Nat) (a : Option Addr) (q : List UInt8) (c : Nat) : Prop where
  rd : Rd w a (bs q)
  le : q.length ≤ c
  ne : a.map (·.block) ≠ some b
theorem RdX.rds {W : World} {l : SH} {b c : Nat} {a : Option Addr} {q : List UInt8} (h : RdX W b a q c) : RdS W [b] l a (bs q) := rdW h.rd (by simpa using h.ne)
theorem RdX.drop {w : World} {b c : Nat} {a : Option Addr} {q : List UInt8} (h : RdX w b a q c) (k : Nat) (hk : k ≤ q.length) : RdX w b (sa a k c 1) (q.drop k) (c - k) where
  rd := by
    have h1 : RdS w [] [] (sa a k c 1) ((bs q).drop (k * 1)) := RdS.sa (rdW0 h.rd) (by rw [bs_length, Nat.mul_one]; exact h.le)
    rw [Nat.mul_one, ← bs_drop] at h1
    exact h1 w (St.refl w)
  le := by rw [List.length_drop]; have := h.le; omega
  ne := by rw [sa_block]; exact h.ne
theorem RdX.take {w : World} {b c : Nat} {a : Option Addr} {q : List UInt8} (h : RdX w b a q c) (k : Nat) : Rd w a (bs (q.take k)) := by rw [bs_take]; exact h.rd.take k
/-- what lies before a reader that has gone on -/
def Adv (b : Nat) (a : Option Addr) (q : List UInt8) (c : Nat) (a' : Option Addr) (q' : List UInt8) (c' : Nat) : Prop := ∀ w : World, RdX w b a q c → RdX w b a' q' c' ∧ c' ≤ c
theorem Adv.refl {b : Nat} {a : Option Addr} {q : List UInt8} {c : Nat} : Adv b a q c a q c := fun _ h => ⟨h, Nat.le_refl _⟩
theorem Adv.trans {b : Nat} {a a' a2 : Option Addr} {q q' q2 : List UInt8} {c c' c2 : Nat} (h : Adv b a q c a' q' c') (h' : Adv b a' q' c' a2 q2 c2) : Adv b a q c a2 q2 c2 := fun w hr =>
  ⟨(h' w (h w hr).1).1, Nat.le_trans (h' w (h w hr).1).2 (h w hr).2⟩
theorem Adv.drop {b : Nat} {a : Option Addr} {q : List UInt8} {c : Nat} (k : Nat) (hk : k ≤ q.length) : Adv b a q c (sa a k c 1) (q.drop k) (c - k) := fun _ h => ⟨h.drop k hk, Nat.sub_le _ _⟩
theorem lt64 {i p : Nat} (hi : i ≤ 9) (hp : p < 128) (h9 : i < 9 ∨ p ≤ 1) : p * 2 ^ (7 * i) < 18446744073709551616 := by
  rcases Nat.lt_or_ge i 9 with h | h
  · have h1 : 2 ^ (7 * i) ≤ 2 ^ 56 := Nat.pow_le_pow_right (by decide) (by omega)
    have h2 : p * 2 ^ (7 * i) ≤ 127 * 2 ^ 56 := Nat.mul_le_mul (by omega) h1
    omega
  · have : i = 9 := by omega
    subst this
    have h2 : p * 2 ^ (7 * 9) ≤ 1 * 2 ^ 63 := Nat.mul_le_mul (by omega) (Nat.le_refl _)
    omega
theorem sum7 {i p u : Nat} (hu : u < 2 ^ (7 * i)) (hp : p < 128) : u + p * 2 ^ (7 * i) < 2 ^ (7 * (i + 1)) := by
  rw [pw7]
  have : (p + 1) * 2 ^ (7 * i) ≤ 128 * 2 ^ (7 * i) := Nat.mul_le_mul (by omega) (Nat.le_refl _)
  rw [Nat.add_mul, Nat.one_mul] at this
  omega
theorem sum64 {i p u : Nat} (hi : i ≤ 9) (hu : u < 2 ^ (7 * i)) (hp : p < 128) (h9 : i < 9 ∨ p ≤ 1) : u + p * 2 ^ (7 * i) < 18446744073709551616 := by
  rcases Nat.lt_or_ge i 9 with h | h
  · have h1 := sum7 hu hp
    have h2 : 2 ^ (7 * (i + 1)) ≤ 2 ^ 63 := Nat.pow_le_pow_right (by decide) (by omega)
    omega
  · have : i = 9 := by omega
    subst this
    have h2 : p * 2 ^ (7 * 9) ≤ 1 * 2 ^ 63 := Nat.mul_le_mul (by omega) (Nat.le_refl _)
    have h3 : u < 2 ^ 63 := hu
    omega
theorem or_add {u p i : Nat} (h : u < 2 ^ i) : u ||| p * 2 ^ i = u + p * 2 ^ i := by
  have := Nat.shiftLeft_add_eq_or_of_lt h p
  rw [Nat.shiftLeft_eq] at this
  rw [Nat.or_comm, ← this, Nat.add_comm]
theorem and127 (x : Nat) : x &&& 127 = x % 128 := Nat.and_two_pow_sub_one_eq_mod x 7
end Cod
namespace Go.Proofs.YtjfiggbgpplopaaDoor
open Go Eng Cod
abbrev rblk (b : Nat) (a : Option Addr) (n c : Nat) : Res := .blk b (.cells #[.slice a n c] 90 (0, 0))
theorem want_ok (w : World) (v : Value) : Pure Tryd.prog 47 [v, .bool true] w (.tuple #[]) := by
  refine enter Tryd.func47 Tryd.ntmps47 ?_
  refine c_seq <| c_reg <| s_y y_mv <| s_y (v := .bool false) (y_not (b := true)) <| s_nil <| q_then <| c_f <| c_skip <| ?_
  exact ret0 Tryd.results47 (fun w' hw => ⟨rfl, hw⟩) _ (.inr rfl)
theorem take_ok (w : World) (b : Nat) (a : Option Addr) (n c k : Nat) (hk : k ≤ n) (hc : n ≤ c) (hm : c ≤ 9223372036854775807) (hp : (rblk b a n c).holds w) :
    Gives Tryd.prog 71 [.pointer (some ⟨b, 0, none⟩), I k] w [b] (fun _ : Unit => .slice a k k) (fun _ => [rblk b (sa a k c 1) (n - k) (c - k)]) (fun _ => True) := by
  refine enterR Tryd.func71 Tryd.ntmps71 hp ?_
  refine c_seq <| c_reg <| s_y y_as <| s_nil <| q_then <| c_seq <| c_reg <| s_y y_mv <| s_y y_mv <| s_y y_mv <| s_y y_nc <| s_y y_fa <| s_y (y_ld (v := .slice a n c)) <| s_y y_len <| s_kt (y_leq (p := (k : Int)) (q := (n : Int))) (by omega) <| s_pure (fun w' hw => want_ok w' _) <| s_nil <| q_then <| ?_
  refine c_seq <| c_reg <| s_y y_mv <| s_y y_nc <| s_y y_fa <| s_y (y_ld (v := .slice a n c)) <| s_y y_mv <| s_y y_mv <| s_y (y_slhm (j := (k : Int)) (h := (k : Int))) <| s_y y_as <| s_nil <| q_then <| ?_
  refine c_seq <| c_reg <| s_y y_mv <| s_y y_mv <| s_y y_nc <| s_y y_fa <| s_y (y_ld (v := .slice a n c)) <| s_y y_mv <| s_y (y_sll (i := (k : Int))) <| s_y y_nc <| s_y y_fa <| s_st (b := b) (v := .slice (sa a k c 1) (n - k) (c - k)) (cs := #[.slice a n c]) (hl := Nat.zero_lt_one) ?_
  refine s_nil <| q_then <| c_seq <| c_reg <| s_y y_mv <| s_y y_as <| s_nil <| q_then <| c_ret <| ?_
  exact ret1 Tryd.results71 rv_t fun w' hw => ⟨(), trivial, rfl, hw⟩
theorem number_ok (w : World) (b : Nat) (a : Option Addr) (c : Nat) (q : List UInt8) (N : Nat) (q' : List UInt8) (hr : RdX w b a q c) (hm : c ≤ 9223372036854775807) (hN : rdNum 0 0 q = some (N, q')) (hp : (rblk b a q.length c).holds w) :
    Gives Tryd.prog 73 [.pointer (some ⟨b, 0, none⟩)] w [b] (fun _ : Option Addr × Nat => U N) (fun x => [rblk b x.1 q'.length x.2]) (fun x => Adv b a q c x.1 q' x.2 ∧ N < 18446744073709551616) := by
  refine enterR Tryd.func73 Tryd.ntmps73 hp ?_
  refine c_seq <| c_reg <| s_y y_as <| s_nil <| q_then <| c_seq <| c_reg <| s_y y_as <| s_nil <| q_then <| c_block <| ?_
  refine c_loop (σ := Nat × Nat × List UInt8 × Option Addr × Nat) (fun x => [(0, .pointer (some ⟨b, 0, none⟩)), (2, U x.2.1), (3, I x.1)]) (fun x => [rblk b x.2.2.2.1 x.2.2.1.length x.2.2.2.2]) (fun x => rdNum x.1 x.2.1 x.2.2.1 = some (N, q') ∧ x.1 ≤ 9 ∧ x.2.1 < 2 ^ (7 * x.1) ∧ Adv b a q c x.2.2.2.1 x.2.2.1 x.2.2.2.2) (fun x => x.2.2.1.length) (0, 0, q, a, c) ⟨hN, Nat.zero_le _, Nat.zero_lt_one, .refl⟩ ⟨rfl, rfl, rfl, trivial⟩ (.refl _) ?_
  rintro ⟨i, u, q1, a1, c1⟩ ⟨h1, h2, h3, hA⟩
  simp only at h1 h2 h3 hA
  obtain ⟨h4, h5⟩ := hA w hr
  cases q1 with
  | nil => simp [rdNum] at h1
  | cons x q1 =>
  have hcnd : (i = 0 ∨ x.toNat ≠ 0) ∧ (i < 9 ∨ x.toNat ≤ 1) := Classical.byContradiction fun hn => by rw [rdNum, if_neg hn] at h1; cases h1
  rw [rdNum, if_pos hcnd] at h1
  obtain ⟨hg1, hg2⟩ := hcnd
  have hlt := x.toNat_lt
  have hle := h4.le
  rw [List.length_cons] at hle
  refine c_seq <| c_block <| c_seq <| c_reg <| s_y y_mv <| s_chg (b := b) (fun w' hw => take_ok w' b a1 (x :: q1).length c1 1 (by simp) h4.le (by omega) (hw.own _ (.head _)).1) (fun _ => .head _) (fun _ _ => ?_)
  have hd := hA.trans (Adv.drop 1 (by simp))
  refine s_y (y_ixs1 (xs := bs (x :: q1)) (hr := rdW h4.rd (by intro k hk; cases List.mem_singleton.1 hk; exact h4.ne)) (hl := by rw [bs_length]; simp)) <| s_y (y_ldb (q := x :: q1) (i := 0) (hr := rdW h4.rd (by intro k hk; cases List.mem_singleton.1 hk; exact h4.ne)) (hi := by simp)) <| ?_
  rw [show (x :: q1).getD 0 0 = x from rfl]
  refine s_y y_as <| s_nil <| q_then <| ?_
  refine c_join [(0, .pointer (some ⟨b, 0, none⟩)), (2, U u), (3, I i), (4, B x)] [rblk b (sa a1 1 c1 1) q1.length (c1 - 1)] ?_ ?_
  · have fin : ∀ F' : List (Nat × Value), Sub F' [(0, .pointer (some ⟨b, 0, none⟩)), (2, U u), (3, I i), (4, B x)] → True := fun _ _ => trivial
    by_cases hi0 : i = 0
    · subst hi0
      refine c_reg <| s_y y_mv <| s_y y_mv <| s_kt (y_eql (p := ((0 : Nat) : Int)) (q := 0)) (by omega) <| s_y y_mv <| s_no <| s_no <| s_y y_pk <| s_y y_mv <| s_y y_mv <| s_kt (y_lss (p := ((0 : Nat) : Int)) (q := 9)) (by omega) <| s_y y_mv <| s_no <| s_no <| s_y y_pk <| s_y y_pk <| s_pure (fun w' hw => want_ok w' _) <| s_nil <| ?_
      exact q_join ⟨rfl, rfl, rfl, rfl, trivial⟩ (.refl _)
    · have hx0 : x.toNat ≠ 0 := hg1.resolve_left hi0
      by_cases hi9 : i < 9
      · refine c_reg <| s_y y_mv <| s_y y_mv <| s_kf (y_eql (p := (i : Int)) (q := 0)) (by omega) <| s_y y_mv <| s_y y_mv <| s_nt (y_neq (p := (x.toNat : Int)) (q := 0)) (by omega) <| s_y y_pk <| s_y y_mv <| s_y y_mv <| s_kt (y_lss (p := (i : Int)) (q := 9)) (by omega) <| s_y y_mv <| s_no <| s_no <| s_y y_pk <| s_y y_pk <| s_pure (fun w' hw => want_ok w' _) <| s_nil <| ?_
        exact q_join ⟨rfl, rfl, rfl, rfl, trivial⟩ (.refl _)
      · have hx1 : x.toNat ≤ 1 := hg2.resolve_left hi9
        refine c_reg <| s_y y_mv <| s_y y_mv <| s_kf (y_eql (p := (i : Int)) (q := 0)) (by omega) <| s_y y_mv <| s_y y_mv <| s_nt (y_neq (p := (x.toNat : Int)) (q := 0)) (by omega) <| s_y y_pk <| s_y y_mv <| s_y y_mv <| s_kf (y_lss (p := (i : Int)) (q := 9)) (by omega) <| s_y y_mv <| s_y y_mv <| s_kt (y_leq (p := (x.toNat : Int)) (q := 1)) (by omega) <| s_y y_pk <| s_y y_pk <| s_pure (fun w' hw => want_ok w' _) <| s_nil <| ?_
        exact q_join ⟨rfl, rfl, rfl, rfl, trivial⟩ (.refl _)
  have h64 := lt64 (i := i) (p := x.toNat % 128) h2 (by omega) (by omega)
  have hu64 : u < 18446744073709551616 := by
    have := Nat.pow_le_pow_right (show 0 < 2 by decide) (show 7 * i ≤ 63 by omega)
    omega
  refine c_seq <| c_reg <| s_y y_mv <| s_y y_mv <| s_y (y_andn (k := .u8) (p := x.toNat) (q := 127) (hw := by rw [and127, wrap_u8]; omega)) <| ?_
  rw [and127]
  refine s_y (y_cvn (k := .u64) (p := ((x.toNat % 128 : Nat) : Int)) (hw := wrap_u64 (by omega) (by omega))) <| s_y y_mv <| s_y (y_mul (p := 7) (q := (i : Int))) <| ?_
  rw [show (7 : Int) * (i : Int) = ((7 * i : Nat) : Int) by omega]
  refine s_y (y_shlW (7 * i) (p := x.toNat % 128)) <| ?_
  rw [Nat.mod_eq_of_lt h64]
  refine s_y (y_orU (p := u) (q := x.toNat % 128 * 2 ^ (7 * i))) <| ?_
  rw [or_add h3]
  refine s_y y_as <| s_nil <| q_then <| c_seq <| c_reg <| s_y y_mv <| ?_
  by_cases h128 : x.toNat < 128
  · rw [if_pos h128] at h1
    simp only [Option.some.injEq, Prod.mk.injEq] at h1
    obtain ⟨rfl, rfl⟩ := h1
    rw [Nat.mod_eq_of_lt h128] at h64 ⊢
    refine s_kt (y_lss (p := (x.toNat : Int)) (q := 128)) (by omega) <| s_nil <| q_then <| c_t <| c_seq <| c_reg <| s_y y_mv <| s_y y_as <| s_nil <| q_then <| c_ret <| q_retb <| q_ret <| q_ret <| q_retb <| ?_
    exact ret1 Tryd.results73 rv_t fun w' hw => ⟨(sa a1 1 c1 1, c1 - 1), ⟨hd, sum64 h2 h3 h128 hg2⟩, rfl, hw⟩
  · rw [if_neg h128] at h1
    have e : x.toNat % 128 = x.toNat - 128 := by omega
    refine s_kf (y_lss (p := (x.toNat : Int)) (q := 128)) (by omega) <| s_nil <| q_then <| c_f <| c_skip <| q_nb <| q_then <| c_reg <| s_y y_mv <| s_y (y_add (p := (i : Int)) (q := 1)) <| s_y y_as <| s_nil <| ?_
    rw [show (i : Int) + 1 = ((i + 1 : Nat) : Int) by omega]
    refine q_round (i + 1, u + x.toNat % 128 * 2 ^ (7 * i), q1, sa a1 1 c1 1, c1 - 1) ⟨by rw [e]; exact h1, by show i + 1 ≤ 9; omega, sum7 h3 (by omega), hd⟩ (by simp) ⟨rfl, rfl, rfl, trivial⟩ (.refl _)
end Go.Proofs.YtjfiggbgpplopaaDoor
