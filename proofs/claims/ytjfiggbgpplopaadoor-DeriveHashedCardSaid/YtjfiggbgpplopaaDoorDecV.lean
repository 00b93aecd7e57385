/- Reading values: the walk through lists. -/
import Derived.Test.YtjfiggbgpplopaaDoorDecW
import Derived.Test.YtjfiggbgpplopaaDoorDerA
namespace Eng
open Go Go.RowKit
section
variable {r : Option Nat} {P : Program} {n : Nat} {D : List Deferred} {W : World} {Bo : List Nat} {F : List (Nat × Value)} {l l' : SH}
  {d : Option Tmp} {ty : TypeId} {ps : String} {af : Array Edge} {g : Option (Nat × Bool)} {x y z : Operand} {ta tb t e : TypeId}
  {Q : Exit → Act → World → Prop} {ops : Array Oper} {rest : List Oper} {c : Code}
theorem c_regG [hm : HM P] (lp : SH) (hlp : lp.Sublist l) (f : Nat) {id : Nat} {os : List Oper} (h : DF P n D W Bo os.toArray Q lp f os.length (Array.replicate os.length false) F l) (hs : Region.noSelect os.toArray = true := by kernel_rfl) :
    CP none P n D W Bo (.region id os.toArray true) Q F l := by
  intro a w ha hw
  have h1 := (h hs a w.drew ha hw.drew).any
  have h2 : (Code.region id os.toArray true).wpIn (Fw none) 0 P (Q0 Q) a w := wpIn_region_any hm.h (by simpa using h1)
  exact wpIn_mono h2 fun e a w hq => by obtain ⟨rfl, hq⟩ := hq; exact hq
theorem f_kk {lp : SH} {f fuel : Nat} {listed : Array Bool} (h : DF P n D W Bo ops Q lp f fuel listed F l) (hs : Region.noSelect ops = true := by kernel_rfl) : LP none P n D W Bo ops (QF P W Bo ops Q lp f fuel listed) [] F l :=
  s_nil fun a w ha hw => ⟨rfl, h hs a w ha hw⟩
theorem s_perm (hs : l'.Perm l) (h : LP r P n D W Bo ops Q rest F l') : LP r P n D W Bo ops Q rest F l := fun a w ha hw => h a w ha (hw.perm hs)
/-- all bits of an int turned -/
theorem y_xorm {p : Nat} {q : Int} (hx : evO F x = some (I (p : Int)) := by rfl) (hy : evO F y = some (I q) := by rfl) (hq : q = -1) (hp : p < 9223372036854775808) :
    Y P n D W Bo ⟨d, .binOp .xor ta x y tb, ty, ps, af, g⟩ F l (I (-(p : Int) - 1)) :=
  .mk (by simp) fun a w ha _ => by
    refine exec_bin P w w _ _ _ _ _ _ _ _ _ _ _ _ ⟨by simp, by simp⟩ ?_
    rw [ha.eval hx, ha.eval hy]
    subst hq
    simp only [binOp, ne_eq, not_true_eq_false, if_false, Op.intBits, Sem.run_pure]
    have e1 : (BitVec.ofInt IntKind.i64.bits (p : Int)).toNat = p := bitsn (k := .i64) (by simp only [IntKind.bits]; omega)
    have e2 : (BitVec.ofInt IntKind.i64.bits (-1)).toNat = 18446744073709551615 := by decide
    have e3 : (2 : Int) ^ IntKind.i64.bits = 18446744073709551616 := by decide
    have e4 : (2 : Int) ^ (IntKind.i64.bits - 1) = 9223372036854775808 := by decide
    have e5 : IntKind.i64.signed = true := rfl
    have e6 : IntKind.i64.wrap ((18446744073709551615 - p : Nat) : Int) = -(p : Int) - 1 := by
      simp only [IntKind.wrap, e3, e4, e5, Bool.true_and, decide_eq_true_eq]
      split <;> omega
    rw [BitVec.toNat_xor, e1, e2, xor_ones p (by omega), e6]
end
end Eng
namespace Cod
open Go Eng
theorem RdX.st {W w : World} {l : SH} {b c : Nat} {a : Option Addr} {q : List UInt8} (h : RdX W b a q c) (hs : St W [b] w l) : RdX w b a q c := ⟨h.rds w hs, h.le, h.ne⟩
/-- a value, by parts of memory -/
def Vs (rs : SH) (v : V) (val : Value) : Prop := ∀ w : World, (∀ p ∈ rs, p.holds w) → Vv w v val
theorem Vs.mono {rs rs' : SH} {v : V} {val : Value} (h : Vs rs v val) (hs : ∀ p ∈ rs, p ∈ rs') : Vs rs' v val := fun w hw => h w fun p hp => hw p (hs p hp)
abbrev vval (v : V) (a : Option Addr) (c : Nat) : Value := .agg #[I v.k, I v.n, .string (sb v.s), .slice a v.l.length c]
theorem rdL_length {g : List UInt8 → Option (V × List UInt8)} : ∀ {n : Nat} {q q' : List UInt8} {L : List V}, rdL g n q = some (L, q') → L.length = n
  | 0, q, q', L, h => by simp only [rdL, Option.some.injEq, Prod.mk.injEq] at h; rw [← h.1]; rfl
  | n + 1, q, q', L, h => by
    rw [rdL] at h
    split at h
    · cases h
    · split at h
      · cases h
      · rename_i h2
        simp only [Option.some.injEq, Prod.mk.injEq] at h
        rw [← h.1, List.length_cons, rdL_length h2]
theorem rdL_cons {g : List UInt8 → Option (V × List UInt8)} {n : Nat} {q q' : List UInt8} {v : V} {L : List V} (h : rdL g (n + 1) q = some (v :: L, q')) : ∃ q2, g q = some (v, q2) ∧ rdL g n q2 = some (L, q') := by
  rw [rdL] at h
  split at h
  · cases h
  · rename_i v1 q2 h1
    split at h
    · cases h
    · rename_i h2
      simp only [Option.some.injEq, Prod.mk.injEq, List.cons.injEq] at h
      obtain ⟨⟨rfl, rfl⟩, rfl⟩ := h
      exact ⟨q2, h1, h2⟩
theorem rdNum_le : ∀ {q : List UInt8} {i u N : Nat} {q' : List UInt8}, rdNum i u q = some (N, q') → q'.length ≤ q.length
  | [], _, _, _, _, h => by simp [rdNum] at h
  | x :: q, i, u, N, q', h => by
    rw [rdNum] at h
    split at h
    · split at h
      · simp only [Option.some.injEq, Prod.mk.injEq] at h; rw [← h.2]; simp
      · have := rdNum_le h; rw [List.length_cons]; omega
    · cases h
theorem rdLen_inv {q q' : List UInt8} {N : Nat} (h : rdLen q = some (N, q')) : rdNum 0 0 q = some (N, q') ∧ N ≤ q'.length := by
  rw [rdLen] at h
  cases h1 : rdNum 0 0 q with
  | none => rw [h1] at h; cases h
  | some p =>
    obtain ⟨n, q1⟩ := p
    rw [h1] at h
    by_cases h2 : n ≤ q1.length
    · simp only [if_pos h2, Option.some.injEq, Prod.mk.injEq] at h
      obtain ⟨rfl, rfl⟩ := h
      exact ⟨rfl, h2⟩
    · simp only [if_neg h2] at h; cases h
structure LSt where
  j : Nat
  dn : List V
  td : List V
  q : List UInt8
  a : Option Addr
  c : Nat
  la : Option Addr
  lc : Nat
  cells : List Value
  rs : SH
theorem cells_old {cs ds : List Value} {m i : Nat} (h : cs.length = m * 4) (hi : i < m) : ((cs ++ ds).drop (i * 4)).take 4 = (cs.drop (i * 4)).take 4 := by
  rw [List.drop_append_of_le_length (by omega), List.take_append_of_le_length (by rw [List.length_drop]; omega)]
theorem cells_new {cs ds : List Value} {m : Nat} (h : cs.length = m * 4) (hd : ds.length = 4) : ((cs ++ ds).drop (m * 4)).take 4 = ds := by
  rw [← h, List.drop_left, List.take_of_length_le (by omega)]
end Cod
namespace Go.Proofs.YtjfiggbgpplopaaDoor
open Go Eng Cod
theorem signed_ok (w : World) (u : Nat) (hu : u < 18446744073709551616) : Pure Tryd.prog 72 [U u] w (I (sgn u)) := by
  refine enter Tryd.func72 Tryd.ntmps72 ?_
  refine c_seq <| c_reg <| s_y y_as <| s_nil <| q_then <| c_seq <| c_reg <| s_y y_mv <| s_y (y_shrW 1 (p := u)) <| s_y (y_cvn (k := .i64) (p := ((u / 2 ^ 1 : Nat) : Int)) (hw := wrap_i64 (by unfold R64; omega))) <| s_y y_mv <| s_y (y_andn (k := .u64) (p := u) (q := 1) (hw := by rw [Nat.and_one_is_mod]; exact wrap_u64 (by omega) (by omega))) <| ?_
  rw [Nat.and_one_is_mod, Nat.pow_one]
  refine s_y (y_cvn (k := .i64) (p := ((u % 2 : Nat) : Int)) (hw := wrap_i64 (by unfold R64; omega))) <| s_y (y_neg (p := ((u % 2 : Nat) : Int))) <| ?_
  by_cases h : u % 2 = 0
  · rw [sgn, if_pos h, h]
    refine s_y (y_xorn (k := .i64) (p := u / 2) (q := 0) (hw := by rw [Nat.xor_zero]; exact wrap_i64 (by unfold R64; omega))) <| ?_
    rw [Nat.xor_zero]
    refine s_y y_as <| s_nil <| q_then <| c_ret <| ?_
    exact ret1 Tryd.results72 rv_t fun w' hw => ⟨rfl, hw⟩
  · have h1 : u % 2 = 1 := by omega
    rw [sgn, if_neg h, h1]
    refine s_y (y_xorm (p := u / 2) (q := -((1 : Nat) : Int)) (hq := rfl) (hp := by omega)) <| s_y y_as <| s_nil <| q_then <| c_ret <| ?_
    exact ret1 Tryd.results72 rv_t fun w' hw => ⟨rfl, hw⟩
theorem length_ok (w : World) (b : Nat) (a : Option Addr) (c : Nat) (q : List UInt8) (N : Nat) (q' : List UInt8) (hr : RdX w b a q c) (hm : c ≤ 9223372036854775807) (hN : rdLen q = some (N, q')) (hp : (rblk b a q.length c).holds w) :
    Gives Tryd.prog 74 [.pointer (some ⟨b, 0, none⟩)] w [b] (fun _ : Option Addr × Nat => I N) (fun x => [rblk b x.1 q'.length x.2]) (fun x => Adv b a q c x.1 q' x.2 ∧ N ≤ q'.length) := by
  obtain ⟨h1, h2⟩ := rdLen_inv hN
  refine enterR Tryd.func74 Tryd.ntmps74 hp ?_
  refine c_seq <| c_reg <| s_y y_as <| s_nil <| q_then <| c_seq <| c_reg <| s_y y_mv <| s_chg (b := b) (fun w' hw => number_ok w' b a c q N q' (hr.st hw) hm h1 (hw.own _ (.head _)).1) (fun _ => .head _) (fun x hx => ?_)
  obtain ⟨hx1, hx2⟩ := hx
  have hx3 := (hx1 w hr).2
  have hx4 := (hx1 w hr).1.le
  refine s_y y_as <| s_nil <| q_then <| c_seq <| c_reg <| s_y y_mv <| s_y y_mv <| s_y y_mv <| s_y y_nc <| s_y y_fa <| s_y (y_ld (v := .slice x.1 q'.length x.2)) <| s_y y_len <| s_y (y_cvn (k := .u64) (p := ((q'.length : Nat) : Int)) (hw := wrap_u64 (by omega) (by omega))) <| s_kt (y_leq (p := ((N : Nat) : Int)) (q := ((q'.length : Nat) : Int))) (by omega) <| s_pure (fun w' hw => want_ok w' _) <| s_nil <| q_then <| ?_
  refine c_seq <| c_reg <| s_y y_mv <| s_y (y_cvn (k := .i64) (p := ((N : Nat) : Int)) (hw := wrap_i64 (by unfold R64; omega))) <| s_y y_as <| s_nil <| q_then <| c_ret <| ?_
  exact ret1 Tryd.results74 rv_t fun w' hw => ⟨x, ⟨hx1, h2⟩, rfl, hw⟩
end Go.Proofs.YtjfiggbgpplopaaDoor
