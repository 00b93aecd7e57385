/- Operations: what each yields. -/
import Derived.Test.YtjfiggbgpplopaaDoorEng
namespace Eng
open Go Go.RowKit

class HU (P : Program) (t : TypeId) (d : outParam TypeDesc) : Prop where
  h : P.underlying t = some d
class HZ (P : Program) (t : TypeId) (z : outParam Value) : Prop where
  h : ∀ w, (zeroValue t).run P w = .ok z w
class HS (P : Program) (t : TypeId) (size bytes : outParam Nat) : Prop where
  h : ∃ i, P.info? t = some i ∧ i.size = size ∧ i.bytes = bytes

/-- is it neither a struct nor an array? -/
def flat : TypeDesc → Bool
  | .struct _ | .array _ _ => false
  | _ => true
class HT (P : Program) (t : TypeId) (b : outParam Bool) : Prop where
  h : ∃ d, P.underlying t = some d ∧ flat d = b
class HI (P : Program) (t : TypeId) : Prop where
  h : ∃ ms, P.underlying t = some (.interface ms)
/-- a field of a struct: its type, its place -/
class HD (P : Program) (t : TypeId) (i : Nat) (ft off : outParam Nat) : Prop where
  h : ∃ fs f, P.underlying t = some (.struct fs) ∧ fs[i]? = some f ∧ f.type = ft ∧ f.offset = off

theorem HS.of {P : Program} {t : TypeId} {size bytes : Nat} (h : (P.info? t).map (fun i => (i.size, i.bytes)) = some (size, bytes)) : HS P t size bytes := by
  cases hi : P.info? t with
  | none => rw [hi] at h; cases h
  | some i => rw [hi] at h; simp at h; exact ⟨i, hi, h.1, h.2⟩

/-- a byte -/
@[reducible] def B (x : UInt8) : Value := .int .u8 (x.toNat : Int)
/-- a word of 32 bits -/
@[reducible] def W32 (x : UInt32) : Value := .int .u32 (x.toNat : Int)
/-- an int -/
@[reducible] def I (z : Int) : Value := .int .i64 z
/-- a uint64 -/
@[reducible] def U (x : Nat) : Value := .int .u64 (x : Int)

def R64 (z : Int) : Prop := -9223372036854775808 ≤ z ∧ z ≤ 9223372036854775807

theorem wrap_i64 {z : Int} (h : R64 z) : IntKind.i64.wrap z = z := by
  unfold R64 at h
  have e1 : (2 : Int) ^ IntKind.i64.bits = 18446744073709551616 := by decide
  have e2 : (2 : Int) ^ (IntKind.i64.bits - 1) = 9223372036854775808 := by decide
  have e3 : IntKind.i64.signed = true := rfl
  simp only [IntKind.wrap, e1, e2, e3, Bool.true_and, decide_eq_true_eq]
  split <;> omega
theorem wrap_u64 {z : Int} (h0 : 0 ≤ z) (h : z < 18446744073709551616) : IntKind.u64.wrap z = z := by
  simp only [IntKind.wrap, IntKind.bits, IntKind.signed, Bool.false_and]
  rw [show (2 : Int) ^ 64 = 18446744073709551616 by decide]
  simp; omega
theorem wrap_u8 (z : Int) : IntKind.u8.wrap z = z % 256 := by
  simp only [IntKind.wrap, IntKind.bits, IntKind.signed, Bool.false_and]
  rw [show (2 : Int) ^ 8 = 256 by decide]
  simp
theorem wrap_u32 (z : Int) : IntKind.u32.wrap z = z % 4294967296 := by
  simp only [IntKind.wrap, IntKind.bits, IntKind.signed, Bool.false_and]
  rw [show (2 : Int) ^ 32 = 4294967296 by decide]
  simp
theorem wrap_u64' (z : Int) : IntKind.u64.wrap z = z % 18446744073709551616 := by
  simp only [IntKind.wrap, IntKind.bits, IntKind.signed, Bool.false_and]
  rw [show (2 : Int) ^ 64 = 18446744073709551616 by decide]
  simp

theorem u32_eq {a b : UInt32} (h : a.toNat = b.toNat) : a = b := UInt32.toNat_inj.1 h
theorem u32_of {z : Int} {a : UInt32} (h : z = (a.toNat : Int)) : Value.int .u32 z = W32 a := by rw [h]

theorem bits32 (p q : UInt32) (f : BitVec 32 → BitVec 32 → BitVec 32) (r : UInt32) (h : f p.toBitVec q.toBitVec = r.toBitVec) :
    IntKind.u32.wrap ((f (BitVec.ofInt 32 (p.toNat : Int)) (BitVec.ofInt 32 (q.toNat : Int))).toNat : Int) = (r.toNat : Int) := by
  have e : ∀ x : UInt32, BitVec.ofInt 32 (x.toNat : Int) = x.toBitVec := by
    intro x; rw [BitVec.ofInt_natCast]; exact BitVec.eq_of_toNat_eq (by simp)
  rw [e, e, h, wrap_u32]
  have := r.toBitVec.isLt
  show ((r.toNat : Int)) % 4294967296 = _
  have h2 : r.toNat < 4294967296 := this
  omega

theorem run_shr (P : Program) (w : World) (k yk : IntKind) (p : Int) (m : Nat) : (Op.shift .shr k p yk (m : Int)).run P w = .ok (.int k (p.fdiv (2 ^ (min m k.bits)))) w := by
  unfold Op.shift
  rw [if_neg (by omega), Int.toNat_natCast]; rfl
theorem run_shl (P : Program) (w : World) (k yk : IntKind) (p : Int) (m : Nat) : (Op.shift .shl k p yk (m : Int)).run P w = .ok (.int k (k.wrap (p * 2 ^ (min m k.bits)))) w := by
  unfold Op.shift
  rw [if_neg (by omega), Int.toNat_natCast]; rfl
theorem exec_bin (P : Program) (w w' : World) (ρ : Operand → Value) (d : Option Tmp) (op : BinOp) (ta tb : TypeId) (x y : Operand) (ty : TypeId) (ps : String) (af : Array Edge) (g : Option (Nat × Bool)) (v : Value)
    (hop : op ≠ .eql ∧ op ≠ .neq) (h : (binOp op ta (ρ x) (ρ y)).run P w = .ok v w') : (execOp ρ ⟨d, .binOp op ta x y tb, ty, ps, af, g⟩).run P w = .ok (.value v) w' := by
  have : eqGuard op ta x y (ρ x) (ρ y) = pure () := by
    unfold eqGuard
    cases op <;> first | rfl | exact absurd rfl hop.1 | exact absurd rfl hop.2
  simp only [execOp, this, Sem.run_bind, Sem.run_pure, Result.andThen_ok, h]

section
variable {P : Program} {n : Nat} {D : List Deferred} {W : World} {Bo : List Nat} {F : List (Nat × Value)} {l : SH}
  {d : Option Tmp} {ty : TypeId} {ps : String} {af : Array Edge} {g : Option (Nat × Bool)} {x y z : Operand} {v u : Value} {ta tb : TypeId}

theorem Y.mk {o : Oper} (h2 : ∀ c, o.op ≠ .defer c) (h : ∀ a w, Fr n F D a → St W Bo w l → (execOp a.eval o).run P w = .ok (.value v) w) : Y P n D W Bo o F l v := ⟨h2, h⟩

theorem y_mv (hx : evO F x = some v := by rfl) : Y P n D W Bo ⟨d, .move x, ty, ps, af, g⟩ F l v :=
  .mk (by simp) fun a w ha _ => by simp [execOp, ha.eval hx, pure]
theorem y_as (hx : evO F x = some v := by rfl) : Y P n D W Bo ⟨d, .assign x, ty, ps, af, g⟩ F l v :=
  .mk (by simp) fun a w ha _ => by simp [execOp, ha.eval hx, pure]
theorem y_pkT (hc : evO F x = some (.bool true) := by rfl) (hx : evO F y = some v := by rfl) : Y P n D W Bo ⟨d, .pick x y z, ty, ps, af, g⟩ F l v :=
  .mk (by simp) fun a w ha _ => by simp [execOp, ha.eval hc, ha.eval hx, asBool]
theorem y_pkF (hc : evO F x = some (.bool false) := by rfl) (hx : evO F z = some v := by rfl) : Y P n D W Bo ⟨d, .pick x y z, ty, ps, af, g⟩ F l v :=
  .mk (by simp) fun a w ha _ => by simp [execOp, ha.eval hc, ha.eval hx, asBool]
theorem y_pk {b : Bool} (hc : evO F x = some (.bool b) := by rfl) (h1 : b = true → evO F y = some v := by first | (intro h; cases h; done) | (intro _; rfl)) (h2 : b = false → evO F z = some v := by first | (intro h; cases h; done) | (intro _; rfl)) :
    Y P n D W Bo ⟨d, .pick x y z, ty, ps, af, g⟩ F l v := by
  cases b with
  | true => exact y_pkT hc (h1 rfl)
  | false => exact y_pkF hc (h2 rfl)
theorem y_ext {vs : Array Value} {i : Nat} (hx : evO F x = some (.tuple vs) := by rfl) (hv : vs[i]? = some v := by rfl) : Y P n D W Bo ⟨d, .extract x i, ty, ps, af, g⟩ F l v :=
  .mk (by simp) fun a w ha _ => by simp [execOp, ha.eval hx, Instr.extract, hv]
theorem y_not {b : Bool} (hx : evO F x = some (.bool b) := by rfl) : Y P n D W Bo ⟨d, .unOp .not ta x, ty, ps, af, g⟩ F l (.bool (!b)) :=
  .mk (by simp) fun a w ha _ => by simp [execOp, ha.eval hx, Op.unary]
theorem y_neg {p : Int} (hx : evO F x = some (I p) := by rfl) (hr : R64 (-p) := by (unfold R64; omega)) : Y P n D W Bo ⟨d, .unOp .neg ta x, ty, ps, af, g⟩ F l (I (-p)) :=
  .mk (by simp) fun a w ha _ => by simp [execOp, ha.eval hx, Op.unary, Op.intArith, wrap_i64 hr]
theorem y_func {fn : Fn} {as bs : Array Operand} {fs cs : List Value} (hf : evL F as.toList = some fs := by rfl) (hb : evL F bs.toList = some cs := by rfl) :
    Y P n D W Bo ⟨d, .makeFunc fn as bs, ty, ps, af, g⟩ F l (.func fn fs.toArray cs.toArray) := by
  refine .mk (by simp) fun a w ha _ => ?_
  have key : ∀ (as : List Operand) (fs : List Value), as.map (evO F) = fs.map some → as.map a.eval = fs := by
    intro as
    induction as with
    | nil => intro fs h; cases fs with
      | nil => rfl
      | cons _ _ => simp at h
    | cons x as ih => intro fs h; cases fs with
      | nil => simp at h
      | cons v fs => simp at h; simp [ha.eval h.1, ih fs h.2]
  have e1 : as.map a.eval = fs.toArray := by rw [← Array.toList_inj]; simp [key _ _ (evL_map hf)]
  have e2 : bs.map a.eval = cs.toArray := by rw [← Array.toList_inj]; simp [key _ _ (evL_map hb)]
  simp [execOp, Instr.makeFunc, e1, e2]

/-! int -/
theorem y_add {p q : Int} (hx : evO F x = some (I p) := by rfl) (hy : evO F y = some (I q) := by rfl) (hr : R64 (p + q) := by (unfold R64; omega)) : Y P n D W Bo ⟨d, .binOp .add ta x y tb, ty, ps, af, g⟩ F l (I (p + q)) :=
  .mk (by simp) fun a w ha _ => by simp [execOp, ha.eval hx, ha.eval hy, eqGuard, binOp, Op.intArith, wrap_i64 hr]
theorem y_sub {p q : Int} (hx : evO F x = some (I p) := by rfl) (hy : evO F y = some (I q) := by rfl) (hr : R64 (p - q) := by (unfold R64; omega)) : Y P n D W Bo ⟨d, .binOp .sub ta x y tb, ty, ps, af, g⟩ F l (I (p - q)) :=
  .mk (by simp) fun a w ha _ => by simp [execOp, ha.eval hx, ha.eval hy, eqGuard, binOp, Op.intArith, wrap_i64 hr]
theorem y_mul {p q : Int} (hx : evO F x = some (I p) := by rfl) (hy : evO F y = some (I q) := by rfl) (hr : R64 (p * q) := by (unfold R64; omega)) : Y P n D W Bo ⟨d, .binOp .mul ta x y tb, ty, ps, af, g⟩ F l (I (p * q)) :=
  .mk (by simp) fun a w ha _ => by simp [execOp, ha.eval hx, ha.eval hy, eqGuard, binOp, Op.intArith, wrap_i64 hr]
theorem y_lss {k : IntKind} {p q : Int} (hx : evO F x = some (.int k p) := by rfl) (hy : evO F y = some (.int k q) := by rfl) : Y P n D W Bo ⟨d, .binOp .lss ta x y tb, ty, ps, af, g⟩ F l (.bool (decide (p < q))) :=
  .mk (by simp) fun a w ha _ => by simp [execOp, ha.eval hx, ha.eval hy, eqGuard, binOp, Op.intCmp]
theorem y_leq {k : IntKind} {p q : Int} (hx : evO F x = some (.int k p) := by rfl) (hy : evO F y = some (.int k q) := by rfl) : Y P n D W Bo ⟨d, .binOp .leq ta x y tb, ty, ps, af, g⟩ F l (.bool (decide (p ≤ q))) :=
  .mk (by simp) fun a w ha _ => by simp [execOp, ha.eval hx, ha.eval hy, eqGuard, binOp, Op.intCmp]
theorem y_gtr {k : IntKind} {p q : Int} (hx : evO F x = some (.int k p) := by rfl) (hy : evO F y = some (.int k q) := by rfl) : Y P n D W Bo ⟨d, .binOp .gtr ta x y tb, ty, ps, af, g⟩ F l (.bool (decide (q < p))) :=
  .mk (by simp) fun a w ha _ => by simp [execOp, ha.eval hx, ha.eval hy, eqGuard, binOp, Op.intCmp]
theorem y_geq {k : IntKind} {p q : Int} (hx : evO F x = some (.int k p) := by rfl) (hy : evO F y = some (.int k q) := by rfl) : Y P n D W Bo ⟨d, .binOp .geq ta x y tb, ty, ps, af, g⟩ F l (.bool (decide (q ≤ p))) :=
  .mk (by simp) fun a w ha _ => by simp [execOp, ha.eval hx, ha.eval hy, eqGuard, binOp, Op.intCmp]
theorem y_eql {k : IntKind} {p q : Int} (hx : evO F x = some (.int k p) := by rfl) (hy : evO F y = some (.int k q) := by rfl) : Y P n D W Bo ⟨d, .binOp .eql ta x y tb, ty, ps, af, g⟩ F l (.bool (decide (p = q))) :=
  .mk (by simp) fun a w ha _ => by simp [execOp, ha.eval hx, ha.eval hy, eqGuard, binOp, Op.intCmp]; rfl
theorem y_neq {k : IntKind} {p q : Int} (hx : evO F x = some (.int k p) := by rfl) (hy : evO F y = some (.int k q) := by rfl) : Y P n D W Bo ⟨d, .binOp .neq ta x y tb, ty, ps, af, g⟩ F l (.bool (!decide (p = q))) :=
  .mk (by simp) fun a w ha _ => by simp [execOp, ha.eval hx, ha.eval hy, eqGuard, binOp, Op.intCmp]; rfl
theorem y_quo {p q : Int} (hx : evO F x = some (I p) := by rfl) (hy : evO F y = some (I q) := by rfl) (h0 : 0 ≤ p := by omega) (h1 : 0 < q := by omega) (hr : R64 p := by (unfold R64; omega)) : Y P n D W Bo ⟨d, .binOp .quo ta x y tb, ty, ps, af, g⟩ F l (I (p / q)) :=
  .mk (by simp) fun a w ha _ => by
    have h2 : R64 (p / q) := by
      have h3 := Int.ediv_nonneg h0 (Int.le_of_lt h1)
      have h4 := Int.ediv_le_self q h0
      unfold R64 at *; omega
    have h5 : q ≠ 0 := by omega
    simp [execOp, ha.eval hx, ha.eval hy, eqGuard, binOp, Op.intDiv, h5, Int.tdiv_eq_ediv_of_nonneg h0, wrap_i64 h2]
theorem y_rem {p q : Int} (hx : evO F x = some (I p) := by rfl) (hy : evO F y = some (I q) := by rfl) (h0 : 0 ≤ p := by omega) (h1 : 0 < q := by omega) (hr : R64 p := by (unfold R64; omega)) : Y P n D W Bo ⟨d, .binOp .rem ta x y tb, ty, ps, af, g⟩ F l (I (p % q)) :=
  .mk (by simp) fun a w ha _ => by
    have h2 : R64 (p % q) := by
      have h3 := Int.emod_nonneg p (show q ≠ 0 by omega)
      have h4 := Int.emod_lt_of_pos p h1
      have h6 : p % q ≤ p := by have := Int.mul_ediv_add_emod p q; have := Int.mul_nonneg (Int.le_of_lt h1) (Int.ediv_nonneg h0 (Int.le_of_lt h1)); omega
      unfold R64 at *; omega
    have h5 : q ≠ 0 := by omega
    simp [execOp, ha.eval hx, ha.eval hy, eqGuard, binOp, Op.intDiv, h5, Int.tmod_eq_emod_of_nonneg h0]

/-! words of 32 bits -/
theorem y_add32 {p q : UInt32} (hx : evO F x = some (W32 p) := by rfl) (hy : evO F y = some (W32 q) := by rfl) : Y P n D W Bo ⟨d, .binOp .add ta x y tb, ty, ps, af, g⟩ F l (W32 (p + q)) :=
  .mk (by simp) fun a w ha _ => by
    simp [execOp, ha.eval hx, ha.eval hy, eqGuard, binOp, Op.intArith, wrap_u32]
theorem y_xor32 {p q : UInt32} (hx : evO F x = some (W32 p) := by rfl) (hy : evO F y = some (W32 q) := by rfl) : Y P n D W Bo ⟨d, .binOp .xor ta x y tb, ty, ps, af, g⟩ F l (W32 (p ^^^ q)) :=
  .mk (by simp) fun a w ha _ => by
    have h := bits32 p q (· ^^^ ·) (p ^^^ q) rfl
    simp only [execOp, ha.eval hx, ha.eval hy, eqGuard, binOp]
    show Result.ok (Next.value (.int .u32 (IntKind.u32.wrap _))) w = _
    exact congrArg (fun z => Result.ok (Next.value (.int .u32 z)) w) h
theorem y_and32 {p q : UInt32} (hx : evO F x = some (W32 p) := by rfl) (hy : evO F y = some (W32 q) := by rfl) : Y P n D W Bo ⟨d, .binOp .and ta x y tb, ty, ps, af, g⟩ F l (W32 (p &&& q)) :=
  .mk (by simp) fun a w ha _ => by
    have h := bits32 p q (· &&& ·) (p &&& q) rfl
    simp only [execOp, ha.eval hx, ha.eval hy, eqGuard, binOp]
    show Result.ok (Next.value (.int .u32 (IntKind.u32.wrap _))) w = _
    exact congrArg (fun z => Result.ok (Next.value (.int .u32 z)) w) h
theorem y_or32 {p q : UInt32} (hx : evO F x = some (W32 p) := by rfl) (hy : evO F y = some (W32 q) := by rfl) : Y P n D W Bo ⟨d, .binOp .or ta x y tb, ty, ps, af, g⟩ F l (W32 (p ||| q)) :=
  .mk (by simp) fun a w ha _ => by
    have h := bits32 p q (· ||| ·) (p ||| q) rfl
    simp only [execOp, ha.eval hx, ha.eval hy, eqGuard, binOp]
    show Result.ok (Next.value (.int .u32 (IntKind.u32.wrap _))) w = _
    exact congrArg (fun z => Result.ok (Next.value (.int .u32 z)) w) h

/-- a word shifted to the left, by a constant -/
theorem y_shl32 {p : UInt32} {q : Int} {k : IntKind} (hx : evO F x = some (W32 p) := by rfl) (hy : evO F y = some (.int k q) := by rfl) (h0 : 0 ≤ q := by decide) (h1 : q < 32 := by decide) :
    Y P n D W Bo ⟨d, .binOp .shl ta x y tb, ty, ps, af, g⟩ F l (W32 (p <<< UInt32.ofNat q.toNat)) :=
  .mk (by simp) fun a w ha _ => by
    obtain ⟨m, rfl⟩ := Int.eq_ofNat_of_zero_le h0
    have hm : m < 32 := by omega
    have e2 : min m 32 = m := by omega
    have e3 : ((p.toNat : Int) * 2 ^ m) % 4294967296 = ((p <<< UInt32.ofNat m).toNat : Int) := by
      rw [UInt32.toNat_shiftLeft, Nat.shiftLeft_eq]
      have : (UInt32.ofNat m).toNat % 32 = m := by simp; omega
      rw [this]
      simp
    refine exec_bin P w w _ _ _ _ _ _ _ _ _ _ _ _ ⟨by simp, by simp⟩ ?_
    rw [ha.eval hx, ha.eval hy]
    refine (run_shl P w .u32 k _ m).trans ?_
    rw [show min m IntKind.u32.bits = m from e2, wrap_u32, e3]; rfl
/-- a word shifted to the right, by a constant -/
theorem y_shr32 {p : UInt32} {q : Int} {k : IntKind} (hx : evO F x = some (W32 p) := by rfl) (hy : evO F y = some (.int k q) := by rfl) (h0 : 0 ≤ q := by decide) (h1 : q < 32 := by decide) :
    Y P n D W Bo ⟨d, .binOp .shr ta x y tb, ty, ps, af, g⟩ F l (W32 (p >>> UInt32.ofNat q.toNat)) :=
  .mk (by simp) fun a w ha _ => by
    obtain ⟨m, rfl⟩ := Int.eq_ofNat_of_zero_le h0
    have hm : m < 32 := by omega
    have e2 : min m 32 = m := by omega
    have e3 : (p.toNat : Int).fdiv (2 ^ m) = ((p >>> UInt32.ofNat m).toNat : Int) := by
      rw [UInt32.toNat_shiftRight, Nat.shiftRight_eq_div_pow]
      have : (UInt32.ofNat m).toNat % 32 = m := by simp; omega
      rw [this, Int.fdiv_eq_ediv_of_nonneg _ (by exact Int.le_of_lt (Int.pow_pos (by decide)))]
      simp
    refine exec_bin P w w _ _ _ _ _ _ _ _ _ _ _ _ ⟨by simp, by simp⟩ ?_
    rw [ha.eval hx, ha.eval hy]
    refine (run_shr P w .u32 k _ m).trans ?_
    rw [show min m IntKind.u32.bits = m from e2, e3]; rfl
/-- a uint64, or an int that is not negative, shifted to the right -/
theorem y_shr {p : Nat} {q : Int} {k k' : IntKind} (hx : evO F x = some (.int k (p : Int)) := by rfl) (hy : evO F y = some (.int k' q) := by rfl) (h0 : 0 ≤ q := by omega) (h1 : q ≤ k.bits := by (simp only [IntKind.bits]; omega)) :
    Y P n D W Bo ⟨d, .binOp .shr ta x y tb, ty, ps, af, g⟩ F l (.int k ((p / 2 ^ q.toNat : Nat) : Int)) :=
  .mk (by simp) fun a w ha _ => by
    obtain ⟨m, rfl⟩ := Int.eq_ofNat_of_zero_le h0
    have e2 : min m k.bits = m := by omega
    have e3 : (p : Int).fdiv (2 ^ m) = ((p / 2 ^ m : Nat) : Int) := by
      rw [Int.fdiv_eq_ediv_of_nonneg _ (by exact Int.le_of_lt (Int.pow_pos (by decide)))]; simp
    refine exec_bin P w w _ _ _ _ _ _ _ _ _ _ _ _ ⟨by simp, by simp⟩ ?_
    rw [ha.eval hx, ha.eval hy]
    refine (run_shr P w k k' _ m).trans ?_
    rw [e2, e3]; rfl
/-- the same for any int: rounded down -/
theorem y_sar {p : Int} {q : Int} {k k' : IntKind} (hx : evO F x = some (.int k p) := by rfl) (hy : evO F y = some (.int k' q) := by rfl) (h0 : 0 ≤ q := by omega) (h1 : q ≤ k.bits := by (simp only [IntKind.bits]; omega)) :
    Y P n D W Bo ⟨d, .binOp .shr ta x y tb, ty, ps, af, g⟩ F l (.int k (p / 2 ^ q.toNat)) :=
  .mk (by simp) fun a w ha _ => by
    obtain ⟨m, rfl⟩ := Int.eq_ofNat_of_zero_le h0
    have e2 : min m k.bits = m := by omega
    have e3 : p.fdiv (2 ^ m) = p / 2 ^ m := Int.fdiv_eq_ediv_of_nonneg _ (by exact Int.le_of_lt (Int.pow_pos (by decide)))
    refine exec_bin P w w _ _ _ _ _ _ _ _ _ _ _ _ ⟨by simp, by simp⟩ ?_
    rw [ha.eval hx, ha.eval hy]
    refine (run_shr P w k k' _ m).trans ?_
    rw [e2, e3]; rfl
/-- by a constant -/
theorem y_shrc (q : Nat) {p : Int} {k k' : IntKind} (hx : evO F x = some (.int k p) := by rfl) (hy : evO F y = some (.int k' (q : Int)) := by rfl) (h1 : q ≤ k.bits := by decide) :
    Y P n D W Bo ⟨d, .binOp .shr ta x y tb, ty, ps, af, g⟩ F l (.int k (p / 2 ^ q)) := by
  have := y_sar (P := P) (n := n) (D := D) (W := W) (Bo := Bo) (l := l) (d := d) (ty := ty) (ps := ps) (af := af) (g := g) (ta := ta) (tb := tb) hx hy (by omega) (by omega)
  rwa [Int.toNat_natCast] at this
/-- an int or a uint64 shifted to the left, where nothing is lost -/
theorem y_shl {p : Int} {q : Int} {k k' : IntKind} (hx : evO F x = some (.int k p) := by rfl) (hy : evO F y = some (.int k' q) := by rfl) (h0 : 0 ≤ q := by omega) (h1 : q ≤ k.bits := by (simp only [IntKind.bits]; omega)) (hw : k.wrap (p * 2 ^ q.toNat) = p * 2 ^ q.toNat) :
    Y P n D W Bo ⟨d, .binOp .shl ta x y tb, ty, ps, af, g⟩ F l (.int k (p * 2 ^ q.toNat)) :=
  .mk (by simp) fun a w ha _ => by
    obtain ⟨m, rfl⟩ := Int.eq_ofNat_of_zero_le h0
    have e2 : min m k.bits = m := by omega
    rw [Int.toNat_natCast] at hw ⊢
    refine exec_bin P w w _ _ _ _ _ _ _ _ _ _ _ _ ⟨by simp, by simp⟩ ?_
    rw [ha.eval hx, ha.eval hy]
    refine (run_shl P w k k' _ m).trans ?_
    rw [e2, hw]

/-! conversions -/
theorem y_cvn {k : IntKind} {tb' : Bool} [hu : HU P tb (.int k)] [ha' : HT P ta tb'] {p : Int} {k' : IntKind} (hx : evO F x = some (.int k' p) := by rfl) (hw : k.wrap p = p := by first | exact wrap_i64 (by unfold R64; omega) | exact wrap_u64 (by omega) (by omega)) : Y P n D W Bo ⟨d, .convert ta tb x, ty, ps, af, g⟩ F l (.int k p) :=
  .mk (by simp) fun a w ha _ => by
    simp [execOp, ha.eval hx, convert, run_underlying hu.h, run_underlying ha'.h.choose_spec.1, Conv.intToInt, hw]
/-- an int to a byte -/
theorem y_cv8 [hu : HU P tb (.int .u8)] {tb' : Bool} [ha' : HT P ta tb'] {p : Int} {k' : IntKind} (hx : evO F x = some (.int k' p) := by rfl) : Y P n D W Bo ⟨d, .convert ta tb x, ty, ps, af, g⟩ F l (B (UInt8.ofNat (p % 256).toNat)) :=
  .mk (by simp) fun a w ha _ => by
    have h0 := Int.emod_nonneg p (show (256 : Int) ≠ 0 by decide)
    have h1 := Int.emod_lt_of_pos p (show (0 : Int) < 256 by decide)
    have e : (((UInt8.ofNat (p % 256).toNat).toNat : Nat) : Int) = p % 256 := by
      simp; omega
    simp only [execOp, ha.eval hx, convert, run_underlying hu.h, run_underlying ha'.h.choose_spec.1, Conv.intToInt, wrap_u8, Sem.run_bind, Result.andThen_ok, Sem.run_pure]
    exact congrArg (fun z => Result.ok (Next.value (.int .u8 z)) w) e.symm
/-- a byte to a word -/
theorem y_cv32 [hu : HU P tb (.int .u32)] {tb' : Bool} [ha' : HT P ta tb'] {p : UInt8} (hx : evO F x = some (B p) := by rfl) : Y P n D W Bo ⟨d, .convert ta tb x, ty, ps, af, g⟩ F l (W32 p.toUInt32) :=
  .mk (by simp) fun a w ha _ => by
    have h := p.toNat_lt
    have e : (p.toNat : Int) % 4294967296 = (p.toUInt32.toNat : Int) := by simp; omega
    simp only [execOp, ha.eval hx, convert, run_underlying hu.h, run_underlying ha'.h.choose_spec.1, Conv.intToInt, wrap_u32, Sem.run_bind, Result.andThen_ok, Sem.run_pure]
    exact congrArg (fun z => Result.ok (Next.value (.int .u32 z)) w) e
/-- a name for the same string -/
theorem y_cvs [hu : HU P tb .string] [ha' : HU P ta .string] {s : ByteArray} (hx : evO F x = some (.string s) := by rfl) : Y P n D W Bo ⟨d, .convert ta tb x, ty, ps, af, g⟩ F l (.string s) :=
  .mk (by simp) fun a w ha _ => by
    simp [execOp, ha.eval hx, convert, run_underlying hu.h, run_underlying ha'.h]

end
end Eng
