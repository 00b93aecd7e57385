/- Further rules of the walk. -/
import Derived.Test.YtjfiggbgpplopaaDoorDraw
namespace Eng
open Go Go.RowKit
section
variable {r : Option Nat} {P : Program} {n : Nat} {D : List Deferred} {W : World} {Bo : List Nat} {F G : List (Nat × Value)} {l l2 : SH} {c c1 c2 c3 : Code} {Q Q' : Exit → Act → World → Prop}

/-- ways that come together: what is known from there on is the same -/
def Jn (n : Nat) (D : List Deferred) (W : World) (Bo : List Nat) (G : List (Nat × Value)) (l2 : SH) : Act → World → Prop := fun a w => Fr n G D a ∧ St W Bo w l2

theorem c_join (G : List (Nat × Value)) (l2 : SH) (h1 : CP r P n D W Bo c1 (Exit.then (Jn n D W Bo G l2) Q) F l) (h2 : CP r P n D W Bo c2 Q G l2) : CP r P n D W Bo (.seq c1 c2) Q F l :=
  c_seq fun a w ha hw => wpIn_mono (h1 a w ha hw) fun e a' w' q => by
    cases e with
    | normal => exact h2 a' w' q.1 q.2
    | exit id => exact q
    | goto l => exact q
    | ret => exact q
    | panic ch => exact q
    | outgrown => exact q
theorem q_join (hs : Sub F G) (hl : l2.Sublist l) : QP n D W Bo (Exit.then (Jn n D W Bo G l2) Q) .normal F l := fun _ _ ha hw => ⟨ha.weaken hs, hw.sub hl⟩
end

theorem bits8 (p q : UInt8) (f : BitVec 8 → BitVec 8 → BitVec 8) (r : UInt8) (h : f p.toBitVec q.toBitVec = r.toBitVec) :
    IntKind.u8.wrap ((f (BitVec.ofInt 8 (p.toNat : Int)) (BitVec.ofInt 8 (q.toNat : Int))).toNat : Int) = (r.toNat : Int) := by
  have e : ∀ x : UInt8, BitVec.ofInt 8 (x.toNat : Int) = x.toBitVec := by
    intro x; rw [BitVec.ofInt_natCast]; exact BitVec.eq_of_toNat_eq (by simp)
  rw [e, e, h, wrap_u8]
  have := r.toBitVec.isLt
  show ((r.toNat : Int)) % 256 = _
  have h2 : r.toNat < 256 := this
  omega

section
variable {r : Option Nat} {P : Program} {n : Nat} {D : List Deferred} {W : World} {Bo : List Nat} {F : List (Nat × Value)} {l l' : SH}
  {d : Option Tmp} {dd : Nat} {ty : TypeId} {ps : String} {af : Array Edge} {g : Option (Nat × Bool)} {x y z : Operand} {v u : Value} {ta tb t e : TypeId}
  {Q : Exit → Act → World → Prop} {ops : Array Oper} {rest : List Oper} {td : TypeDesc} {c : Code}

theorem y_xor8 {p q : UInt8} (hx : evO F x = some (B p) := by rfl) (hy : evO F y = some (B q) := by rfl) : Y P n D W Bo ⟨d, .binOp .xor ta x y tb, ty, ps, af, g⟩ F l (B (p ^^^ q)) :=
  .mk (by simp) fun a w ha _ => by
    have h := bits8 p q (· ^^^ ·) (p ^^^ q) rfl
    simp only [execOp, ha.eval hx, ha.eval hy, eqGuard, binOp]
    show Result.ok (Next.value (.int .u8 (IntKind.u8.wrap _))) w = _
    exact congrArg (fun z => Result.ok (Next.value (.int .u8 z)) w) h
theorem y_rem64 {p q : Nat} (hx : evO F x = some (U p) := by rfl) (hy : evO F y = some (U q) := by rfl) (h1 : 0 < q := by omega) (hp : p < 18446744073709551616 := by omega) : Y P n D W Bo ⟨d, .binOp .rem ta x y tb, ty, ps, af, g⟩ F l (U (p % q)) :=
  .mk (by simp) fun a w ha _ => by
    have h5 : q ≠ 0 := by omega
    have h6 : IntKind.u64.wrap ((p : Int) % (q : Int)) = ((p % q : Nat) : Int) := by
      rw [← Int.natCast_emod]
      exact wrap_u64 (by omega) (by have := Nat.mod_le p q; omega)
    simp [execOp, ha.eval hx, ha.eval hy, eqGuard, binOp, Op.intDiv, h5, Int.tmod_eq_emod_of_nonneg]
theorem y_ori {p q : Nat} (hx : evO F x = some (I (p : Int)) := by rfl) (hy : evO F y = some (I (q : Int)) := by rfl)
    (hp : p < 4611686018427387904 := by omega) (hq : q < 4611686018427387904 := by omega) :
    Y P n D W Bo ⟨d, .binOp .or ta x y tb, ty, ps, af, g⟩ F l (I ((p ||| q : Nat) : Int)) :=
  y_orn hx hy (by simp only [IntKind.bits]; omega) (by simp only [IntKind.bits]; omega)
    (by have := Nat.or_lt_two_pow (n := 62) hp hq; exact wrap_i64 (by unfold R64; omega))

/-- what is known of a slice that owns its memory -/
theorem row_fact {w : World} (hw : St W Bo w l) {a : Option Addr} {cc s k : Nat} {xs : List Value} (hm : Res.row a cc e s k xs ∈ l) : k ≤ cc ∧ cc ≤ maxLen := by
  obtain ⟨_, h2, h3⟩ := (hw.own _ hm).1
  refine ⟨h2, ?_⟩
  rcases h3 with ⟨_, rfl⟩ | ⟨_, _, _, _, h4, _⟩
  · exact Nat.zero_le _
  · exact h4
theorem c_row {a : Option Addr} {cc s k : Nat} {xs : List Value} (h : k ≤ cc → cc ≤ maxLen → CP r P n D W Bo c Q F l) (hm : Res.row a cc e s k xs ∈ l := by repeat (first | exact .head _ | apply List.Mem.tail)) : CP r P n D W Bo c Q F l :=
  fun a w ha hw => h (row_fact hw hm).1 (row_fact hw hm).2 a w ha hw
theorem s_row {a : Option Addr} {cc s k : Nat} {xs : List Value} (h : k ≤ cc → cc ≤ maxLen → LP r P n D W Bo ops Q rest F l) (hm : Res.row a cc e s k xs ∈ l := by repeat (first | exact .head _ | apply List.Mem.tail)) : LP r P n D W Bo ops Q rest F l :=
  fun a w ha hw => h (row_fact hw hm).1 (row_fact hw hm).2 a w ha hw

theorem d_nf {op : Op} {p : Prop} [dp : Decidable p] (hy : Y P n D W Bo ⟨some dd, op, ty, ps, af, g⟩ F l (.bool (!decide p)))
    (hp : p) (h1 : DP P n D W Bo ops Q rest ((dd, .bool false) :: F) l) (hn : Nat.blt dd n = true := by rfl) (hg : Wn ops F g := by first | exact .none | exact .some rfl rfl) : DP P n D W Bo ops Q (⟨some dd, op, ty, ps, af, g⟩ :: rest) F l :=
  d_y hy (by rw [decide_eq_true hp]; exact h1) hn hg
theorem d_nt {op : Op} {p : Prop} [dp : Decidable p] (hy : Y P n D W Bo ⟨some dd, op, ty, ps, af, g⟩ F l (.bool (!decide p)))
    (hp : ¬ p) (h1 : DP P n D W Bo ops Q rest ((dd, .bool true) :: F) l) (hn : Nat.blt dd n = true := by rfl) (hg : Wn ops F g := by first | exact .none | exact .some rfl rfl) : DP P n D W Bo ops Q (⟨some dd, op, ty, ps, af, g⟩ :: rest) F l :=
  d_y hy (by rw [decide_eq_false hp]; exact h1) hn hg
theorem d_kt {op : Op} {p : Prop} [dp : Decidable p] (hy : Y P n D W Bo ⟨some dd, op, ty, ps, af, g⟩ F l (.bool (decide p)))
    (hp : p) (h1 : DP P n D W Bo ops Q rest ((dd, .bool true) :: F) l) (hn : Nat.blt dd n = true := by rfl) (hg : Wn ops F g := by first | exact .none | exact .some rfl rfl) : DP P n D W Bo ops Q (⟨some dd, op, ty, ps, af, g⟩ :: rest) F l :=
  d_y hy (by rw [decide_eq_true hp]; exact h1) hn hg
theorem d_kf {op : Op} {p : Prop} [dp : Decidable p] (hy : Y P n D W Bo ⟨some dd, op, ty, ps, af, g⟩ F l (.bool (decide p)))
    (hp : ¬ p) (h1 : DP P n D W Bo ops Q rest ((dd, .bool false) :: F) l) (hn : Nat.blt dd n = true := by rfl) (hg : Wn ops F g := by first | exact .none | exact .some rfl rfl) : DP P n D W Bo ops Q (⟨some dd, op, ty, ps, af, g⟩ :: rest) F l :=
  d_y hy (by rw [decide_eq_false hp]; exact h1) hn hg
end
end Eng
