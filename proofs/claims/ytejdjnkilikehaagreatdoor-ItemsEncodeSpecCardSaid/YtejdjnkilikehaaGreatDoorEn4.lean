/- Joined texts: Prx GfP MaskI PrxI Cha ChaA ChaB ChaC ChaD ChaE ChaF SchI WrA ItP EqI ShA ShB SigA EqS EqC ItA ItB ItC DecP. -/
import Derived.WalkKit
import Derived.TacticsInMore
import Derived.OrdersIn
import Derived.RangeFuncCalls
import Derived.Deep.LoopGhost
import Derived.Deep.Quiet
import Derived.KernelRfl
import Derived.Laws.BytesString
import Derived.Laws.StructEq
import Derived.MapKept
import Derived.Laws.IdiomStrings
import Derived.Recover
import Derived.RangeFuncLeaves
import Derived.ChangeKeysEq
import Derived.Laws.Build
import Derived.Stop.Asserts
import Derived.Maps.RangeRun
import Derived.ProofKit
import Derived.LaidMore
import Derived.LaidHandle
import Derived.OpenShut
import Derived.FnData
import Derived.SizedLaws
import Derived.ChangeMaps5
import Derived.Deep.Slices
import Derived.JoinedOf
import Derived.SevenTiedAt
import Derived.Test.YtejdjnkilikehaaGreatDoorChecked
import Derived.Test.YtejdjnkilikehaaGreatDoorRows
import Derived.Test.YtejdjnkilikehaaGreatDoorCards
import Derived.Test.YtejdjnkilikehaaGreatDoorTie
import Derived.Test.YtejdjnkilikehaaGreatDoorEn3
set_option linter.all false
section
namespace Gf
def prv (a : Int) : Bool := decide (1 ≤ a) && decide (a < 2305843009213688669)
theorem El.r64 {x : Nat} (h : El x) : Eng.R64 (x : Int) := by have h9 := h.lt; unfold Eng.R64; omega
theorem prv_lo {a : Int} (h : a < 1) : prv a = false := by unfold prv; rw [decide_eq_false (show ¬ 1 ≤ a by omega), Bool.false_and]
theorem prv_hi {a : Int} (h : 2305843009213688669 ≤ a) : prv a = false := by unfold prv; rw [decide_eq_false (show ¬ a < 2305843009213688669 by omega), Bool.and_false]
theorem prv_of {x : Nat} (h0 : 0 < x) (h : x < 2305843009213688669) : prv (x : Int) = true := by
  unfold prv
  rw [decide_eq_true (show (1 : Int) ≤ (x : Int) by omega), decide_eq_true (show (x : Int) < 2305843009213688669 by omega)]; rfl
theorem prv_nat {a : Int} (h : prv a = true) : ∃ x : Nat, a = (x : Int) ∧ 0 < x ∧ x < 2305843009213688669 := by
  unfold prv at h
  simp only [Bool.and_eq_true, decide_eq_true_eq] at h
  exact ⟨a.toNat, by omega, by omega, by omega⟩
theorem base_V {k : Nat} (h : k < 2305843009213688669) : expV 4 ((k : Nat) : Int) = ((pp 4 k : Nat) : Int) := by
  rw [expV, show el 4 = true from El.four.el, sc_of h, Int.toNat_natCast]; rfl
theorem base_E {k : Nat} (h : k < 2305843009213688669) : expE 4 ((k : Nat) : Int) = 0 := by rw [expE, show el 4 = true from El.four.el, sc_of h]; rfl
theorem mul_V {x y : Nat} (hx : El x) (hy : El y) : mulV (x : Int) (y : Int) = ((x * y % 4611686018427377339 : Nat) : Int) := by rw [mulV, hx.el, hy.el, Int.toNat_natCast, Int.toNat_natCast]; rfl
theorem mul_E {x y : Nat} (hx : El x) (hy : El y) : mulE (x : Int) (y : Int) = 0 := by rw [mulE, hx.el, hy.el]; rfl
theorem inv_V {x : Nat} (hx : El x) : expV (x : Int) 2305843009213688668 = ((pp x 2305843009213688668 : Nat) : Int) := by
  rw [expV, hx.el, show sc 2305843009213688668 = true from rfl, Int.toNat_natCast, show (2305843009213688668 : Int).toNat = 2305843009213688668 from rfl]; rfl
theorem inv_E {x : Nat} (hx : El x) : expE (x : Int) 2305843009213688668 = 0 := by rw [expE, hx.el, show sc 2305843009213688668 = true from rfl]; rfl
end Gf
namespace Go.Proofs.YtejdjnkilikehaaGreatDoor
open Go Eng Gf Sha Cod
abbrev lbLock : List UInt8 := [108, 111, 99, 107]
abbrev lbMask : List UInt8 := [109, 97, 115, 107]
theorem y_bfail {n : Nat} {D : List Deferred} {W : World} {Bo : List Nat} {F : List (Nat × Value)} {l : SH} {d : Option Tmp} {ty : TypeId} {ps : String} {af : Array Edge} {g : Option (Nat × Bool)} {parts : Array (Nat × Operand)} {vs : List (Nat × Value)} {cs : List Value}
    (hp : evP F parts.toList = some vs := by rfl) (hf : fillL (fun i => (#[(0, 1)] : Array (Nat × Nat))[i]?) [I 0] vs = some cs := by rfl) :
    Y Tryz.prog n D W Bo ⟨d, .build 172 parts, ty, ps, af, g⟩ F l (.agg cs.toArray) :=
  y_blds Tryz.underlying172 (fun w => by kernel_rfl) hp hf
theorem y_bdir {n : Nat} {D : List Deferred} {W : World} {Bo : List Nat} {F : List (Nat × Value)} {l : SH} {d : Option Tmp} {ty : TypeId} {ps : String} {af : Array Edge} {g : Option (Nat × Bool)} {parts : Array (Nat × Operand)} {vs : List (Nat × Value)} {cs : List Value}
    (hp : evP F parts.toList = some vs := by rfl) (hf : fillL (fun i => (#[(0, 1), (1, 1)] : Array (Nat × Nat))[i]?) [.nilFunc, .nilFunc] vs = some cs := by rfl) :
    Y Tryz.prog n D W Bo ⟨d, .build 134 parts, ty, ps, af, g⟩ F l (.agg cs.toArray) :=
  y_blds Tryz.underlying134 (fun w => by kernel_rfl) hp hf
theorem y_bcap {n : Nat} {D : List Deferred} {W : World} {Bo : List Nat} {F : List (Nat × Value)} {l : SH} {d : Option Tmp} {ty : TypeId} {ps : String} {af : Array Edge} {g : Option (Nat × Bool)} {parts : Array (Nat × Operand)} {vs : List (Nat × Value)} {cs : List Value}
    (hp : evP F parts.toList = some vs := by rfl) (hf : fillL (fun i => (#[(0, 1), (1, 1), (2, 32)] : Array (Nat × Nat))[i]?) (I 0 :: I 0 :: bs (List.replicate 32 0)) vs = some cs := by rfl) :
    Y Tryz.prog n D W Bo ⟨d, .build 32 parts, ty, ps, af, g⟩ F l (.agg cs.toArray) :=
  y_blds Tryz.underlying32 (fun w => by kernel_rfl) hp hf
theorem fillC {a b : Int} {p : List UInt8} (h : p.length = 32) : fillL (fun i => (#[(0, 1), (1, 1), (2, 32)] : Array (Nat × Nat))[i]?) (I 0 :: I 0 :: bs (List.replicate 32 0)) [(0, I a), (1, I b), (2, .agg (bs p).toArray)] = some (I a :: I b :: bs p) := by
  have e1 : fillL (fun i => (#[(0, 1), (1, 1), (2, 32)] : Array (Nat × Nat))[i]?) (I 0 :: I 0 :: bs (List.replicate 32 0)) [(0, I a), (1, I b), (2, .agg (bs p).toArray)] = fillL (fun i => (#[(0, 1), (1, 1), (2, 32)] : Array (Nat × Nat))[i]?) (I a :: I b :: bs (List.replicate 32 0)) [(2, .agg (bs p).toArray)] := rfl
  rw [e1]
  unfold fillL
  have e2 : (Value.cells (.agg (bs p).toArray)).toList = bs p := rfl
  simp only [e2, bs_length, h, show (#[(0, 1), (1, 1), (2, 32)] : Array (Nat × Nat))[2]? = some (2, 32) from rfl, List.length_cons, List.length_replicate]
  rw [show (Nat.beq 32 32 && Nat.ble (2 + 32) (32 + 1 + 1)) = true from rfl]
  simp only [cond_true]
  have e3 : List.drop (2 + 32) (I a :: I b :: bs (List.replicate 32 0)) = [] := List.drop_eq_nil_of_le (by simp [bs_length])
  rw [e3, List.append_nil]
  rfl
theorem one_cap {a b : Int} {p : List UInt8} : ∀ u ∈ (I a :: I b :: bs p).toArray.toList, u.oneCell' = true := by
  intro u hu
  have hu' : u ∈ I a :: I b :: bs p := hu
  rcases List.mem_cons.1 hu' with rfl | h
  · rfl
  · rcases List.mem_cons.1 h with rfl | h
    · rfl
    · exact bs_one h
theorem y_eqni {n : Nat} {D : List Deferred} {W : World} {Bo : List Nat} {F : List (Nat × Value)} {l : SH} {d : Option Tmp} {ty : TypeId} {ps : String} {af : Array Edge} {g : Option (Nat × Bool)} {x : Operand} {c : Value} {tb : TypeId}
    (hx : evO F x = some .nilIface := by rfl) (hy : evO F (.const c) = some .nilIface := by rfl) : Y Tryz.prog n D W Bo ⟨d, .binOp .eql 20 x (.const c) tb, ty, ps, af, g⟩ F l (.bool true) :=
  .mk (by simp) fun a w ha _ => by
    have e1 : eqGuard .eql 20 x (.const c) .nilIface .nilIface = pure () := by simp [eqGuard]
    have e2 : (binOp .eql 20 .nilIface .nilIface).run Tryz.prog w = .ok (.bool true) w := by kernel_rfl
    have h1 := ha.eval hx
    have h2 := ha.eval hy
    simp only [execOp, h1, h2, e1, Sem.run_bind, Sem.run_pure, e2, Result.andThen_ok]
theorem y_eqnf {n : Nat} {D : List Deferred} {W : World} {Bo : List Nat} {F : List (Nat × Value)} {l : SH} {d : Option Tmp} {ty : TypeId} {ps : String} {af : Array Edge} {g : Option (Nat × Bool)} {x y : Operand} {tb : TypeId} {T : TypeId} {v : Value}
    (hx : evO F x = some (.iface T v) := by rfl) (hy : evO F y = some .nilIface := by rfl) : Y Tryz.prog n D W Bo ⟨d, .binOp .eql 20 x y tb, ty, ps, af, g⟩ F l (.bool false) :=
  .mk (by simp) fun a w ha _ => by simp only [execOp, ha.eval hx, ha.eval hy]; kernel_rfl
theorem y_tafail {n : Nat} {D : List Deferred} {W : World} {Bo : List Nat} {F : List (Nat × Value)} {l : SH} {d : Option Tmp} {ty : TypeId} {ps : String} {af : Array Edge} {g : Option (Nat × Bool)} {x : Operand} {v : Value}
    (hx : evO F x = some (.iface 172 v) := by rfl) : Y Tryz.prog n D W Bo ⟨d, .typeAssert x 20 172 true, ty, ps, af, g⟩ F l (.tuple #[v, .bool true]) :=
  .mk (by simp) fun a w ha _ => by simp only [execOp, ha.eval hx]; kernel_rfl
theorem caught_nil (w : World) (b : Nat) : Pure Tryz.prog 94 [.nilIface, .pointer (some ⟨b, 0, none⟩)] w (.tuple #[]) := by
  refine enter Tryz.func94 Tryz.ntmps94 ?_
  refine c_seq <| c_reg <| s_y y_mv <| s_nil <| q_then <| c_block <| c_seq <| c_reg <| s_y y_eqni <| s_nil <| q_then <| c_t <| c_reg <| s_y y_as <| s_nil <| q_nb <| ?_
  exact ret0 Tryz.results94 (fun w' hw => ⟨rfl, hw⟩) _ (.inr rfl)
theorem caught_fail (w : World) (b : Nat) (z c : Int) (hp : (Res.blk b (.cells #[I z] 37 (0, 0))).holds w) :
    Gives Tryz.prog 94 [.iface 172 (.agg #[I c]), .pointer (some ⟨b, 0, none⟩)] w (keys [.blk b (.cells #[I z] 37 (0, 0))]) (fun _ : Unit => .tuple #[]) (fun _ => [.blk b (.cells #[I c] 37 (0, 0))]) (fun _ => True) := by
  refine enterR Tryz.func94 Tryz.ntmps94 hp ?_
  refine c_seq <| c_reg <| s_y y_mv <| s_nil <| q_then <| c_block <| c_seq <| c_reg <| s_y y_eqnf <| s_nil <| q_then <| c_f <| c_seq <| c_reg <| s_y y_tafail <| s_y y_ext <| s_y y_ext <| s_nil <| q_then <| c_t <| c_seq <| c_reg <| s_alloc fun b5 => s_sta (b := b5) (vs := #[I c]) (cs := #[I 0]) (h1 := by intro u hu; simp at hu; subst hu; rfl) (hl := rfl) (hs1 := rfl) ?_
  refine s_nil <| q_then <| c_reg <| s_y y_mv <| s_y y_fa <| s_y (y_ld (b := b5) (v := I c)) <| s_y y_nc <| s_st (b := b) (v := I c) (cs := #[I z]) (hl := Nat.zero_lt_one) ?_
  refine s_nil <| q_nb <| ?_
  exact ret0 Tryz.results94 (fun w' hw => ⟨(), trivial, rfl, hw.sub (.cons _ (.refl _))⟩) _ (.inr rfl)
theorem isPrivate_yes (w : World) (x : Nat) (h0 : 0 < x) (h : x < 2305843009213688669) : Pure Tryz.prog 96 [I x] w (.bool true) := by
  refine enter Tryz.func96 Tryz.ntmps96 ?_
  refine c_seq <| c_reg <| s_y y_as <| s_nil <| q_then <| c_seq <| c_reg <| s_y y_mv <| s_kt (y_geq (p := (x : Int)) (q := 1)) (by omega) <| s_y y_mv <| s_y y_mv <| s_kt (y_lss (p := (x : Int)) (q := 2305843009213688669)) (by omega) <| s_y y_pk <| s_y y_as <| s_nil <| q_then <| c_ret <| ?_
  exact ret1 Tryz.results96 rv_t fun w' hw => ⟨rfl, hw.sub (List.nil_sublist _)⟩
theorem isPrivate_lo (w : World) (a : Int) (h : a < 1) : Pure Tryz.prog 96 [I a] w (.bool false) := by
  refine enter Tryz.func96 Tryz.ntmps96 ?_
  refine c_seq <| c_reg <| s_y y_as <| s_nil <| q_then <| c_seq <| c_reg <| s_y y_mv <| s_kf (y_geq (p := a) (q := 1)) (by omega) <| s_y y_mv <| s_no <| s_no <| s_y y_pk <| s_y y_as <| s_nil <| q_then <| c_ret <| ?_
  exact ret1 Tryz.results96 rv_t fun w' hw => ⟨rfl, hw.sub (List.nil_sublist _)⟩
theorem isPrivate_hi (w : World) (a : Int) (h : 2305843009213688669 ≤ a) : Pure Tryz.prog 96 [I a] w (.bool false) := by
  refine enter Tryz.func96 Tryz.ntmps96 ?_
  refine c_seq <| c_reg <| s_y y_as <| s_nil <| q_then <| c_seq <| c_reg <| s_y y_mv <| s_kt (y_geq (p := a) (q := 1)) (by omega) <| s_y y_mv <| s_y y_mv <| s_kf (y_lss (p := a) (q := 2305843009213688669)) (by omega) <| s_y y_pk <| s_y y_as <| s_nil <| q_then <| c_ret <| ?_
  exact ret1 Tryz.results96 rv_t fun w' hw => ⟨rfl, hw.sub (List.nil_sublist _)⟩
theorem isPrivate_ok (w : World) (a : Int) : Pure Tryz.prog 96 [I a] w (.bool (prv a)) := by
  by_cases h1 : a < 1
  · rw [prv_lo h1]; exact isPrivate_lo w a h1
  by_cases h2 : 2305843009213688669 ≤ a
  · rw [prv_hi h2]; exact isPrivate_hi w a h2
  obtain ⟨x, rfl⟩ : ∃ x : Nat, a = (x : Int) := ⟨a.toNat, by omega⟩
  rw [prv_of (by omega) (by omega)]
  exact isPrivate_yes w x (by omega) (by omega)
theorem demand_ok (w : World) (c : Int) : Pure Tryz.prog 95 [.bool true, I c] w (.tuple #[]) := by
  refine enter Tryz.func95 Tryz.ntmps95 ?_
  refine c_seq <| c_reg <| s_y y_mv <| s_y (v := .bool false) (y_not (b := true)) <| s_nil <| q_then <| c_f <| c_skip <| ?_
  exact ret0 Tryz.results95 (fun w' hw => ⟨rfl, hw⟩) _ (.inr rfl)
theorem demand_dies (w : World) (c : Int) : Dies Tryz.prog 95 [.bool false, I c] w (.iface 172 (.agg #[I c])) := by
  refine enter Tryz.func95 Tryz.ntmps95 ?_
  refine c_seq <| c_reg <| s_y y_mv <| s_y (v := .bool true) (y_not (b := false)) <| s_nil <| q_then <| c_t <| c_reg <| s_y y_mv <| s_y (y_bfail (cs := [I c])) <| s_y y_mki <| s_panic <| ?_
  exact Eng.die fun w' hw => ⟨rfl, hw⟩
theorem must_ok (w : World) (n : Int) : Pure Tryz.prog 97 [I n, I 0] w (I n) := by
  refine enter Tryz.func97 Tryz.ntmps97 ?_
  refine c_seq <| c_reg <| s_y y_as <| s_nil <| q_then <| c_seq <| c_seq <| c_reg <| s_y y_mv <| s_nf (y_neq (p := 0) (q := 0)) (by omega) <| s_nil <| q_then <| c_f <| c_skip <| q_then <| c_seq <| c_reg <| s_y y_mv <| s_y y_as <| s_nil <| q_then <| c_ret <| ?_
  exact ret1 Tryz.results97 rv_t fun w' hw => ⟨rfl, hw.sub (List.nil_sublist _)⟩
theorem rcLock_R (w : World) (b : Nat) : GivesD Tryz.prog 166 [.pointer (some ⟨b, 0, none⟩)] .returning w [] .returning [] :=
  recov (kc := 94) Tryz.func166 rfl Tryz.ntmps166 Tryz.results166 (.inl ⟨rfl, rfl, rfl⟩) ((caught_nil w b).mono fun _ _ h => ⟨(), trivial, h.1, h.2⟩)
theorem rcOpen_R (w : World) (b : Nat) : GivesD Tryz.prog 131 [.pointer (some ⟨b, 0, none⟩)] .returning w [] .returning [] :=
  recov (kc := 94) Tryz.func131 rfl Tryz.ntmps131 Tryz.results131 (.inl ⟨rfl, rfl, rfl⟩) ((caught_nil w b).mono fun _ _ h => ⟨(), trivial, h.1, h.2⟩)
theorem rcOpen_P (w : World) (b : Nat) (z c : Int) (hp : (Res.blk b (.cells #[I z] 37 (0, 0))).holds w) : GivesD Tryz.prog 131 [.pointer (some ⟨b, 0, none⟩)] (.panicking [{ v := .iface 172 (.agg #[I c]), recovered := false }]) w (keys [.blk b (.cells #[I z] 37 (0, 0))]) (.panicking [{ v := .iface 172 (.agg #[I c]), recovered := true }]) [.blk b (.cells #[I c] 37 (0, 0))] :=
  recov (kc := 94) Tryz.func131 rfl Tryz.ntmps131 Tryz.results131 (.inr ⟨_, rfl, rfl, rfl⟩) (caught_fail w b z c hp)
theorem capCheck_yes (w : World) (x y : Nat) (p : List UInt8) (hx : El x) (hy : El y) (hp : p.length = 32) : Pure Tryz.prog 101 [.agg (I x :: I y :: bs p).toArray] w (I 0) := by
  refine enter Tryz.func101 Tryz.ntmps101 ?_
  refine c_seq <| c_reg <| s_box rfl fun b1 => s_y y_as <| s_nil <| q_then <| c_seq <| c_seq <| c_reg <| s_y y_fa <| s_y (y_ld (b := b1) (v := I (x : Int))) <| s_pure (fun w' hw => gCheck_yes w' x hx) <| s_nf (y_neq (p := 0) (q := 0)) (by omega) <| s_y y_mv <| s_y y_fa <| s_y (y_ld (b := b1) (v := I (y : Int))) <| s_pure (fun w' hw => gCheck_yes w' y hy) <| s_nf (y_neq (p := 0) (q := 0)) (by omega) <| s_y y_pk <| s_nil <| q_then <| c_f <| c_skip <| q_then <| c_seq <| c_reg <| s_y y_as <| s_nil <| q_then <| c_ret <| ?_
  exact ret1 Tryz.results101 rv_t fun w' hw => ⟨rfl, hw.sub (List.nil_sublist _)⟩
theorem capCheck_no1 (w : World) (a b : Int) (p : List UInt8) (ha : el a = false) (hp : p.length = 32) : Pure Tryz.prog 101 [.agg (I a :: I b :: bs p).toArray] w (I 110) := by
  refine enter Tryz.func101 Tryz.ntmps101 ?_
  refine c_seq <| c_reg <| s_box rfl fun b1 => s_y y_as <| s_nil <| q_then <| c_seq <| c_seq <| c_reg <| s_y y_fa <| s_y (y_ld (b := b1) (v := I a)) <| s_pure (fun w' hw => gCheck_no w' a ha) <| s_nt (y_neq (p := 40) (q := 0)) (by omega) <| s_y y_mv <| s_no <| s_no <| s_no <| s_no <| s_y y_pk <| s_nil <| q_then <| c_t <| c_seq <| c_reg <| s_y y_as <| s_nil <| q_then <| c_ret <| q_ret <| ?_
  exact ret1 Tryz.results101 rv_t fun w' hw => ⟨rfl, hw.sub (List.nil_sublist _)⟩
theorem capCheck_no2 (w : World) (x : Nat) (b : Int) (p : List UInt8) (hx : El x) (hb : el b = false) (hp : p.length = 32) : Pure Tryz.prog 101 [.agg (I x :: I b :: bs p).toArray] w (I 110) := by
  refine enter Tryz.func101 Tryz.ntmps101 ?_
  refine c_seq <| c_reg <| s_box rfl fun b1 => s_y y_as <| s_nil <| q_then <| c_seq <| c_seq <| c_reg <| s_y y_fa <| s_y (y_ld (b := b1) (v := I (x : Int))) <| s_pure (fun w' hw => gCheck_yes w' x hx) <| s_nf (y_neq (p := 0) (q := 0)) (by omega) <| s_y y_mv <| s_y y_fa <| s_y (y_ld (b := b1) (v := I b)) <| s_pure (fun w' hw => gCheck_no w' b hb) <| s_nt (y_neq (p := 40) (q := 0)) (by omega) <| s_y y_pk <| s_nil <| q_then <| c_t <| c_seq <| c_reg <| s_y y_as <| s_nil <| q_then <| c_ret <| q_ret <| ?_
  exact ret1 Tryz.results101 rv_t fun w' hw => ⟨rfl, hw.sub (List.nil_sublist _)⟩
theorem capCheck_no (w : World) (a b : Int) (p : List UInt8) (hp : p.length = 32) (h : (el a && el b) = false) : Pure Tryz.prog 101 [.agg (I a :: I b :: bs p).toArray] w (I 110) := by
  cases ha : el a with
  | false => exact capCheck_no1 w a b p ha hp
  | true =>
    rw [ha, Bool.true_and] at h
    obtain ⟨x, rfl, h0, h1, h2⟩ := el_nat ha
    exact capCheck_no2 w x b p ⟨h0, h1, h2⟩ h hp
theorem r11_Check_yes (w : World) (x y : Nat) (p : List UInt8) (hx : El x) (hy : El y) (hp : p.length = 32) : Pure Tryz.prog 128 [.agg (I x :: I y :: bs p).toArray] w (I 0) := by
  refine enter Tryz.func128 Tryz.ntmps128 ?_
  refine c_seq <| c_reg <| s_box rfl fun b1 => s_y y_as <| s_nil <| q_then <| c_seq <| c_seq <| c_reg <| s_y y_fa <| s_y (y_ld (b := b1) (v := I (x : Int))) <| s_pure (fun w' hw => rCheck_yes w' x hx) <| s_nf (y_neq (p := 0) (q := 0)) (by omega) <| s_y y_mv <| s_y y_fa <| s_y (y_ld (b := b1) (v := I (y : Int))) <| s_pure (fun w' hw => rCheck_yes w' y hy) <| s_nf (y_neq (p := 0) (q := 0)) (by omega) <| s_y y_pk <| s_nil <| q_then <| c_f <| c_skip <| q_then <| c_seq <| c_reg <| s_y y_as <| s_nil <| q_then <| c_ret <| ?_
  exact ret1 Tryz.results128 rv_t fun w' hw => ⟨rfl, hw.sub (List.nil_sublist _)⟩
theorem r11_Check_no1 (w : World) (a b : Int) (p : List UInt8) (ha : el a = false) (hp : p.length = 32) : Pure Tryz.prog 128 [.agg (I a :: I b :: bs p).toArray] w (I 110) := by
  refine enter Tryz.func128 Tryz.ntmps128 ?_
  refine c_seq <| c_reg <| s_box rfl fun b1 => s_y y_as <| s_nil <| q_then <| c_seq <| c_seq <| c_reg <| s_y y_fa <| s_y (y_ld (b := b1) (v := I a)) <| s_pure (fun w' hw => rCheck_no w' a ha) <| s_nt (y_neq (p := 40) (q := 0)) (by omega) <| s_y y_mv <| s_no <| s_no <| s_no <| s_no <| s_y y_pk <| s_nil <| q_then <| c_t <| c_seq <| c_reg <| s_y y_as <| s_nil <| q_then <| c_ret <| q_ret <| ?_
  exact ret1 Tryz.results128 rv_t fun w' hw => ⟨rfl, hw.sub (List.nil_sublist _)⟩
theorem r11_Check_no2 (w : World) (x : Nat) (b : Int) (p : List UInt8) (hx : El x) (hb : el b = false) (hp : p.length = 32) : Pure Tryz.prog 128 [.agg (I x :: I b :: bs p).toArray] w (I 110) := by
  refine enter Tryz.func128 Tryz.ntmps128 ?_
  refine c_seq <| c_reg <| s_box rfl fun b1 => s_y y_as <| s_nil <| q_then <| c_seq <| c_seq <| c_reg <| s_y y_fa <| s_y (y_ld (b := b1) (v := I (x : Int))) <| s_pure (fun w' hw => rCheck_yes w' x hx) <| s_nf (y_neq (p := 0) (q := 0)) (by omega) <| s_y y_mv <| s_y y_fa <| s_y (y_ld (b := b1) (v := I b)) <| s_pure (fun w' hw => rCheck_no w' b hb) <| s_nt (y_neq (p := 40) (q := 0)) (by omega) <| s_y y_pk <| s_nil <| q_then <| c_t <| c_seq <| c_reg <| s_y y_as <| s_nil <| q_then <| c_ret <| q_ret <| ?_
  exact ret1 Tryz.results128 rv_t fun w' hw => ⟨rfl, hw.sub (List.nil_sublist _)⟩
theorem r11_Check_no (w : World) (a b : Int) (p : List UInt8) (hp : p.length = 32) (h : (el a && el b) = false) : Pure Tryz.prog 128 [.agg (I a :: I b :: bs p).toArray] w (I 110) := by
  cases ha : el a with
  | false => exact r11_Check_no1 w a b p ha hp
  | true =>
    rw [ha, Bool.true_and] at h
    obtain ⟨x, rfl, h0, h1, h2⟩ := el_nat ha
    exact r11_Check_no2 w x b p ⟨h0, h1, h2⟩ h hp
theorem Open2_ok (w : World) (b3 b2 x u : Nat) (B : Int) (p : List UInt8) (hu : El u) (hx0 : 0 < x) (hx : x < 2305843009213688669) (hc : Rd w (some ⟨b3, 0, none⟩) (I u :: I B :: bs p)) (h2 : Rd w (some ⟨b2, 0, none⟩) [I x]) : Pure Tryz.prog 132 [.pointer (some ⟨b3, 0, none⟩), .pointer (some ⟨b2, 0, none⟩)] w (I (pp u (qq x 2305843009213688667) : Nat)) := by
  refine enter Tryz.func132 Tryz.ntmps132 ?_
  refine c_seq <| c_reg <| s_y y_as <| s_nil <| q_then <| c_seq <| c_regd <| d_y y_fa <| d_y (y_ldr (a := some ⟨b3, 0, none⟩) (i := 0) (xs := (I (u : Int) :: I B :: bs p)) (v := I (u : Int)) rfl (hr := rdW0 hc)) <| d_y (y_ldr (a := some ⟨b2, 0, none⟩) (i := 0) (xs := [I (x : Int)]) (v := I (x : Int)) rfl (hr := rdW0 h2)) <| d_pure (fun w' hw => f_Inv_yes w' x hx0 hx) <| d_y y_ext <| d_y y_ext <| d_pure (fun w' hw => must_ok w' ((qq x 2305843009213688667 : Nat) : Int)) <| d_pure (fun w' hw => gExp_yes w' u (qq x 2305843009213688667) hu (qq_lt _ _)) <| d_y y_ext <| d_y y_ext <| d_pure (fun w' hw => must_ok w' ((pp u (qq x 2305843009213688667) : Nat) : Int)) <| d_y y_as <| d_nil <| q_then <| c_ret <| ?_
  exact ret1 Tryz.results132 rv_t fun w' hw => ⟨rfl, hw.sub (List.nil_sublist _)⟩
theorem Open3_ok (w : World) (b3 z v : Nat) (A : Int) (p : List UInt8) (hz : El z) (hv : El v) (hc : Rd w (some ⟨b3, 0, none⟩) (I A :: I v :: bs p)) : Pure Tryz.prog 133 [I z, .pointer (some ⟨b3, 0, none⟩)] w (I (v * pp z 2305843009213688668 % 4611686018427377339 : Nat)) := by
  refine enter Tryz.func133 Tryz.ntmps133 ?_
  refine c_seq <| c_reg <| s_y y_as <| s_nil <| q_then <| c_seq <| c_regd <| d_y y_fa <| d_y (y_ldr (a := some ⟨b3, 0, none⟩) (i := 1) (xs := (I A :: I (v : Int) :: bs p)) (v := I (v : Int)) rfl (hr := rdW0 hc)) <| d_y y_mv <| d_pure (fun w' hw => (by have h9 := gInv_ok w' (z : Int); rw [inv_V hz, inv_E hz] at h9; exact h9)) <| d_y y_ext <| d_y y_ext <| d_pure (fun w' hw => must_ok w' ((pp z 2305843009213688668 : Nat) : Int)) <| d_pure (fun w' hw => (by have h9 := gMul_ok w' (v : Int) ((pp z 2305843009213688668 : Nat) : Int); rw [mul_V hv ((hz).pow _), mul_E hv ((hz).pow _)] at h9; exact h9)) <| d_y y_ext <| d_y y_ext <| d_pure (fun w' hw => must_ok w' ((v * (pp z 2305843009213688668) % 4611686018427377339 : Nat) : Int)) <| d_y y_as <| d_nil <| q_then <| c_ret <| ?_
  exact ret1 Tryz.results133 rv_t fun w' hw => ⟨rfl, hw.sub (List.nil_sublist _)⟩
theorem Open_no1 (w : World) (a : Int) (b c : Int) (p : List UInt8) (hp : p.length = 32) (hn : prv a = false) : Pure Tryz.prog 61 [I a, .agg (I b :: I c :: bs p).toArray] w (.tuple #[.agg (bs (List.replicate 32 0)).toArray, I 50]) := by
  refine enterD Tryz.func61 Tryz.ntmps61 ?_
  refine c_seq <| c_reg <| s_box rfl fun b2 => s_box rfl fun b3 => s_alloc fun b4 => s_alloc fun b5 => s_nil <| q_then <| c_seq <| c_reg <| s_y y_func <| s_deferC <| s_nil <| q_then <| c_seq <| c_reg <| s_y (y_ld (b := b2) (v := I a)) <| s_pure (fun w' hw => (by have h9 := isPrivate_ok w' a; rw [hn] at h9; exact h9)) <| s_dies (fun w' hw => demand_dies w' 50) <| q_pt <| ?_
  exact leave_P (fun w' hw => rcOpen_P w' b5 0 50 (hw.own _ (.head _)).1) Tryz.results61 (.refl _) (.cons (rv_ca (b := b4) (cs := (bs (List.replicate 32 0)).toArray) (hl := (hz32 List.length_replicate))) (.cons (rv_cf (b := b5) (v := I 50)) .nil)) fun w' hw => ⟨rfl, hw.sub (List.nil_sublist _)⟩
theorem Open_no2 (w : World) (x : Nat) (b c : Int) (p : List UInt8) (hp : p.length = 32) (hx0 : 0 < x) (hx : x < 2305843009213688669) (hc : (el b && el c) = false) : Pure Tryz.prog 61 [I x, .agg (I b :: I c :: bs p).toArray] w (.tuple #[.agg (bs (List.replicate 32 0)).toArray, I 110]) := by
  refine enterD Tryz.func61 Tryz.ntmps61 ?_
  refine c_seq <| c_reg <| s_box rfl fun b2 => s_box rfl fun b3 => s_alloc fun b4 => s_alloc fun b5 => s_nil <| q_then <| c_seq <| c_reg <| s_y y_func <| s_deferC <| s_nil <| q_then <| c_seq <| c_reg <| s_y (y_ld (b := b2) (v := I (x : Int))) <| s_pure (fun w' hw => isPrivate_yes w' x hx0 hx) <| s_pure (fun w' hw => demand_ok w' 50) <| s_nil <| q_then <| c_seq <| c_reg <| s_y (y_lda (b := b3) (cs := (I b :: I c :: bs p).toArray) (hl := (by simp [bs_length, hp]))) <| s_pure (fun w' hw => capCheck_no w' b c p hp hc) <| s_kf (y_eql (p := 110) (q := 0)) (by omega) <| s_dies (fun w' hw => demand_dies w' 110) <| q_pt <| ?_
  exact leave_P (fun w' hw => rcOpen_P w' b5 0 110 (hw.own _ (.head _)).1) Tryz.results61 (.refl _) (.cons (rv_ca (b := b4) (cs := (bs (List.replicate 32 0)).toArray) (hl := (hz32 List.length_replicate))) (.cons (rv_cf (b := b5) (v := I 110)) .nil)) fun w' hw => ⟨rfl, hw.sub (List.nil_sublist _)⟩
theorem Open_yes (w : World) (x : Nat) (u v : Nat) (p : List UInt8) (hu : El u) (hv : El v) (hp : p.length = 32) (hx0 : 0 < x) (hx : x < 2305843009213688669) (hg : LS w) : Pure Tryz.prog 61 [I x, .agg (I u :: I v :: bs p).toArray] w (.tuple #[.agg (bs (xr p (msk (v * pp (pp u (qq x 2305843009213688667)) 2305843009213688668 % 4611686018427377339 : Nat)))).toArray, I 0]) := by
  refine enterD Tryz.func61 Tryz.ntmps61 ?_
  refine c_seq <| c_reg <| s_box rfl fun b2 => s_box rfl fun b3 => s_alloc fun b4 => s_alloc fun b5 => s_nil <| q_then <| c_seq <| c_reg <| s_y y_func <| s_deferC <| s_nil <| q_then <| c_seq <| c_reg <| s_y (y_ld (b := b2) (v := I (x : Int))) <| s_pure (fun w' hw => isPrivate_yes w' x hx0 hx) <| s_pure (fun w' hw => demand_ok w' 50) <| s_nil <| q_then <| c_seq <| c_reg <| s_y (y_lda (b := b3) (cs := (I (u : Int) :: I (v : Int) :: bs p).toArray) (hl := (by simp [bs_length, hp]))) <| s_pure (fun w' hw => capCheck_yes w' u v p hu hv hp) <| s_kt (y_eql (p := 0) (q := 0)) (by omega) <| s_pure (fun w' hw => demand_ok w' 110) <| s_nil <| q_then <| c_seq <| c_reg <| s_y y_func <| s_y y_func <| s_y (y_bdir (cs := [.func (.func 132) #[] #[.pointer (some ⟨b3, 0, none⟩), .pointer (some ⟨b2, 0, none⟩)], .func (.func 133) #[] #[.pointer (some ⟨b3, 0, none⟩)]])) <| s_alloc fun b6 => s_sta (b := b6) (vs := #[.func (.func 132) #[] #[.pointer (some ⟨b3, 0, none⟩), .pointer (some ⟨b2, 0, none⟩)], .func (.func 133) #[] #[.pointer (some ⟨b3, 0, none⟩)]]) (cs := #[.nilFunc, .nilFunc]) (h1 := by intro u hu; simp at hu; rcases hu with rfl | rfl <;> rfl) (hl := rfl) (hs1 := rfl) ?_
  refine s_nil <| q_then <| c_seq <| c_regL [.blk b6 (.cells #[.func (.func 132) #[] #[.pointer (some ⟨b3, 0, none⟩), .pointer (some ⟨b2, 0, none⟩)], .func (.func 133) #[] #[.pointer (some ⟨b3, 0, none⟩)]] 134 (0, 0)), .blk b3 (.cells (I (u : Int) :: I (v : Int) :: bs p).toArray 32 (0, 0)), .blk b2 (.cells #[I (x : Int)] 3 (0, 0))] <| r_y 0 rfl y_fa <| r_y 1 rfl (y_ldin (b := b3) (off := 2) (cs := (I (u : Int) :: I (v : Int) :: bs p).toArray) (ys := bs p) (hl := (by rw [bs_length, hp])) (hv := fun j v h => by rw [List.getElem?_toArray, Nat.add_comm]; exact h)) <| r_y 2 rfl y_fa <| r_y 3 rfl (y_ld (b := b6) (v := .func (.func 133) #[] #[.pointer (some ⟨b3, 0, none⟩)])) <| r_y 4 rfl y_fa <| r_y 5 rfl (y_ld (b := b6) (v := .func (.func 132) #[] #[.pointer (some ⟨b3, 0, none⟩), .pointer (some ⟨b2, 0, none⟩)])) <| r_W 6 rfl <| s_pure (fun w' hw => Open2_ok w' b3 b2 x u (v : Int) p hu hx0 hx (rd_blk (b := b3) (cs := (I (u : Int) :: I (v : Int) :: bs p).toArray) (.tail _ (.tail _ (.tail _ (.head _)))) w' hw) (rd_blk (b := b2) (cs := #[I (x : Int)]) (.tail _ (.tail _ (.tail _ (.tail _ (.head _))))) w' hw)) <| r_K <| r_W 7 rfl <| s_pure (fun w' hw => Open3_ok w' b3 (pp u (qq x 2305843009213688667)) v (u : Int) p ((hu).pow _) hv (rd_blk (b := b3) (cs := (I (u : Int) :: I (v : Int) :: bs p).toArray) (.tail _ (.tail _ (.tail _ (.head _)))) w' hw)) <| r_K <| r_W 8 rfl <| s_pure (fun w' hw => combine_ok w' p ((v * pp (pp u (qq x 2305843009213688667)) 2305843009213688668 % 4611686018427377339 : Nat) : Int) (hg.st hw) hp (((hv).mul (((hu).pow _).pow _)).r64)) <| r_K <| r_W 9 rfl <| s_sta (b := b4) (vs := (bs (xr p (msk ((v * pp (pp u (qq x 2305843009213688667)) 2305843009213688668 % 4611686018427377339 : Nat) : Int)))).toArray) (cs := (bs (List.replicate 32 0)).toArray) (h1 := fun v hv => bs_one (by simpa using hv)) (hl := by rw [(hz32 (cmb_length hp _)), (hz32 List.length_replicate)]) (hs1 := (hz32 (cmb_length hp _))) ?_
  refine r_K <| r_W 10 rfl <| s_st (b := b5) (v := I 0) (cs := #[I 0]) (hl := by decide) ?_
  refine r_K <| r_E <| q_then <| c_ret <| ?_
  exact leave_R (cs := [.pointer (some ⟨b5, 0, none⟩)]) (fun w' hw => rcOpen_R w' b5) Tryz.results61 (.cons (rv_ca (hl := (hz32 (cmb_length hp _)))) (.cons (rv_cf (v := I 0)) .nil)) fun w' hw => ⟨rfl, hw.sub (List.nil_sublist _)⟩
theorem Lock2_ok (w : World) (b3 b8 y r : Nat) (hy : El y) (hr : r < 2305843009213688669) (h3 : Rd w (some ⟨b3, 0, none⟩) [I y]) (h8 : Rd w (some ⟨b8, 0, none⟩) [I r]) : Pure Tryz.prog 167 [.pointer (some ⟨b3, 0, none⟩), .pointer (some ⟨b8, 0, none⟩)] w (I (pp y r : Nat)) := by
  refine enter Tryz.func167 Tryz.ntmps167 ?_
  refine c_seq <| c_reg <| s_y y_as <| s_nil <| q_then <| c_seq <| c_reg <| s_y (y_ldr (a := some ⟨b3, 0, none⟩) (i := 0) (xs := [I (y : Int)]) (v := I (y : Int)) rfl (hr := rdW0 h3)) <| s_y (y_ldr (a := some ⟨b8, 0, none⟩) (i := 0) (xs := [I (r : Int)]) (v := I (r : Int)) rfl (hr := rdW0 h8)) <| s_pure (fun w' hw => gExp_yes w' y r hy hr) <| s_y y_ext <| s_y y_ext <| s_pure (fun w' hw => must_ok w' ((pp y r : Nat) : Int)) <| s_y y_as <| s_nil <| q_then <| c_ret <| ?_
  exact ret1 Tryz.results167 rv_t fun w' hw => ⟨rfl, hw.sub (List.nil_sublist _)⟩
theorem Lock3_ok (w : World) (b5 z : Nat) (s : List UInt8) (hz : El z) (hs : s.length = 32) (h5 : Rd w (some ⟨b5, 0, none⟩) (bs s)) (hg : LS w) : Pure Tryz.prog 168 [I z, .pointer (some ⟨b5, 0, none⟩)] w (I (pp 4 (dscal s lbMask) * z % 4611686018427377339 : Nat)) := by
  refine enter Tryz.func168 Tryz.ntmps168 ?_
  refine c_seq <| c_reg <| s_y y_as <| s_nil <| q_then <| c_seq <| c_reg <| s_y (y_ldra (a := some ⟨b5, 0, none⟩) (i := 0) (xs := bs s) (cs := bs s) (rdW0 h5) (by rw [bs_length, hs]) (fun j v h => by rw [Nat.add_comm]; exact h)) <| s_pure (fun w' hw => derive_Scalar_ok w' s lbMask (hg.st hw) hs (by decide)) <| s_pure (fun w' hw => (by have h9 := gBase_ok w' ((dscal s lbMask : Nat) : Int); rw [base_V (k := dscal s lbMask) ((scal_lt _ _).2), base_E (k := dscal s lbMask) ((scal_lt _ _).2)] at h9; exact h9)) <| s_y y_ext <| s_y y_ext <| s_pure (fun w' hw => must_ok w' ((pp 4 (dscal s lbMask) : Nat) : Int)) <| s_y y_mv <| s_pure (fun w' hw => (by have h9 := gMul_ok w' ((pp 4 (dscal s lbMask) : Nat) : Int) (z : Int); rw [mul_V (El.four.pow _) hz, mul_E (El.four.pow _) hz] at h9; exact h9)) <| s_y y_ext <| s_y y_ext <| s_pure (fun w' hw => must_ok w' (((pp 4 (dscal s lbMask)) * z % 4611686018427377339 : Nat) : Int)) <| s_y y_as <| s_nil <| q_then <| c_ret <| ?_
  exact ret1 Tryz.results168 rv_t fun w' hw => ⟨rfl, hw.sub (List.nil_sublist _)⟩
theorem Lock_no (w : World) (a : Int) (k s : List UInt8) (hk : k.length = 32) (hs : s.length = 32) (ha : el a = false) : Pure Tryz.prog 104 [I a, .agg (bs k).toArray, .agg (bs s).toArray] w (.tuple #[.agg (I 0 :: I 0 :: bs (List.replicate 32 0)).toArray, I 40]) := by
  refine enterD Tryz.func104 Tryz.ntmps104 ?_
  refine c_seq <| c_reg <| s_box rfl fun b3 => s_box rfl fun b4 => s_box rfl fun b5 => s_alloc fun b6 => s_alloc fun b7 => s_nil <| q_then <| c_seq <| c_seq <| c_reg <| s_y (y_ld (b := b3) (v := I a)) <| s_pure (fun w' hw => gCheck_no w' a ha) <| s_st (b := b7) (v := I 40) (cs := #[I 0]) (hl := by decide) ?_
  refine s_nil <| q_then <| c_seq <| c_reg <| s_y (y_ld (b := b7) (v := I 40)) <| s_nt (y_neq (p := 40) (q := 0)) (by omega) <| s_nil <| q_then <| c_t <| c_seq <| c_regL [.blk b7 (.cells #[I 40] 37 (0, 0)), .blk b6 (.cells (I 0 :: I 0 :: bs (List.replicate 32 0)).toArray 32 (0, 0)), .blk b5 (.cells (bs s).toArray 24 (0, 0)), .blk b4 (.cells (bs k).toArray 24 (0, 0)), .blk b3 (.cells #[I a] 3 (0, 0))] <| r_y 0 rfl (y_lda (b := b6) (cs := (I 0 :: I 0 :: bs (List.replicate 32 0)).toArray) (hl := (by simp [bs_length, List.length_replicate]))) <| r_y 1 rfl (y_ld (b := b7) (v := I 40)) <| r_W 2 rfl <| s_sta (b := b6) (vs := (I 0 :: I 0 :: bs (List.replicate 32 0)).toArray) (cs := (I 0 :: I 0 :: bs (List.replicate 32 0)).toArray) (h1 := one_cap) (hl := by simp [bs_length, List.length_replicate]) (hs1 := (by simp [bs_length, List.length_replicate])) ?_
  refine r_K <| r_W 3 rfl <| s_st (b := b7) (v := I 40) (cs := #[I 40]) (hl := by decide) ?_
  refine r_K <| r_E <| q_then <| c_ret <| q_ret <| ?_
  exact ret_0D Tryz.results104 (.cons (rv_ca (hl := (by simp [bs_length, List.length_replicate]))) (.cons (rv_cf (v := I 40)) .nil)) fun w' hw => ⟨rfl, hw.sub (List.nil_sublist _)⟩
theorem Lock_yes (w : World) (y : Nat) (k s : List UInt8) (hk : k.length = 32) (hs : s.length = 32) (hy : El y) (hg : LS w) : Pure Tryz.prog 104 [I y, .agg (bs k).toArray, .agg (bs s).toArray] w (.tuple #[.agg (I (pp y (dscal s lbLock) : Nat) :: I (pp 4 (dscal s lbMask) * pp 4 (dscal s lbLock) % 4611686018427377339 : Nat) :: bs (xr k (msk (pp 4 (dscal s lbMask) * 1 % 4611686018427377339 : Nat)))).toArray, I 0]) := by
  refine enterD Tryz.func104 Tryz.ntmps104 ?_
  refine c_seq <| c_reg <| s_box rfl fun b3 => s_box rfl fun b4 => s_box rfl fun b5 => s_alloc fun b6 => s_alloc fun b7 => s_nil <| q_then <| c_seq <| c_seq <| c_reg <| s_y (y_ld (b := b3) (v := I (y : Int))) <| s_pure (fun w' hw => gCheck_yes w' y hy) <| s_st (b := b7) (v := I 0) (cs := #[I 0]) (hl := by decide) ?_
  refine s_nil <| q_then <| c_seq <| c_reg <| s_y (y_ld (b := b7) (v := I 0)) <| s_nf (y_neq (p := 0) (q := 0)) (by omega) <| s_nil <| q_then <| c_f <| c_skip <| q_then <| c_seq <| c_reg <| s_y y_func <| s_deferC <| s_nil <| q_then <| c_seq <| c_reg <| s_y (y_lda (b := b5) (cs := (bs s).toArray) (hl := (hz32 hs))) <| s_pure (fun w' hw => derive_Scalar_ok w' s lbLock (hg.st hw) hs (by decide)) <| s_alloc fun b8 => s_st (b := b8) (v := I ((dscal s lbLock : Nat) : Int)) (cs := #[I 0]) (hl := by decide) ?_
  refine s_nil <| q_then <| c_seq <| c_reg <| s_y y_func <| s_y y_func <| s_y (y_bdir (cs := [.func (.func 167) #[] #[.pointer (some ⟨b3, 0, none⟩), .pointer (some ⟨b8, 0, none⟩)], .func (.func 168) #[] #[.pointer (some ⟨b5, 0, none⟩)]])) <| s_alloc fun b9 => s_sta (b := b9) (vs := #[.func (.func 167) #[] #[.pointer (some ⟨b3, 0, none⟩), .pointer (some ⟨b8, 0, none⟩)], .func (.func 168) #[] #[.pointer (some ⟨b5, 0, none⟩)]]) (cs := #[.nilFunc, .nilFunc]) (h1 := by intro u hu; simp at hu; rcases hu with rfl | rfl <;> rfl) (hl := rfl) (hs1 := rfl) ?_
  refine s_nil <| q_then <| c_seq <| c_regd <| d_y y_fa <| d_y (y_ld (b := b9) (v := .func (.func 168) #[] #[.pointer (some ⟨b5, 0, none⟩)])) <| d_y (y_ld (b := b8) (v := I ((dscal s lbLock : Nat) : Int))) <| d_pure (fun w' hw => (by have h9 := gBase_ok w' ((dscal s lbLock : Nat) : Int); rw [base_V (k := dscal s lbLock) ((scal_lt _ _).2), base_E (k := dscal s lbLock) ((scal_lt _ _).2)] at h9; exact h9)) <| d_y y_ext <| d_y y_ext <| d_pure (fun w' hw => must_ok w' ((pp 4 (dscal s lbLock) : Nat) : Int)) <| d_pure (fun w' hw => Lock3_ok w' b5 (pp 4 (dscal s lbLock)) s (El.four.pow _) hs (rd_blk (b := b5) (cs := (bs s).toArray) (.tail _ (.tail _ (.tail _ (.tail _ (.head _))))) w' hw) (hg.st hw)) <| d_y y_as <| d_nil <| q_then <| c_seq <| c_regL [.blk b9 (.cells #[.func (.func 167) #[] #[.pointer (some ⟨b3, 0, none⟩), .pointer (some ⟨b8, 0, none⟩)], .func (.func 168) #[] #[.pointer (some ⟨b5, 0, none⟩)]] 134 (0, 0)), .blk b8 (.cells #[I ((dscal s lbLock : Nat) : Int)] 3 (0, 0)), .blk b5 (.cells (bs s).toArray 24 (0, 0)), .blk b4 (.cells (bs k).toArray 24 (0, 0)), .blk b3 (.cells #[I (y : Int)] 3 (0, 0))] <| r_y 0 rfl y_fa <| r_y 1 rfl (y_ld (b := b9) (v := .func (.func 167) #[] #[.pointer (some ⟨b3, 0, none⟩), .pointer (some ⟨b8, 0, none⟩)])) <| r_y 3 rfl y_mv <| r_y 4 rfl (y_lda (b := b4) (cs := (bs k).toArray) (hl := (hz32 hk))) <| r_y 5 rfl y_fa <| r_y 6 rfl (y_ld (b := b9) (v := .func (.func 168) #[] #[.pointer (some ⟨b5, 0, none⟩)])) <| r_W 2 rfl <| s_pure (fun w' hw => Lock2_ok w' b3 b8 y (dscal s lbLock) hy ((scal_lt _ _).2) (rd_blk (b := b3) (cs := #[I (y : Int)]) (.tail _ (.tail _ (.tail _ (.tail _ (.tail _ (.tail _ (.head _))))))) w' hw) (rd_blk (b := b8) (cs := #[I ((dscal s lbLock : Nat) : Int)]) (.tail _ (.head _)) w' hw)) <| r_K <| r_W 7 rfl <| s_pure (fun w' hw => Lock3_ok w' b5 1 s (El.mk' (by decide) (pp_one _)) hs (rd_blk (b := b5) (cs := (bs s).toArray) (.tail _ (.tail _ (.tail _ (.tail _ (.head _))))) w' hw) (hg.st hw)) <| r_K <| r_W 8 rfl <| s_pure (fun w' hw => combine_ok w' k ((pp 4 (dscal s lbMask) * 1 % 4611686018427377339 : Nat) : Int) (hg.st hw) hk (((El.four.pow _).mul (El.mk' (by decide) (pp_one _))).r64)) <| r_K <| r_y 9 rfl (y_bcap (cs := I ((pp y (dscal s lbLock) : Nat) : Int) :: I ((pp 4 (dscal s lbMask) * (pp 4 (dscal s lbLock)) % 4611686018427377339 : Nat) : Int) :: bs (xr k (msk ((pp 4 (dscal s lbMask) * 1 % 4611686018427377339 : Nat) : Int)))) (hf := fillC (cmb_length hk _))) <| r_W 10 rfl <| s_sta (b := b6) (vs := (I ((pp y (dscal s lbLock) : Nat) : Int) :: I ((pp 4 (dscal s lbMask) * (pp 4 (dscal s lbLock)) % 4611686018427377339 : Nat) : Int) :: bs (xr k (msk ((pp 4 (dscal s lbMask) * 1 % 4611686018427377339 : Nat) : Int)))).toArray) (cs := (I 0 :: I 0 :: bs (List.replicate 32 0)).toArray) (h1 := one_cap) (hl := by simp [bs_length, List.length_replicate, cmb_length hk _]) (hs1 := (by simp [bs_length, cmb_length hk _])) ?_
  refine r_K <| r_W 11 rfl <| s_st (b := b7) (v := I 0) (cs := #[I 0]) (hl := by decide) ?_
  refine r_K <| r_E <| q_then <| c_ret <| ?_
  exact leave_R (cs := [.pointer (some ⟨b7, 0, none⟩)]) (fun w' hw => rcLock_R w' b7) Tryz.results104 (.cons (rv_ca (hl := (by simp [bs_length, cmb_length hk _]))) (.cons (rv_cf (v := I 0)) .nil)) fun w' hw => ⟨rfl, hw.sub (List.nil_sublist _)⟩
end Go.Proofs.YtejdjnkilikehaaGreatDoor
end
section
namespace Gf
noncomputable def opM (x u v : Nat) : Nat := v * pp (pp u (qq x 2305843009213688667)) 2305843009213688668 % 4611686018427377339
noncomputable def fac (x y : Nat) : Nat := y * qq x 2305843009213688667 % 2305843009213688669
theorem mulQ (a b : Nat) : a % 2305843009213688669 * b % 2305843009213688669 = a * b % 2305843009213688669 := by rw [Nat.mul_mod, Nat.mod_mod, ← Nat.mul_mod]
theorem mulQ' (a b : Nat) : a * (b % 2305843009213688669) % 2305843009213688669 = a * b % 2305843009213688669 := by rw [Nat.mul_mod, Nat.mod_mod, ← Nat.mul_mod]
theorem inv_in {x : Nat} (h0 : 0 < x) (hx : x < 2305843009213688669) (r : Nat) : x * r * qq x 2305843009213688667 % 2305843009213688669 = r % 2305843009213688669 := by
  rw [show x * r * qq x 2305843009213688667 = x * qq x 2305843009213688667 * r by rw [Nat.mul_assoc, Nat.mul_comm r, ← Nat.mul_assoc], ← mulQ, qq_inv h0 hx, Nat.one_mul]
theorem opM_own {x m r : Nat} (h0 : 0 < x) (hx : x < 2305843009213688669) (hm : El m) : opM x (pp (pp 4 x) r) (m * pp 4 r % 4611686018427377339) = m := by
  unfold opM
  have e1 : pp (pp (pp 4 x) r) (qq x 2305843009213688667) = pp 4 r := by
    rw [pp_pp, pp_pp]
    exact El.four.pcongr (by rw [Qeq, ← Nat.mul_assoc]; exact inv_in h0 hx r)
  rw [e1, ← mulP_assoc, (El.four.pow r).inv, Nat.mul_one, Nat.mod_eq_of_lt hm.lt]
theorem turned {x y r : Nat} (h0 : 0 < x) (hx : x < 2305843009213688669) : pp (pp (pp 4 x) r) (fac x y) = pp (pp 4 y) r := by
  rw [pp_pp, pp_pp, pp_pp]
  refine El.four.pcongr ?_
  rw [Qeq]
  unfold fac
  rw [← Nat.mul_assoc x r, mulQ', show x * r * (y * qq x 2305843009213688667) = x * (r * y) * qq x 2305843009213688667 by ac_rfl, inv_in h0 hx, Nat.mul_comm]
end Gf
end
section
namespace Go.Proofs.YtejdjnkilikehaaGreatDoor
open Go Eng
end Go.Proofs.YtejdjnkilikehaaGreatDoor
end
section
namespace Go.Proofs.YtejdjnkilikehaaGreatDoor
open Go Eng Gf Sha Cod
set_option maxRecDepth 100000
noncomputable def opE (n a b : Int) : Int := bif prv n then (bif el a && el b then 0 else 110) else 50
noncomputable def opK (n a b : Int) (p : List UInt8) : List UInt8 := bif prv n && (el a && el b) then xr p (msk (opM n.toNat a.toNat b.toNat : Nat)) else List.replicate 32 0
theorem opK_length (n a b : Int) {p : List UInt8} (h : p.length = 32) : (opK n a b p).length = 32 := by
  unfold opK
  cases (prv n && (el a && el b)) with
  | true => exact cmb_length h _
  | false => exact List.length_replicate
noncomputable def lkE (y : Int) : Int := bif el y then 0 else 40
noncomputable def lkA (y : Int) (s : List UInt8) : Int := bif el y then ((pp y.toNat (dscal s lbLock) : Nat) : Int) else 0
noncomputable def lkB (y : Int) (s : List UInt8) : Int := bif el y then ((pp 4 (dscal s lbMask) * pp 4 (dscal s lbLock) % 4611686018427377339 : Nat) : Int) else 0
noncomputable def lkP (y : Int) (k s : List UInt8) : List UInt8 := bif el y then xr k (msk (pp 4 (dscal s lbMask) : Nat)) else List.replicate 32 0
theorem lkP_length (y : Int) {k : List UInt8} (s : List UInt8) (h : k.length = 32) : (lkP y k s).length = 32 := by
  unfold lkP
  cases el y with
  | true => exact cmb_length h _
  | false => exact List.length_replicate
noncomputable def ckE (a b : Int) : Int := bif el a && el b then 0 else 110
theorem Open_ok (w : World) (n a b : Int) (p : List UInt8) (hp : p.length = 32) (hg : LS w) : Pure Tryz.prog 61 [I n, .agg (I a :: I b :: bs p).toArray] w (.tuple #[.agg (bs (opK n a b p)).toArray, I (opE n a b)]) := by
  cases h : prv n with
  | false => rw [opK, opE, h]; exact Open_no1 w n a b p hp h
  | true =>
    obtain ⟨x, rfl, hx0, hx⟩ := prv_nat h
    cases h' : (el a && el b) with
    | false => rw [opK, opE, h, h']; exact Open_no2 w x a b p hp hx0 hx h'
    | true =>
      have h3 : el a = true ∧ el b = true := by simpa using h'
      obtain ⟨u, rfl, e1, e2, e3⟩ := el_nat h3.1
      obtain ⟨v, rfl, e4, e5, e6⟩ := el_nat h3.2
      rw [opK, opE, h, h', Int.toNat_natCast, Int.toNat_natCast, Int.toNat_natCast]
      exact Open_yes w x u v p ⟨e1, e2, e3⟩ ⟨e4, e5, e6⟩ hp hx0 hx hg
theorem Lock_ok (w : World) (y : Int) (k s : List UInt8) (hk : k.length = 32) (hs : s.length = 32) (hg : LS w) : Pure Tryz.prog 104 [I y, .agg (bs k).toArray, .agg (bs s).toArray] w (.tuple #[.agg (I (lkA y s) :: I (lkB y s) :: bs (lkP y k s)).toArray, I (lkE y)]) := by
  cases h : el y with
  | false => rw [lkA, lkB, lkP, lkE, h]; exact Lock_no w y k s hk hs h
  | true =>
    obtain ⟨z, rfl, e1, e2, e3⟩ := el_nat h
    have h9 := Lock_yes w z k s hk hs ⟨e1, e2, e3⟩ hg
    rw [show pp 4 (dscal s lbMask) * 1 % 4611686018427377339 = pp 4 (dscal s lbMask) by rw [Nat.mul_one, Nat.mod_eq_of_lt (pp_lt _ _)]] at h9; rw [lkA, lkB, lkP, lkE, h, Int.toNat_natCast]
    exact h9
theorem capCheck_ok (w : World) (a b : Int) (p : List UInt8) (hp : p.length = 32) : Pure Tryz.prog 101 [.agg (I a :: I b :: bs p).toArray] w (I (ckE a b)) := by
  cases h' : (el a && el b) with
  | false => rw [ckE, h']; exact capCheck_no w a b p hp h'
  | true =>
    have h3 : el a = true ∧ el b = true := by simpa using h'
    obtain ⟨u, rfl, e1, e2, e3⟩ := el_nat h3.1
    obtain ⟨v, rfl, e4, e5, e6⟩ := el_nat h3.2
    rw [ckE, h']
    exact capCheck_yes w u v p ⟨e1, e2, e3⟩ ⟨e4, e5, e6⟩ hp
theorem r11_Check_ok (w : World) (a b : Int) (p : List UInt8) (hp : p.length = 32) : Pure Tryz.prog 128 [.agg (I a :: I b :: bs p).toArray] w (I (ckE a b)) := by
  cases h' : (el a && el b) with
  | false => rw [ckE, h']; exact r11_Check_no w a b p hp h'
  | true =>
    have h3 : el a = true ∧ el b = true := by simpa using h'
    obtain ⟨u, rfl, e1, e2, e3⟩ := el_nat h3.1
    obtain ⟨v, rfl, e4, e5, e6⟩ := el_nat h3.2
    rw [ckE, h']
    exact r11_Check_yes w u v p ⟨e1, e2, e3⟩ ⟨e4, e5, e6⟩ hp
end Go.Proofs.YtejdjnkilikehaaGreatDoor
end
section
namespace Cha
open Go Eng Sha
def wle (b : List UInt8) (i : Nat) : UInt32 := (b.getD i 0).toUInt32 ||| (b.getD (i + 1) 0).toUInt32 <<< 8 ||| (b.getD (i + 2) 0).toUInt32 <<< 16 ||| (b.getD (i + 3) 0).toUInt32 <<< 24
def ws4 (b : List UInt8) (n : Nat) : List UInt32 := (List.range n).map fun i => wle b (4 * i)
def cst : List UInt32 := [0x61707865, 0x3320646e, 0x79622d32, 0x6b206574]
def first (k n : List UInt8) (c : UInt32) : List UInt32 := cst ++ ws4 k 8 ++ [c] ++ ws4 n 3
theorem ws4_length (b : List UInt8) (n : Nat) : (ws4 b n).length = n := by simp [ws4]
theorem first_length (k n : List UInt8) (c : UInt32) : (first k n c).length = 16 := by simp [first, ws4_length, cst]
def rl (v : UInt32) (n : Nat) : UInt32 := rr v (32 - n)
def addAt (v : List UInt32) (a b : Nat) : List UInt32 := v.set a (v.getD a 0 + v.getD b 0)
def xrAt (v : List UInt32) (d a n : Nat) : List UInt32 := v.set d (rl (v.getD d 0 ^^^ v.getD a 0) n)
theorem addAt_length (v : List UInt32) (a b : Nat) : (addAt v a b).length = v.length := List.length_set
theorem xrAt_length (v : List UInt32) (d a n : Nat) : (xrAt v d a n).length = v.length := List.length_set
def mix (v : List UInt32) (a b c d : Nat) : List UInt32 := xrAt (addAt (xrAt (addAt (xrAt (addAt (xrAt (addAt v a b) d a 16) c d) b c 12) a b) d a 8) c d) b c 7
theorem mix_length (v : List UInt32) (a b c d : Nat) : (Cha.mix v a b c d).length = v.length := by simp only [Cha.mix, xrAt_length, addAt_length]
def colU (v : List UInt32) : Nat → List UInt32
  | 0 => v
  | i + 1 => Cha.mix (colU v i) i (4 + i) (8 + i) (12 + i)
def dgU (v : List UInt32) : Nat → List UInt32
  | 0 => v
  | i + 1 => Cha.mix (dgU v i) i (4 + (i + 1) % 4) (8 + (i + 2) % 4) (12 + (i + 3) % 4)
def rndU (v : List UInt32) : Nat → List UInt32
  | 0 => v
  | i + 1 => dgU (colU (rndU v i) 4) 4
theorem colU_length (v : List UInt32) : ∀ i, (colU v i).length = v.length
  | 0 => rfl
  | i + 1 => by rw [colU, mix_length, colU_length v i]
theorem dgU_length (v : List UInt32) : ∀ i, (dgU v i).length = v.length
  | 0 => rfl
  | i + 1 => by rw [dgU, mix_length, dgU_length v i]
theorem rndU_length (v : List UInt32) : ∀ i, (rndU v i).length = v.length
  | 0 => rfl
  | i + 1 => by rw [rndU, dgU_length, colU_length, rndU_length v i]
def le4 (x : UInt32) : List UInt8 := [x.toUInt8, (x >>> 8).toUInt8, (x >>> 16).toUInt8, (x >>> 24).toUInt8]
def outU (v s : List UInt32) (n : Nat) : List UInt8 := (List.range n).flatMap fun i => le4 (v.getD i 0 + s.getD i 0)
theorem outU_succ (v s : List UInt32) (n : Nat) : outU v s (n + 1) = outU v s n ++ le4 (v.getD n 0 + s.getD n 0) := by
  unfold outU; rw [List.range_succ, List.flatMap_append]; simp
theorem outU_length (v s : List UInt32) : ∀ n, (outU v s n).length = 4 * n
  | 0 => rfl
  | n + 1 => by rw [outU_succ, List.length_append, outU_length v s n]; rfl
def blk (k n : List UInt8) (c : UInt32) : List UInt8 := outU (rndU (first k n c) 10) (first k n c) 16
theorem blk_length (k n : List UInt8) (c : UInt32) : (blk k n c).length = 64 := outU_length _ _ 16
def ks (k n : List UInt8) (i : Nat) : UInt8 := (blk k n (UInt32.ofNat (1 + i / 64))).getD (i % 64) 0
def strm (k n b : List UInt8) : List UInt8 := b.mapIdx fun i x => x ^^^ ks k n i
theorem strm_length (k n b : List UInt8) : (strm k n b).length = b.length := by unfold strm; exact List.length_mapIdx
theorem strm_strm (k n b : List UInt8) : strm k n (strm k n b) = b := by
  unfold strm
  refine List.ext_getElem? fun i => ?_
  rw [List.getElem?_mapIdx, List.getElem?_mapIdx]
  cases b[i]? with
  | none => rfl
  | some x => simp [UInt8.xor_assoc]
theorem strm_at (k n b : List UInt8) {i : Nat} (h : i < b.length) : (strm k n b).getD i 0 = b.getD i 0 ^^^ ks k n i := by
  unfold strm
  rw [List.getD_eq_getElem?_getD, List.getD_eq_getElem?_getD, List.getElem?_mapIdx, List.getElem?_eq_getElem h]; rfl
theorem getD_drop8 (b : List UInt8) (i j : Nat) : (b.drop i).getD j 0 = b.getD (i + j) 0 := by
  rw [List.getD_eq_getElem?_getD, List.getD_eq_getElem?_getD, List.getElem?_drop]
theorem wle_drop (b : List UInt8) (i : Nat) : wle (b.drop i) 0 = wle b i := by
  unfold wle
  simp only [getD_drop8, Nat.zero_add, Nat.add_zero]
theorem ws4_succ (b : List UInt8) (n : Nat) : ws4 b (n + 1) = ws4 b n ++ [wle b (4 * n)] := by simp [ws4, List.range_succ]
theorem set_next (A : List UInt32) (m j : Nat) (x : UInt32) (h : A.length = j) : (A ++ List.replicate (m + 1) 0).set j x = A ++ [x] ++ List.replicate m 0 := by
  subst h
  rw [List.set_append_right _ _ (Nat.le_refl _), Nat.sub_self, List.replicate_succ, List.set_cons_zero, List.append_assoc]; rfl
end Cha
end
section
namespace Eng
open Go Go.RowKit
section
variable {P : Program} {n : Nat} {D : List Deferred} {W : World} {Bo : List Nat} {F : List (Nat × Value)} {l : SH}
  {d : Option Tmp} {ty : TypeId} {ps : String} {af : Array Edge} {g : Option (Nat × Bool)} {x y : Operand} {t : TypeId}
theorem y_ldwb [hu : HT P t true] {b : Nat} {q : List UInt32} (j : Nat) (hj : j < q.length) {et : TypeId} {fz : Nat × Nat} (hx : evO F x = some (.pointer (some ⟨b, j, none⟩)) := by rfl)
    (hm : Res.blk b (.cells (ws q).toArray et fz) ∈ l := by repeat (first | exact .head _ | apply List.Mem.tail)) : Y P n D W Bo ⟨d, .load t x, ty, ps, af, g⟩ F l (W32 (q.getD j 0)) :=
  y_ld hx hm (by rw [List.getElem?_toArray]; exact ws_get hj)
end
section
variable {P : Program} {n : Nat} {D : List Deferred} {W : World} {Bo : List Nat} {F F' : List (Nat × Value)} {l lp : SH}
  {dd : Nat} {ty : TypeId} {ps : String} {af : Array Edge} {g : Option (Nat × Bool)} {x : Operand}
  {Q : Exit → Act → World → Prop} {ops : Array Oper} {f fuel : Nat} {listed : Array Bool}
theorem AnyF.firstT {C : World → Prop} {f i : Nat} {oi : Oper} {v : Value} (hi : ops[i]? = some oi) (hsel : ∀ (j : Nat) (o : Oper) cs b, ops[j]? = some o → o.op ≠ .select cs b)
    (hQ : ∀ c a w, Q (.panic c) (a.put oi.dst v) w → Q (.panic c) a w) (hif : i ≠ f) :
    ∀ (fuel : Nat) (listed : Array Bool) (a : Act) (w : World),
      (∀ j oj, ops[j]? = some oj → j ≠ i → listed.getD j true = false → (∀ e ∈ oj.after, Region.binds .any e = true → e.on ≠ i) → oi.apart ops oj = true) →
      i ∈ Region.ready .any ops listed → YC P ops (fun _ => True) oi v a →
      AnyF P ops Q C f fuel (listed.setIfInBounds i true) (a.put oi.dst v) w → AnyF P ops Q C f (fuel + 1) listed a w := by
  have hat : ∀ {fuel : Nat} {listed : Array Bool} {a : Act} {w : World}, AnyF P ops Q C f fuel (listed.setIfInBounds i true) a w → (listed.getD f false = true ∨ C w) := by
    intro fuel listed a w H
    rcases H.at with h | h
    · rw [getD_set_ne false hif] at h; exact .inl h
    · exact .inr h
  intro fuel
  induction fuel with
  | zero =>
    intro listed a w _ hr hy H
    refine ⟨hat H, fun h => (by rw [h] at hr; cases hr), fun j hj => ?_⟩
    by_cases hji : j = i
    · subst hji; exact hy.op hi trivial H
    · have := ready_mono hj hji
      rw [H.2.1] at this
      cases this
  | succ fuel ih =>
    intro listed a w hfree hr hy H
    refine ⟨hat H, fun h => (by rw [h] at hr; cases hr), fun j hj => ?_⟩
    by_cases hji : j = i
    · subst hji; exact hy.op hi trivial H
    · have h1 := H.2.2 j (ready_mono hj hji)
      obtain ⟨hjun, oj, hoj, hall⟩ := mem_ready.1 hj
      have hnot : ∀ e ∈ oj.after, Region.binds .any e = true → e.on ≠ i := fun e he hb heq => by
        have h1 := hall e he hb
        have h0 := (mem_ready.1 hr).1
        rw [heq] at h1
        rcases Nat.lt_or_ge i listed.size with h' | h'
        · simp [h'] at h0 h1; rw [h0] at h1; cases h1
        · simp [Array.getElem?_eq_none h'] at h1
      have h2 := opIn_put hoj (hfree j oj hoj hji hjun hnot) (fun cs b => hsel i oi cs b hi) (fun cs b => hsel j oj cs b hoj) hQ hy h1
      have hfree' : ∀ k ok, ops[k]? = some ok → k ≠ i → (listed.setIfInBounds j true).getD k true = false →
          (∀ e ∈ ok.after, Region.binds .any e = true → e.on ≠ i) → oi.apart ops ok = true := fun k ok hk hki hun hno => by
        refine hfree k ok hk hki ?_ hno
        by_cases hjk : j = k
        · subst hjk; exact hjun
        · rw [getD_set_ne true hjk] at hun; exact hun
      refine wpOpIn_mono (fun a' w' h3 => ih (listed.setIfInBounds j true) a' w' hfree' (ready_mono hr (Ne.symm hji)) h3.1 ?_) h2
      rw [Array.setIfInBounds_comm _ _ hji]
      exact h3.2
def okT (ops : Array Oper) (f : Nat) (listed : Array Bool) (i : Nat) : Bool :=
  (Region.ready .any ops listed).contains i && (Region.free .any ops listed i && !Nat.beq i f)
theorem f_nc {a0 : Addr} (i : Nat) (hi : ops[i]? = some ⟨some dd, .nilCheck x, ty, ps, af, g⟩) (h : DF P n D W Bo ops Q lp f fuel (listed.setIfInBounds i true) ((dd, .pointer (some a0)) :: F) l)
    (hx : evO F x = some (.pointer (some a0)) := by rfl) (hn : Nat.blt dd n = true := by rfl) (hg : Wn ops F g := by first | exact .none | exact .some rfl rfl) (hok : okT ops f listed i = true := by kernel_rfl) : DF P n D W Bo ops Q lp f (fuel + 1) listed F l := by
  intro hs a w ha hw
  unfold okT at hok
  simp only [Bool.and_eq_true, Bool.not_eq_true', List.contains_iff_mem] at hok
  obtain ⟨h1, h2, h3⟩ := hok
  refine AnyF.firstT hi (Region.noSelect_spec hs) (fun c a w hq => by cases hq.1) (Nat.ne_of_beq_eq_false h3) fuel listed a w (Region.free_spec hi h2) h1 (.inl ⟨hg.wanted rfl ha, fun w _ => ?_⟩) (h hs _ w (ha.put dd _ hn) hw)
  simp only [execOp, ha.eval hx]; rfl
end
end Eng
namespace Go.Proofs.YtejdjnkilikehaaGreatDoor
open Go Eng Sha Cha
set_option maxRecDepth 100000
theorem bits_RotateLeft32_pos (w : World) (v : UInt32) (k : Nat) (h0 : 0 < k) (h1 : k < 32) :
    Pure Tryz.prog 219 [W32 v, I k] w (W32 (rl v k)) := by
  have e1 : IntKind.u64.wrap (k : Int) = ((k : Nat) : Int) := wrap_u64 (by omega) (by omega)
  have e2 : k % 2 ^ 5 = k := by omega
  refine enter Tryz.func219 Tryz.ntmps219 ?_
  refine c_seq <| c_reg <| s_y y_as <| s_nil <| q_then <| c_seq <| c_reg <| s_y y_mv <| s_y y_cvw <| ?_
  rw [e1]
  refine s_y (y_mask 5) <| ?_
  rw [e2]
  refine s_y y_as <| s_nil <| q_then <| c_seq <| c_reg <| s_y y_mv <| s_y y_mv <| s_y (y_shl32 (h0 := by omega) (h1 := by omega)) <| s_y y_mv <| s_y y_mv <| s_y (y_sub64 (p := 32) (q := k)) <| s_y (y_shr32 (h0 := by omega) (h1 := by omega)) <| s_y y_or32 <| s_y y_as <| s_nil <| q_then <| c_ret <| ?_
  rw [Int.toNat_natCast, Int.toNat_natCast]
  have e3 : (v <<< UInt32.ofNat k) ||| (v >>> UInt32.ofNat (32 - k)) = rl v k := by
    have := rr_comm v (32 - k)
    rwa [show 32 - (32 - k) = k by omega] at this
  rw [e3]
  exact ret1 Tryz.results219 rv_t fun w' hw => ⟨rfl, hw⟩
theorem c_word_ok (w : World) (a : Option Addr) (m c : Nat) (q : List UInt8) (hr : Rd w a (bs q)) (hm : 4 ≤ m) (hq : m ≤ q.length) :
    Pure Tryz.prog 229 [.slice a m c] w (W32 (wle q 0)) := by
  refine enter Tryz.func229 Tryz.ntmps229 ?_
  refine c_seq <| c_reg <| s_y y_as <| s_nil <| q_then <| c_seq <| c_regd <| d_y y_mv <| d_y (y_ixs1 (xs := bs q) (i := 0) (hr := rdW0 hr) (hl := by rw [bs_length]; exact hq)) <| d_y (y_ldb (q := q) (i := 0) (hr := rdW0 hr)) <| d_y y_cv32 <| d_y y_mv <| d_y (y_ixs1 (xs := bs q) (i := 1) (hr := rdW0 hr) (hl := by rw [bs_length]; exact hq)) <| d_y (y_ldb (q := q) (i := 1) (hr := rdW0 hr)) <| d_y y_cv32 <| d_y y_shl32 <| d_y y_or32 <| d_y y_mv <| d_y (y_ixs1 (xs := bs q) (i := 2) (hr := rdW0 hr) (hl := by rw [bs_length]; exact hq)) <| d_y (y_ldb (q := q) (i := 2) (hr := rdW0 hr)) <| d_y y_cv32 <| d_y y_shl32 <| d_y y_or32 <| d_y y_mv <| d_y (y_ixs1 (xs := bs q) (i := 3) (hr := rdW0 hr) (hl := by rw [bs_length]; exact hq)) <| d_y (y_ldb (q := q) (i := 3) (hr := rdW0 hr)) <| d_y y_cv32 <| d_y y_shl32 <| d_y y_or32 <| d_y y_as <| d_nil <| q_then <| c_ret <| ?_
  exact ret1 Tryz.results229 rv_t fun w' hw => ⟨rfl, hw⟩
theorem c_mix_ok (w : World) (p : Nat) (et : TypeId) (v : List UInt32) (a b c d : Nat) (hp : w.heap[p]? = some (.cells (ws v).toArray et (0, 0))) (hv : v.length = 16) (ha : a < 16) (hb : b < 16) (hc : c < 16) (hd : d < 16) :
    Gives Tryz.prog 209 [.pointer (some ⟨p, 0, none⟩), I a, I b, I c, I d] w [p] (fun _ : Unit => .tuple #[]) (fun _ => [.blk p (.cells (ws (Cha.mix v a b c d)).toArray et (0, 0))]) (fun _ => True) := by
  have h0 : ∀ i, i < 16 → i < v.length := fun i hi => by omega
  refine enterB Tryz.func209 Tryz.ntmps209 hp ?_
  refine c_seq <| c_regF 13 <| f_y 0 rfl y_mv <| f_y 1 rfl y_mv <| f_y 2 rfl y_nc <| f_y 3 rfl (y_ixn a) <| f_y 4 rfl (y_ldwb (q := v) a (h0 a ha)) <| f_y 5 rfl y_mv <| f_y 6 rfl y_mv <| f_y 7 rfl y_nc <| f_y 8 rfl (y_ixn b) <| f_y 9 rfl (y_ldwb (q := v) b (h0 b hb)) <| f_y 10 rfl y_add32 <| f_nc 11 rfl <| f_y 12 rfl (y_ixn a) <| f_w 13 rfl <| s_stw (?_) (hl := h0 a ha)
  obtain ⟨v1, e1⟩ : ∃ u, addAt v a b = u := ⟨_, rfl⟩
  have h1 : ∀ i, i < 16 → i < v1.length := fun i hi => by rw [← e1]; simp only [addAt_length, xrAt_length]; exact h0 i hi
  rw [show (v).set a ((v).getD a 0 + (v).getD b 0) = v1 from e1]
  refine f_z <| q_then <| ?_
  refine c_seq <| c_regF 16 <| f_y 0 rfl y_mv <| f_y 1 rfl y_mv <| f_y 2 rfl y_mv <| f_y 3 rfl y_mv <| f_y 4 rfl y_nc <| f_y 5 rfl (y_ixn d) <| f_y 6 rfl (y_ldwb (q := v1) d (h1 d hd)) <| f_y 7 rfl y_mv <| f_y 8 rfl y_mv <| f_y 9 rfl y_nc <| f_y 10 rfl (y_ixn a) <| f_y 11 rfl (y_ldwb (q := v1) a (h1 a ha)) <| f_y 12 rfl y_xor32 <| f_nc 14 rfl <| f_w 13 rfl <| s_pure (fun w' hw => bits_RotateLeft32_pos w' _ 16 (by decide) (by decide)) <| f_k <| f_y 15 rfl (y_ixn d) <| f_w 16 rfl <| s_stw (?_) (hl := h1 d hd)
  obtain ⟨v2, e2⟩ : ∃ u, xrAt (v1) d a 16 = u := ⟨_, rfl⟩
  have h2 : ∀ i, i < 16 → i < v2.length := fun i hi => by rw [← e2]; simp only [addAt_length, xrAt_length]; exact h1 i hi
  rw [show (v1).set d (rl ((v1).getD d 0 ^^^ (v1).getD a 0) 16) = v2 from e2]
  refine f_z <| q_then <| ?_
  refine c_seq <| c_regF 13 <| f_y 0 rfl y_mv <| f_y 1 rfl y_mv <| f_y 2 rfl y_nc <| f_y 3 rfl (y_ixn c) <| f_y 4 rfl (y_ldwb (q := v2) c (h2 c hc)) <| f_y 5 rfl y_mv <| f_y 6 rfl y_mv <| f_y 7 rfl y_nc <| f_y 8 rfl (y_ixn d) <| f_y 9 rfl (y_ldwb (q := v2) d (h2 d hd)) <| f_y 10 rfl y_add32 <| f_nc 11 rfl <| f_y 12 rfl (y_ixn c) <| f_w 13 rfl <| s_stw (?_) (hl := h2 c hc)
  obtain ⟨v3, e3⟩ : ∃ u, addAt (v2) c d = u := ⟨_, rfl⟩
  have h3 : ∀ i, i < 16 → i < v3.length := fun i hi => by rw [← e3]; simp only [addAt_length, xrAt_length]; exact h2 i hi
  rw [show (v2).set c ((v2).getD c 0 + (v2).getD d 0) = v3 from e3]
  refine f_z <| q_then <| ?_
  refine c_seq <| c_regF 16 <| f_y 0 rfl y_mv <| f_y 1 rfl y_mv <| f_y 2 rfl y_mv <| f_y 3 rfl y_mv <| f_y 4 rfl y_nc <| f_y 5 rfl (y_ixn b) <| f_y 6 rfl (y_ldwb (q := v3) b (h3 b hb)) <| f_y 7 rfl y_mv <| f_y 8 rfl y_mv <| f_y 9 rfl y_nc <| f_y 10 rfl (y_ixn c) <| f_y 11 rfl (y_ldwb (q := v3) c (h3 c hc)) <| f_y 12 rfl y_xor32 <| f_nc 14 rfl <| f_w 13 rfl <| s_pure (fun w' hw => bits_RotateLeft32_pos w' _ 12 (by decide) (by decide)) <| f_k <| f_y 15 rfl (y_ixn b) <| f_w 16 rfl <| s_stw (?_) (hl := h3 b hb)
  obtain ⟨v4, e4⟩ : ∃ u, xrAt (v3) b c 12 = u := ⟨_, rfl⟩
  have h4 : ∀ i, i < 16 → i < v4.length := fun i hi => by rw [← e4]; simp only [addAt_length, xrAt_length]; exact h3 i hi
  rw [show (v3).set b (rl ((v3).getD b 0 ^^^ (v3).getD c 0) 12) = v4 from e4]
  refine f_z <| q_then <| ?_
  refine c_seq <| c_regF 13 <| f_y 0 rfl y_mv <| f_y 1 rfl y_mv <| f_y 2 rfl y_nc <| f_y 3 rfl (y_ixn a) <| f_y 4 rfl (y_ldwb (q := v4) a (h4 a ha)) <| f_y 5 rfl y_mv <| f_y 6 rfl y_mv <| f_y 7 rfl y_nc <| f_y 8 rfl (y_ixn b) <| f_y 9 rfl (y_ldwb (q := v4) b (h4 b hb)) <| f_y 10 rfl y_add32 <| f_nc 11 rfl <| f_y 12 rfl (y_ixn a) <| f_w 13 rfl <| s_stw (?_) (hl := h4 a ha)
  obtain ⟨v5, e5⟩ : ∃ u, addAt (v4) a b = u := ⟨_, rfl⟩
  have h5 : ∀ i, i < 16 → i < v5.length := fun i hi => by rw [← e5]; simp only [addAt_length, xrAt_length]; exact h4 i hi
  rw [show (v4).set a ((v4).getD a 0 + (v4).getD b 0) = v5 from e5]
  refine f_z <| q_then <| ?_
  refine c_seq <| c_regF 16 <| f_y 0 rfl y_mv <| f_y 1 rfl y_mv <| f_y 2 rfl y_mv <| f_y 3 rfl y_mv <| f_y 4 rfl y_nc <| f_y 5 rfl (y_ixn d) <| f_y 6 rfl (y_ldwb (q := v5) d (h5 d hd)) <| f_y 7 rfl y_mv <| f_y 8 rfl y_mv <| f_y 9 rfl y_nc <| f_y 10 rfl (y_ixn a) <| f_y 11 rfl (y_ldwb (q := v5) a (h5 a ha)) <| f_y 12 rfl y_xor32 <| f_nc 14 rfl <| f_w 13 rfl <| s_pure (fun w' hw => bits_RotateLeft32_pos w' _ 8 (by decide) (by decide)) <| f_k <| f_y 15 rfl (y_ixn d) <| f_w 16 rfl <| s_stw (?_) (hl := h5 d hd)
  obtain ⟨v6, e6⟩ : ∃ u, xrAt (v5) d a 8 = u := ⟨_, rfl⟩
  have h6 : ∀ i, i < 16 → i < v6.length := fun i hi => by rw [← e6]; simp only [addAt_length, xrAt_length]; exact h5 i hi
  rw [show (v5).set d (rl ((v5).getD d 0 ^^^ (v5).getD a 0) 8) = v6 from e6]
  refine f_z <| q_then <| ?_
  refine c_seq <| c_regF 13 <| f_y 0 rfl y_mv <| f_y 1 rfl y_mv <| f_y 2 rfl y_nc <| f_y 3 rfl (y_ixn c) <| f_y 4 rfl (y_ldwb (q := v6) c (h6 c hc)) <| f_y 5 rfl y_mv <| f_y 6 rfl y_mv <| f_y 7 rfl y_nc <| f_y 8 rfl (y_ixn d) <| f_y 9 rfl (y_ldwb (q := v6) d (h6 d hd)) <| f_y 10 rfl y_add32 <| f_nc 11 rfl <| f_y 12 rfl (y_ixn c) <| f_w 13 rfl <| s_stw (?_) (hl := h6 c hc)
  obtain ⟨v7, e7⟩ : ∃ u, addAt (v6) c d = u := ⟨_, rfl⟩
  have h7 : ∀ i, i < 16 → i < v7.length := fun i hi => by rw [← e7]; simp only [addAt_length, xrAt_length]; exact h6 i hi
  rw [show (v6).set c ((v6).getD c 0 + (v6).getD d 0) = v7 from e7]
  refine f_z <| q_then <| ?_
  refine c_regF 16 <| f_y 0 rfl y_mv <| f_y 1 rfl y_mv <| f_y 2 rfl y_mv <| f_y 3 rfl y_mv <| f_y 4 rfl y_nc <| f_y 5 rfl (y_ixn b) <| f_y 6 rfl (y_ldwb (q := v7) b (h7 b hb)) <| f_y 7 rfl y_mv <| f_y 8 rfl y_mv <| f_y 9 rfl y_nc <| f_y 10 rfl (y_ixn c) <| f_y 11 rfl (y_ldwb (q := v7) c (h7 c hc)) <| f_y 12 rfl y_xor32 <| f_nc 14 rfl <| f_w 13 rfl <| s_pure (fun w' hw => bits_RotateLeft32_pos w' _ 7 (by decide) (by decide)) <| f_k <| f_y 15 rfl (y_ixn b) <| f_w 16 rfl <| s_stw (?_) (hl := h7 b hb)
  subst e1; subst e2; subst e3; subst e4; subst e5; subst e6; subst e7
  refine f_z <| ?_
  exact ret0 Tryz.results209 (fun w' hw => ⟨(), trivial, rfl, hw⟩) _ (.inr rfl)
end Go.Proofs.YtejdjnkilikehaaGreatDoor
end
section
namespace Eng
open Go Go.RowKit
section
variable {r : Option Nat} {P : Program} {n : Nat} {D : List Deferred} {W : World} {Bo : List Nat} {F : List (Nat × Value)} {l l' : SH}
  {d : Option Tmp} {dd : Nat} {ty : TypeId} {ps : String} {af : Array Edge} {g : Option (Nat × Bool)} {x y : Operand} {v : Value} {t ta tb e : TypeId}
  {Q : Exit → Act → World → Prop} {ops : Array Oper} {rest : List Oper}
theorem y_cv8w [hu : HU P tb (.int .u8)] {tb' : Bool} [ha' : HT P ta tb'] {p : UInt32} (hx : evO F x = some (W32 p) := by rfl) : Y P n D W Bo ⟨d, .convert ta tb x, ty, ps, af, g⟩ F l (B p.toUInt8) := by
  have h := y_cv8 (P := P) (n := n) (D := D) (W := W) (Bo := Bo) (l := l) (d := d) (ty := ty) (ps := ps) (af := af) (g := g) (ta := ta) (tb := tb) (F := F) (x := x) (p := ((p.toNat : Nat) : Int)) (k' := .u32) hx
  have e : UInt8.ofNat (((p.toNat : Nat) : Int) % 256).toNat = p.toUInt8 := by
    apply UInt8.toNat_inj.1
    rw [UInt8.toNat_ofNat', UInt32.toNat_toUInt8]
    omega
  rwa [e] at h
theorem c_torow0 {c : Code} {b : Nat} {cs : Array Value} {e : TypeId} {s m : Nat} (hr : Rep (.blk b (.cells cs e (0, 0))) (.row (some ⟨b, 0, none⟩) m e s 0 []) l l') (hs : cs.size = m * s) (hm : m ≤ maxLen)
    (h : CP r P n D W Bo c Q F l') : CP r P n D W Bo c Q F l := fun a w ha hw => h a w ha (hw.change hr rfl rfl rfl (Nat.le_refl _) (fun _ _ _ => rfl)
    ⟨by simp, Nat.zero_le _, .inr ⟨b, cs, rfl, (hw.own _ hr.mem).1, hm, hs, by simp⟩⟩ (fun k hk => .inl hk))
end
end Eng
namespace Go.Proofs.YtejdjnkilikehaaGreatDoor
open Go Eng Sha Cha
set_option maxRecDepth 100000
def LC (w : World) : Prop := LS w ∧ Rd w (some ⟨5, 0, none⟩) (ws cst)
theorem LC.st {W w : World} {l : SH} (h : LC W) (hs : St W [] w l) : LC w := ⟨h.1.st hs, h.2.st hs⟩
theorem hzn {k : List UInt8} {m : Nat} (h : k.length = m) : (bs k).toArray.size = m := by simp [bs_length, h]
theorem hzw {v : List UInt32} {m : Nat} (h : v.length = m) : (ws v).toArray.size = m := by simp [ws_length, h]
theorem rd_drop {W : World} {Bo : List Nat} {l : SH} {b i : Nat} {q : List UInt8} {e : TypeId} {fz : Nat × Nat} (hm : Res.blk b (.cells (bs q).toArray e fz) ∈ l) : RdS W Bo l (some ⟨b, i, none⟩) (bs (q.drop i)) :=
  rdB hm fun j v h => by rw [bs_drop, List.getElem?_drop] at h; rw [List.getElem?_toArray]; exact h
theorem c_first_ok (w : World) (k n : List UInt8) (c : UInt32) (hg : LC w) (hk : k.length = 32) (hn : n.length = 12) :
    Pure Tryz.prog 208 [.agg (bs k).toArray, .agg (bs n).toArray, W32 c] w (.agg (ws (first k n c)).toArray) := by
  refine enter Tryz.func208 Tryz.ntmps208 ?_
  refine c_seq <| c_reg <| s_box rfl fun b3 => s_box rfl fun b4 => s_alloc fun b6 => s_nil <| q_then <| c_seq <| c_regL [.blk b4 (.cells (bs n).toArray 65 (0, 0)), .blk b3 (.cells (bs k).toArray 24 (0, 0))] <| r_y 0 rfl y_sla <| r_y 1 rfl y_sla <| r_W 2 rfl <| s_cpv (b := b6) (off := 0) (m := 16) (k := 4) (cs := (ws (List.replicate 16 0)).toArray) (ys := ws cst) (?_) (rdW0 hg.2) (h1 := fun v hv => ws_one hv) (hle := by decide) (hrep := .head _) (hfit := by decide)
  rw [show (((ws (List.replicate 16 0)).toArray).toList.take 0 ++ (ws cst).take (Nat.min 4 16) ++ ((ws (List.replicate 16 0)).toArray).toList.drop (0 + Nat.min 4 16)).toArray = (ws (cst ++ ws4 k 0 ++ List.replicate 12 0)).toArray by rfl]
  refine r_K <| r_E <| q_then <| c_seq <| c_seq <| c_reg <| s_y y_mv <| s_nil <| q_then <| c_block <| ?_
  refine c_loop (fun i : Nat => [(2, W32 c), (3, .pointer (some ⟨b3, 0, none⟩)), (4, .pointer (some ⟨b4, 0, none⟩)), (6, .pointer (some ⟨b6, 0, none⟩)), (12, I i)]) (fun i => [.blk b6 (.cells (ws (cst ++ ws4 k i ++ List.replicate (12 - i) 0)).toArray 208 (0, 0)), .blk b4 (.cells (bs n).toArray 65 (0, 0)), .blk b3 (.cells (bs k).toArray 24 (0, 0))]) (fun i => i ≤ 8) (fun i => 8 - i) 0 (by omega) ⟨rfl, rfl, rfl, rfl, rfl, trivial⟩ (.refl _) ?_
  intro i hi
  by_cases h8 : i < 8
  · have hA : (cst ++ ws4 k i).length = 4 + i := by rw [List.length_append, ws4_length]; rfl
    have hs := set_next (cst ++ ws4 k i) (11 - i) (4 + i) (wle k (4 * i)) hA
    rw [show 11 - i + 1 = 12 - i by omega, show cst ++ ws4 k i ++ [wle k (4 * i)] = cst ++ ws4 k (i + 1) by rw [ws4_succ, List.append_assoc]] at hs
    refine c_seq <| c_reg <| s_kt (y_lss (p := ((i : Nat) : Int)) (q := 8)) (by omega) <| s_nil <| q_then <| c_seq <| c_t <| c_skip <| q_then <| c_seq <| c_block <| c_seq <| c_reg <| s_y y_mv <| s_y y_as <| s_nil <| q_then <| c_reg <| s_y y_mv <| s_y (y_add (p := 4) (q := ((i : Nat) : Int))) <| s_y y_mv <| s_y (y_mul (p := 4) (q := ((i : Nat) : Int))) <| s_y (y_slal (i := 4 * ((i : Nat) : Int))) <| ?_
    rw [show 0 + (4 * ((i : Nat) : Int)).toNat * 1 = 4 * i by omega, show (4 * ((i : Nat) : Int)).toNat = 4 * i by omega]
    refine s_pure (fun w' hw => by
      have h9 := c_word_ok w' (some ⟨b3, 4 * i, none⟩) (32 - 4 * i) (32 - 4 * i) (k.drop (4 * i)) (rd_drop (.tail _ (.tail _ (.head _))) w' hw) (by omega) (by rw [List.length_drop]; omega)
      rw [wle_drop] at h9
      exact h9) <| s_y (y_ixn (4 + i) (m := 16)) <| s_stw (?_) (hl := by simp only [List.length_append, ws4_length, List.length_replicate, show cst.length = 4 from rfl]; omega)
    rw [hs]
    refine s_nil <| q_nb <| q_then <| c_reg <| s_y (y_add (p := ((i : Nat) : Int)) (q := 1)) <| s_y y_mv <| s_nil <| ?_
    rw [show ((i : Nat) : Int) + 1 = ((i + 1 : Nat) : Int) by omega, show 11 - i = 12 - (i + 1) by omega]
    exact q_round (i + 1) (by omega) (by omega) ⟨rfl, rfl, rfl, rfl, rfl, trivial⟩ (.refl _)
  obtain rfl : i = 8 := by omega
  have hs12 : (cst ++ ws4 k 8 ++ List.replicate (12 - 8) (0 : UInt32)).set 12 c = cst ++ ws4 k 8 ++ [c] ++ ws4 n 0 ++ List.replicate 3 0 := by
    rw [show ws4 n 0 = [] from rfl, List.append_nil]
    exact set_next (cst ++ ws4 k 8) 3 12 c (by rw [List.length_append, ws4_length]; rfl)
  refine c_seq <| c_reg <| s_kf (y_lss (p := ((8 : Nat) : Int)) (q := 8)) (by omega) <| s_nil <| q_then <| c_seq <| c_f <| c_exit <| q_ex <| q_ex <| q_exb <| q_then <| c_seq <| c_reg <| s_y y_mv <| s_y (y_ixn 12 (m := 16)) <| s_stw (?_) (hl := by simp only [List.length_append, ws4_length, List.length_replicate]; decide)
  rw [hs12]
  refine s_nil <| q_then <| c_seq <| c_seq <| c_reg <| s_y y_mv <| s_nil <| q_then <| c_block <| ?_
  refine c_loop (fun i : Nat => [(4, .pointer (some ⟨b4, 0, none⟩)), (6, .pointer (some ⟨b6, 0, none⟩)), (25, I i)]) (fun i => [.blk b6 (.cells (ws (cst ++ ws4 k 8 ++ [c] ++ ws4 n i ++ List.replicate (3 - i) 0)).toArray 208 (0, 0)), .blk b4 (.cells (bs n).toArray 65 (0, 0))]) (fun i => i ≤ 3) (fun i => 3 - i) 0 (by omega) ⟨rfl, rfl, rfl, trivial⟩ (.cons_cons _ (.cons_cons _ (List.nil_sublist _))) ?_
  intro i hi
  by_cases h3 : i < 3
  · have hA : (cst ++ ws4 k 8 ++ [c] ++ ws4 n i).length = 13 + i := by simp only [List.length_append, ws4_length]; rw [show cst.length + 8 + [c].length = 13 from rfl]
    have hs := set_next (cst ++ ws4 k 8 ++ [c] ++ ws4 n i) (2 - i) (13 + i) (wle n (4 * i)) hA
    rw [show 2 - i + 1 = 3 - i by omega, show cst ++ ws4 k 8 ++ [c] ++ ws4 n i ++ [wle n (4 * i)] = cst ++ ws4 k 8 ++ [c] ++ ws4 n (i + 1) by rw [ws4_succ n i, List.append_assoc (cst ++ ws4 k 8 ++ [c])]] at hs
    refine c_seq <| c_reg <| s_kt (y_lss (p := ((i : Nat) : Int)) (q := 3)) (by omega) <| s_nil <| q_then <| c_seq <| c_t <| c_skip <| q_then <| c_seq <| c_block <| c_seq <| c_reg <| s_y y_mv <| s_y y_as <| s_nil <| q_then <| c_reg <| s_y y_mv <| s_y (y_add (p := 13) (q := ((i : Nat) : Int))) <| s_y y_mv <| s_y (y_mul (p := 4) (q := ((i : Nat) : Int))) <| s_y (y_slal (i := 4 * ((i : Nat) : Int))) <| ?_
    rw [show 0 + (4 * ((i : Nat) : Int)).toNat * 1 = 4 * i by omega, show (4 * ((i : Nat) : Int)).toNat = 4 * i by omega]
    refine s_pure (fun w' hw => by
      have h9 := c_word_ok w' (some ⟨b4, 4 * i, none⟩) (12 - 4 * i) (12 - 4 * i) (n.drop (4 * i)) (rd_drop (.tail _ (.head _)) w' hw) (by omega) (by rw [List.length_drop]; omega)
      rw [wle_drop] at h9
      exact h9) <| s_y (y_ixn (13 + i) (m := 16)) <| s_stw (?_) (hl := by rw [List.length_append, hA, List.length_replicate]; omega)
    rw [hs]
    refine s_nil <| q_nb <| q_then <| c_reg <| s_y (y_add (p := ((i : Nat) : Int)) (q := 1)) <| s_y y_mv <| s_nil <| ?_
    rw [show ((i : Nat) : Int) + 1 = ((i + 1 : Nat) : Int) by omega, show 2 - i = 3 - (i + 1) by omega]
    exact q_round (i + 1) (by omega) (by omega) ⟨rfl, rfl, rfl, trivial⟩ (.refl _)
  obtain rfl : i = 3 := by omega
  rw [show cst ++ ws4 k 8 ++ [c] ++ ws4 n 3 ++ List.replicate (3 - 3) 0 = first k n c by rw [Nat.sub_self, List.replicate_zero, List.append_nil]; rfl]
  have hl := first_length k n c
  obtain ⟨S, hS⟩ : ∃ S, first k n c = S := ⟨_, rfl⟩
  rw [hS] at hl ⊢
  refine c_seq <| c_reg <| s_kf (y_lss (p := ((3 : Nat) : Int)) (q := 3)) (by omega) <| s_nil <| q_then <| c_seq <| c_f <| c_exit <| q_ex <| q_ex <| q_exb <| q_then <| c_seq <| c_reg <| s_y (y_lda (b := b6) (cs := (ws S).toArray) (hl := hzw hl)) <| s_sta (b := b6) (vs := (ws S).toArray) (cs := (ws S).toArray) (h1 := fun u hu => ws_one (by simpa using hu)) (hl := rfl) (hs1 := hzw hl) ?_
  refine s_nil <| q_then <| c_ret <| ?_
  exact ret1 Tryz.results208 (rv_ca (b := b6) (hl := hzw hl)) fun w' hw => ⟨rfl, hw.sub (List.nil_sublist _)⟩
theorem c_block_ok (w : World) (k n : List UInt8) (c : UInt32) (hg : LC w) (hk : k.length = 32) (hn : n.length = 12) :
    Gives Tryz.prog 158 [.agg (bs k).toArray, .agg (bs n).toArray, W32 c] w [] (fun y : Option Addr × Nat => .slice y.1 64 y.2) (fun y => [.row y.1 y.2 5 1 64 (bs (blk k n c))]) (fun _ => True) := by
  have hl := first_length k n c
  have hblk : blk k n c = outU (rndU (first k n c) 10) (first k n c) 16 := rfl
  obtain ⟨S, hS⟩ : ∃ S, first k n c = S := ⟨_, rfl⟩
  rw [hS] at hl hblk
  have hR : ∀ r, (rndU S r).length = 16 := fun r => by rw [rndU_length]; exact hl
  refine enter Tryz.func158 Tryz.ntmps158 ?_
  refine c_seq <| c_reg <| s_box rfl fun b3 => s_box rfl fun b4 => s_y y_as <| s_nil <| q_then <| c_seq <| c_reg <| s_y (y_lda (b := b3) (cs := (bs k).toArray) (hl := hzn hk)) <| s_y (y_lda (b := b4) (cs := (bs n).toArray) (hl := hzn hn)) <| s_y y_mv <| s_pure (fun w' hw => c_first_ok w' k n c (hg.st hw) hk hn) <| ?_
  rw [hS]
  refine s_alloc fun b7 => s_sta (b := b7) (vs := (ws S).toArray) (cs := (ws (List.replicate 16 0)).toArray) (h1 := fun u hu => ws_one (by simpa using hu)) (hl := by rw [hzw hl]; rfl) (hs1 := hzw hl) ?_
  refine s_nil <| q_then <| c_seq <| c_reg <| s_y (y_lda (b := b7) (cs := (ws S).toArray) (hl := hzw hl)) <| s_alloc fun b8 => s_sta (b := b8) (vs := (ws S).toArray) (cs := (ws (List.replicate 16 0)).toArray) (h1 := fun u hu => ws_one (by simpa using hu)) (hl := by rw [hzw hl]; rfl) (hs1 := hzw hl) ?_
  refine s_nil <| q_then <| c_seq <| c_reg <| s_y y_func <| s_y y_as <| s_nil <| q_then <| c_seq <| c_seq <| c_reg <| s_y y_mv <| s_nil <| q_then <| c_block <| ?_
  refine c_loop (fun i : Nat => [(7, .pointer (some ⟨b7, 0, none⟩)), (8, .pointer (some ⟨b8, 0, none⟩)), (9, .func (.func 209) #[.pointer (some ⟨b8, 0, none⟩)] #[]), (21, I i)]) (fun i => [.blk b8 (.cells (ws (rndU S i)).toArray 208 (0, 0)), .blk b7 (.cells (ws S).toArray 208 (0, 0))]) (fun i => i ≤ 10) (fun i => 10 - i) 0 (by omega) ⟨rfl, rfl, rfl, rfl, trivial⟩ (.cons_cons _ (.cons_cons _ (List.nil_sublist _))) ?_
  intro r hr
  by_cases h10 : r < 10
  · have hVl := hR r
    have hnx : dgU (colU (rndU S r) 4) 4 = rndU S (r + 1) := rfl
    obtain ⟨V, hV⟩ : ∃ V, rndU S r = V := ⟨_, rfl⟩
    rw [hV] at hVl hnx ⊢
    refine c_seq <| c_reg <| s_kt (y_lss (p := ((r : Nat) : Int)) (q := 10)) (by omega) <| s_nil <| q_then <| c_seq <| c_t <| c_skip <| q_then <| c_seq <| c_block <| c_seq <| c_seq <| c_reg <| s_y y_mv <| s_nil <| q_then <| c_block <| ?_
    refine c_loop (fun i : Nat => [(7, .pointer (some ⟨b7, 0, none⟩)), (8, .pointer (some ⟨b8, 0, none⟩)), (9, .func (.func 209) #[.pointer (some ⟨b8, 0, none⟩)] #[]), (21, I r), (23, I i)]) (fun i => [.blk b8 (.cells (ws (colU V i)).toArray 208 (0, 0)), .blk b7 (.cells (ws S).toArray 208 (0, 0))]) (fun i => i ≤ 4) (fun i => 4 - i) 0 (by omega) ⟨rfl, rfl, rfl, rfl, rfl, trivial⟩ (.refl _) ?_
    intro i hi
    by_cases h4 : i < 4
    · have hCl : (colU V i).length = 16 := by rw [colU_length]; exact hVl
      refine c_seq <| c_reg <| s_kt (y_lss (p := ((i : Nat) : Int)) (q := 4)) (by omega) <| s_nil <| q_then <| c_seq <| c_t <| c_skip <| q_then <| c_seq <| c_block <| c_seq <| c_reg <| s_y y_mv <| s_y y_as <| s_nil <| q_then <| c_reg <| s_y y_mv <| s_y y_mv <| s_y y_mv <| s_y (y_add (p := 4) (q := ((i : Nat) : Int))) <| s_y y_mv <| s_y (y_add (p := 8) (q := ((i : Nat) : Int))) <| s_y y_mv <| s_y (y_add (p := 12) (q := ((i : Nat) : Int))) <| s_chg (σ := Unit) (val := fun _ => .tuple #[]) (b := b8) (o' := fun _ => .cells (ws (colU V (i + 1))).toArray 208 (0, 0)) (lx := fun _ => []) (φ := fun _ => True) (hc := fun w' hw => (by
        have h9 := c_mix_ok w' b8 208 (colU V i) i (4 + i) (8 + i) (12 + i) hw.blk_at hCl (by omega) (by omega) (by omega) (by omega)
        rw [show ((4 + i : Nat) : Int) = 4 + ((i : Nat) : Int) by omega, show ((8 + i : Nat) : Int) = 8 + ((i : Nat) : Int) by omega, show ((12 + i : Nat) : Int) = 12 + ((i : Nat) : Int) by omega] at h9
        exact h9)) (hrep := fun _ => .head _) fun _ _ => s_nil <| q_nb <| q_then <| c_reg <| s_y (y_add (p := ((i : Nat) : Int)) (q := 1)) <| s_y y_mv <| s_nil <| ?_
      rw [show ((i : Nat) : Int) + 1 = ((i + 1 : Nat) : Int) by omega]
      exact q_round (i + 1) (by omega) (by omega) ⟨rfl, rfl, rfl, rfl, rfl, trivial⟩ (.refl _)
    obtain rfl : i = 4 := by omega
    have hUl : (colU V 4).length = 16 := by rw [colU_length]; exact hVl
    obtain ⟨U', hU⟩ : ∃ U', colU V 4 = U' := ⟨_, rfl⟩
    rw [hU] at hUl hnx ⊢
    refine c_seq <| c_reg <| s_kf (y_lss (p := ((4 : Nat) : Int)) (q := 4)) (by omega) <| s_nil <| q_then <| c_seq <| c_f <| c_exit <| q_ex <| q_ex <| q_exb <| q_then <| c_seq <| c_reg <| s_y y_mv <| s_nil <| q_then <| c_block <| ?_
    refine c_loop (fun i : Nat => [(7, .pointer (some ⟨b7, 0, none⟩)), (8, .pointer (some ⟨b8, 0, none⟩)), (9, .func (.func 209) #[.pointer (some ⟨b8, 0, none⟩)] #[]), (21, I r), (36, I i)]) (fun i => [.blk b8 (.cells (ws (dgU U' i)).toArray 208 (0, 0)), .blk b7 (.cells (ws S).toArray 208 (0, 0))]) (fun i => i ≤ 4) (fun i => 4 - i) 0 (by omega) ⟨rfl, rfl, rfl, rfl, rfl, trivial⟩ (.refl _) ?_
    intro i hi
    by_cases h4 : i < 4
    · have hCl : (dgU U' i).length = 16 := by rw [dgU_length]; exact hUl
      refine c_seq <| c_reg <| s_kt (y_lss (p := ((i : Nat) : Int)) (q := 4)) (by omega) <| s_nil <| q_then <| c_seq <| c_t <| c_skip <| q_then <| c_seq <| c_block <| c_seq <| c_reg <| s_y y_mv <| s_y y_as <| s_nil <| q_then <| c_reg <| s_y y_mv <| s_y y_mv <| s_y y_mv <| s_y (y_add (p := ((i : Nat) : Int)) (q := 1)) <| s_y (y_rem (p := ((i : Nat) : Int) + 1) (q := 4)) <| s_y (y_add (p := 4) (q := (((i : Nat) : Int) + 1) % 4)) <| s_y y_mv <| s_y (y_add (p := ((i : Nat) : Int)) (q := 2)) <| s_y (y_rem (p := ((i : Nat) : Int) + 2) (q := 4)) <| s_y (y_add (p := 8) (q := (((i : Nat) : Int) + 2) % 4)) <| s_y y_mv <| s_y (y_add (p := ((i : Nat) : Int)) (q := 3)) <| s_y (y_rem (p := ((i : Nat) : Int) + 3) (q := 4)) <| s_y (y_add (p := 12) (q := (((i : Nat) : Int) + 3) % 4)) <| s_chg (σ := Unit) (val := fun _ => .tuple #[]) (b := b8) (o' := fun _ => .cells (ws (dgU U' (i + 1))).toArray 208 (0, 0)) (lx := fun _ => []) (φ := fun _ => True) (hc := fun w' hw => (by
        have h9 := c_mix_ok w' b8 208 (dgU U' i) i (4 + (i + 1) % 4) (8 + (i + 2) % 4) (12 + (i + 3) % 4) hw.blk_at hCl (by omega) (by omega) (by omega) (by omega)
        rw [show ((4 + (i + 1) % 4 : Nat) : Int) = 4 + (((i : Nat) : Int) + 1) % 4 by omega, show ((8 + (i + 2) % 4 : Nat) : Int) = 8 + (((i : Nat) : Int) + 2) % 4 by omega, show ((12 + (i + 3) % 4 : Nat) : Int) = 12 + (((i : Nat) : Int) + 3) % 4 by omega] at h9
        exact h9)) (hrep := fun _ => .head _) fun _ _ => s_nil <| q_nb <| q_then <| c_reg <| s_y (y_add (p := ((i : Nat) : Int)) (q := 1)) <| s_y y_mv <| s_nil <| ?_
      rw [show ((i : Nat) : Int) + 1 = ((i + 1 : Nat) : Int) by omega]
      exact q_round (i + 1) (by omega) (by omega) ⟨rfl, rfl, rfl, rfl, rfl, trivial⟩ (.refl _)
    obtain rfl : i = 4 := by omega
    rw [hnx]
    refine c_seq <| c_reg <| s_kf (y_lss (p := ((4 : Nat) : Int)) (q := 4)) (by omega) <| s_nil <| q_then <| c_seq <| c_f <| c_exit <| q_ex <| q_ex <| q_exb <| q_nb <| q_then <| c_reg <| s_y (y_add (p := ((r : Nat) : Int)) (q := 1)) <| s_y y_mv <| s_nil <| ?_
    rw [show ((r : Nat) : Int) + 1 = ((r + 1 : Nat) : Int) by omega]
    exact q_round (r + 1) (by omega) (by omega) ⟨rfl, rfl, rfl, rfl, trivial⟩ (.refl _)
  obtain rfl : r = 10 := by omega
  have hVl := hR 10
  obtain ⟨V, hV⟩ : ∃ V, rndU S 10 = V := ⟨_, rfl⟩
  rw [hV] at hVl hblk ⊢
  refine c_seq <| c_reg <| s_kf (y_lss (p := ((10 : Nat) : Int)) (q := 10)) (by omega) <| s_nil <| q_then <| c_seq <| c_f <| c_exit <| q_ex <| q_ex <| q_exb <| q_then <| c_seq <| c_reg <| s_mkb (i := 0) (j := 64) fun b12 => s_y y_as <| s_nil <| q_then <| ?_
  rw [show (64 : Int).toNat = 64 from rfl, show (0 : Int).toNat = 0 from rfl]
  refine c_torow0 (b := b12) (s := 1) (m := 64) (cs := (bs (List.replicate 64 0)).toArray) (e := 5) (.head _) (hzn List.length_replicate) (by unfold maxLen; omega) ?_
  refine c_seq <| c_seq <| c_reg <| s_y (y_lda (b := b8) (cs := (ws V).toArray) (hl := hzw hVl)) <| s_y y_mv <| s_nil <| q_then <| c_block <| ?_
  refine c_loop3 (fun (i : Nat) (a : Option Addr) (cc : Nat) => [(7, .pointer (some ⟨b7, 0, none⟩)), (12, .slice a (4 * i) cc), (57, .agg (ws V).toArray), (58, I i)]) (fun i a cc => [.row a cc 5 1 (4 * i) (bs (outU V S i)), .blk b7 (.cells (ws S).toArray 208 (0, 0))]) (fun i _ _ => i ≤ 16) (fun i _ _ => 16 - i) 0 (some ⟨b12, 0, none⟩) 64 (by omega) ⟨rfl, rfl, rfl, rfl, trivial⟩ (.cons_cons _ (.cons _ (.cons_cons _ (List.nil_sublist _)))) ?_
  intro i a cc hi
  by_cases h16 : i < 16
  · have hix : (ws V).toArray[i]? = some (W32 (V.getD i 0)) := by rw [List.getElem?_toArray]; exact ws_get (by omega)
    refine c_seq <| c_reg <| s_kt (y_lss (p := ((i : Nat) : Int)) (q := 16)) (by omega) <| s_nil <| q_then <| c_seq <| c_t <| c_skip <| q_then <| c_seq <| c_block <| c_seq <| c_reg <| s_y y_mv <| s_y (y_ixv (v := W32 (V.getD i 0)) i hix) <| s_y y_as <| s_y y_as <| s_nil <| q_then <| c_seq <| c_reg <| s_y y_mv <| s_y y_mv <| s_y (y_ixn i (m := 16)) <| s_y (y_ldwb (q := S) i (by omega)) <| s_y y_add32 <| s_y y_as <| s_nil <| q_then <| ?_
    have hsucc := outU_succ V S i
    obtain ⟨z, hz⟩ : ∃ z, V.getD i 0 + S.getD i 0 = z := ⟨_, rfl⟩
    rw [hz] at hsucc ⊢
    refine c_reg <| s_y y_mv <| s_y y_mv <| s_y y_cv8w <| s_y y_mv <| s_y y_shr32 <| s_y y_cv8w <| s_y y_mv <| s_y y_shr32 <| s_y y_cv8w <| s_y y_mv <| s_y y_shr32 <| s_y y_cv8w <| s_bslr (cs := bs (le4 z)) fun b79 => s_app (m := 4) (srcB (q := le4 z) (rdR (.head _)) rfl) (h1 := fun v hv => bs_one hv) (hm := .tail _ (.head _)) (hrep := fun _ _ => .tail _ (.head _)) fun a80 c80 h80 => ?_
    rw [← bs_append, ← hsucc, show 4 * i + 4 = 4 * (i + 1) by omega]
    refine s_y y_as <| s_nil <| q_nb <| q_then <| c_reg <| s_y (y_add (p := ((i : Nat) : Int)) (q := 1)) <| s_y y_mv <| s_nil <| ?_
    rw [show ((i : Nat) : Int) + 1 = ((i + 1 : Nat) : Int) by omega]
    exact q_round3 (x := i) (y := a) (z := cc) (i + 1) a80 c80 (by omega) (by omega) ⟨rfl, rfl, rfl, rfl, trivial⟩ (.cons _ (.refl _))
  obtain rfl : i = 16 := by omega
  rw [← hblk]
  refine c_seq <| c_reg <| s_kf (y_lss (p := ((16 : Nat) : Int)) (q := 16)) (by omega) <| s_nil <| q_then <| c_seq <| c_f <| c_exit <| q_ex <| q_ex <| q_exb <| q_then <| c_seq <| c_reg <| s_y y_mv <| s_y y_as <| s_nil <| q_then <| c_ret <| ?_
  exact ret1 Tryz.results158 rv_t fun w' hw => ⟨(a, cc), trivial, rfl, hw.sub (.cons_cons _ (List.nil_sublist _))⟩
end Go.Proofs.YtejdjnkilikehaaGreatDoor
end
section
namespace Eng
open Go Go.RowKit
section
variable {P : Program} {n : Nat} {D : List Deferred} {W : World} {Bo : List Nat} {F : List (Nat × Value)} {l : SH}
  {d : Option Tmp} {ty : TypeId} {ps : String} {af : Array Edge} {g : Option (Nat × Bool)} {x y : Operand} {ta tb : TypeId}
theorem y_min {p q : Int} (hx : evO F x = some (I p) := by rfl) (hy : evO F y = some (I q) := by rfl) : Y P n D W Bo ⟨d, .call ⟨.builtin .min, #[x, y], #[ta, tb]⟩, ty, ps, af, g⟩ F l (I (min p q)) :=
  y_b (vs := [I p, I q]) (by simp [evL, hx, hy]) fun w _ cs => by
    by_cases h : q < p
    · simp [builtin, Builtin.min_, Builtin.min2, h, Int.min_eq_right (Int.le_of_lt h)]
    · simp [builtin, Builtin.min_, Builtin.min2, h, Int.min_eq_left (Int.not_lt.1 h)]
end
end Eng
namespace Go.Proofs.YtejdjnkilikehaaGreatDoor
open Go Eng Sha Cha
set_option maxRecDepth 100000
theorem Clone_ok (w : World) (a : Option Addr) (c : Nat) (q : List UInt8) (hr : Rd w a (bs q)) (hl : q.length < 1000000000) (hne : a ≠ none) :
    Gives Tryz.prog 156 [.slice a q.length c] w [] (fun y : Option Addr × Nat => .slice y.1 q.length y.2) (fun y => [.row y.1 y.2 5 1 q.length (bs q)]) (fun y => y.1 ≠ none) := by
  have hn : a.isNone = false := by cases a with
    | none => exact absurd rfl hne
    | some _ => rfl
  refine enter Tryz.func156 Tryz.ntmps156 ?_
  refine c_seq <| c_reg <| s_y y_as <| s_nil <| q_then <| c_seq <| c_seq <| c_reg <| s_y y_mv <| s_y y_eqln <| ?_
  rw [hn]
  refine s_nil <| q_then <| c_f <| c_skip <| q_then <| c_seq <| c_reg <| s_bsl0 fun b5 => s_y y_mv <| s_app (m := q.length) (srcB (q := q) (rdW0 hr) rfl) (h1 := fun v hv => bs_one hv) (hm := .head _) (hrep := fun _ _ => .head _) fun a7 c7 h7 => ?_
  rw [List.nil_append, Nat.zero_add]
  refine s_y y_as <| s_nil <| q_then <| c_ret <| ?_
  exact ret1 Tryz.results156 rv_t fun w' hw => ⟨(a7, c7), (fun h => by cases (h7 h).1), rfl, hw⟩
theorem Clone_nil (w : World) (n c : Nat) : Pure Tryz.prog 156 [.slice none n c] w (.slice none 0 0) := by
  refine enter Tryz.func156 Tryz.ntmps156 ?_
  refine c_seq <| c_reg <| s_y y_as <| s_nil <| q_then <| c_seq <| c_seq <| c_reg <| s_y y_mv <| s_y y_eqln <| s_nil <| q_then <| c_t <| c_seq <| c_reg <| s_y y_as <| s_nil <| q_then <| c_ret <| q_ret <| ?_
  exact ret1 Tryz.results156 rv_t fun w' hw => ⟨rfl, hw⟩
theorem Chunk_ok (w : World) (a : Option Addr) (n c : Nat) : Gives Tryz.prog 157 [.slice a n c, I 64] w [] (fun y : Nat × Nat => .func (.func 207) #[] #[.pointer (some ⟨y.1, 0, none⟩), .pointer (some ⟨y.2, 0, none⟩)]) (fun y => [.blk y.2 (.cells #[I 64] 3 (0, 0)), .blk y.1 (.cells #[.slice a n c] 27 (0, 0))]) (fun _ => True) := by
  refine enter Tryz.func157 Tryz.ntmps157 ?_
  refine c_seq <| c_reg <| s_box rfl fun b2 => s_box rfl fun b3 => s_y y_as <| s_nil <| q_then <| c_seq <| c_seq <| c_reg <| s_y (y_ld (b := b3) (v := I 64)) <| s_kf (y_lss (p := 64) (q := 1)) (by omega) <| s_nil <| q_then <| c_f <| c_skip <| q_then <| c_seq <| c_reg <| s_y y_func <| s_y y_as <| s_nil <| q_then <| c_ret <| ?_
  exact ret1 Tryz.results157 rv_t fun w' hw => ⟨(b2, b3), trivial, rfl, hw⟩
def chl (n i : Nat) : Nat := min 64 (n - 64 * i)
theorem chunk1_ok (w' : World) (rc : Loop) (Lp b1 b2 : Nat) (pa : Option Addr) (n pc : Nat) (M : Nat → SH) (hs : ∀ p ∈ M 0, p.holds w') (hnd : (keys (M 0)).Nodup) (hpz : rc.params.size = 1)
    (hL : ∀ i, Res.blk Lp (.loop rc) ∈ M i) (h1 : ∀ i, Res.blk b1 (.cells #[.slice pa n pc] 27 (0, 0)) ∈ M i) (h2 : ∀ i, Res.blk b2 (.cells #[I 64] 3 (0, 0)) ∈ M i) (hn : n ≤ 1000000) (hnc : n ≤ pc)
    (hround : ∀ (i : Nat) (_ : 64 * i < n) (w2 : World), St w' (keys (M 0)) w2 (M i) →
      RoundIn (Fw none) 0 Tryz.prog Lp rc.fn ((rc.params.zip #[Value.slice (sa pa (64 * i) (64 * i + chl n i) 1) (chl n i) (chl n i)]).foldl (fun tmps (t, a) => tmps.setIfInBounds t a) rc.tmps) rc.assign rc.body w2 fun e' w3 => ∃ _ : Unit, True ∧ e' = .returned (.bool true) ∧ St w' (keys (M 0)) w3 (M (i + 1))) :
    Calls Tryz.prog 207 #[.func (.yield Lp) #[] #[], .pointer (some ⟨b1, 0, none⟩), .pointer (some ⟨b2, 0, none⟩)] w' fun e' w2 => (∃ v, e' = .returned v) ∧ ∃ i, n ≤ 64 * i ∧ St w' (keys (M 0)) w2 (M i) := by
  refine enterL (args := [.func (.yield Lp) #[] #[], .pointer (some ⟨b1, 0, none⟩), .pointer (some ⟨b2, 0, none⟩)]) Tryz.func207 Tryz.ntmps207 hs hnd ?_
  refine c_seq <| c_reg <| s_y y_as <| s_nil <| q_then <| c_block <| ?_
  refine c_loop (fun i : Nat => [(0, .func (.yield Lp) #[] #[]), (1, .pointer (some ⟨b1, 0, none⟩)), (2, .pointer (some ⟨b2, 0, none⟩)), (4, I (64 * i : Nat))]) M (fun i => 64 * i ≤ n + 63) (fun i => n + 64 - 64 * i) 0 (by omega) ⟨rfl, rfl, rfl, rfl, trivial⟩ (.refl _) ?_
  intro i hi
  by_cases hin : 64 * i < n
  · obtain ⟨ch, hch⟩ : ∃ ch, chl n i = ch := ⟨_, rfl⟩
    have hch' : min (64 : Int) ((n - 64 * i : Nat) : Int) = ((ch : Nat) : Int) := by rw [← hch]; unfold chl; omega
    have hch1 : 1 ≤ ch ∧ ch ≤ 64 ∧ 64 * i + ch ≤ n := by rw [← hch]; unfold chl; omega
    have hr9 := hround i hin
    rw [hch] at hr9
    refine c_seq <| c_seq <| c_reg <| s_y y_mv <| s_y (y_ld (b := b1) (hm := h1 _) (v := .slice pa n pc)) <| s_y y_len <| s_kt (y_lss (p := ((64 * i : Nat) : Int)) (q := ((n : Nat) : Int))) (by omega) <| s_nil <| q_then <| c_t <| c_skip <| q_then <| c_seq <| c_block <| c_seq <| c_regd <| d_y (y_ld (b := b2) (hm := h2 _) (v := I 64)) <| d_y (y_ld (b := b1) (hm := h1 _) (v := .slice pa n pc)) <| d_y y_mv <| d_y (y_sll (i := ((64 * i : Nat) : Int))) <| d_y y_len <| d_y (y_min (p := 64) (q := ((n - 64 * i : Nat) : Int))) <| ?_
    rw [hch']
    refine d_y y_as <| d_nil <| q_then <| c_seq <| c_reg <| s_y y_mv <| s_y (y_ld (b := b1) (hm := h1 _) (v := .slice pa n pc)) <| s_y y_mv <| s_y y_mv <| s_y y_mv <| s_y (y_add (p := ((64 * i : Nat) : Int)) (q := ((ch : Nat) : Int))) <| s_y y_mv <| s_y y_mv <| s_y (y_add (p := ((64 * i : Nat) : Int)) (q := ((ch : Nat) : Int))) <| ?_
    rw [show ((64 * i : Nat) : Int) + ((ch : Nat) : Int) = ((64 * i + ch : Nat) : Int) by omega]
    refine s_y (y_sllhm (i := ((64 * i : Nat) : Int)) (j := ((64 * i + ch : Nat) : Int)) (h := ((64 * i + ch : Nat) : Int))) <| ?_
    rw [Int.toNat_natCast, Int.toNat_natCast, show 64 * i + ch - 64 * i = ch by omega]
    refine s_yield (L := Lp) (rc := rc) (σ := Unit) (fun _ => .bool true) (fun _ => M (i + 1)) (fun _ => True) (hL _) hpz (fun w2 h2 => hr9 w2 h2) (fun _ _ => ?_)
    refine s_y (v := .bool false) (y_not (b := true)) <| s_nil <| q_then <| c_f <| c_skip <| q_nb <| q_then <| c_reg <| s_y y_mv <| s_y (y_ld (b := b2) (hm := h2 _) (v := I 64)) <| s_y (y_add (p := ((64 * i : Nat) : Int)) (q := 64)) <| s_y y_as <| s_nil <| ?_
    rw [show ((64 * i : Nat) : Int) + 64 = ((64 * (i + 1) : Nat) : Int) by omega]
    exact q_round (i + 1) (by omega) (by omega) ⟨rfl, rfl, rfl, rfl, trivial⟩ (.refl _)
  · refine c_seq <| c_seq <| c_reg <| s_y y_mv <| s_y (y_ld (b := b1) (hm := h1 _) (v := .slice pa n pc)) <| s_y y_len <| s_kf (y_lss (p := ((64 * i : Nat) : Int)) (q := ((n : Nat) : Int))) (by omega) <| s_nil <| q_then <| c_f <| c_exit <| q_ex <| q_ex <| q_exb <| ?_
    exact ret0 Tryz.results207 (fun w2 h2 => ⟨⟨_, rfl⟩, i, by omega, h2⟩) _ (.inr rfl)
end Go.Proofs.YtejdjnkilikehaaGreatDoor
end
section
namespace Eng
open Go Go.RowKit
section
variable {r : Option Nat} {P : Program} {n : Nat} {D : List Deferred} {W : World} {Bo : List Nat} {F : List (Nat × Value)} {l : SH} {Q : Exit → Act → World → Prop} {c : Code}
theorem c_gen {rc : Loop} (lx : Loop → SH) (h : ∀ rb, rb = rc → CP r P n D W Bo c Q F (lx rb)) : CP r P n D W Bo c Q F (lx rc) := h rc rfl
end
theorem Rd.none {W : World} {xs : List Value} (h : Rd W none xs) : xs = [] := by
  rcases h with h | ⟨b, off, cs, t, fz, e, _⟩
  · exact h
  · cases e
theorem rdO3 {W0 w : World} {l0 l : SH} (hs : St W0 [] w l0) {a : Option Addr} {xs : List Value} (h : Rd W0 a xs) : RdS w (keys l0) l a xs := fun w' hw => by
  by_cases hne : xs = []
  · rw [hne]; exact Rd.nil _ _
  · refine Rd.congr h fun b hb => ?_
    have h1 : b < W0.heap.size := h.lt hne hb
    rw [hw.old b (Nat.lt_of_lt_of_le h1 hs.size) ?_, hs.old b h1 (by simp)]
    intro hm
    obtain ⟨q, hq, hk⟩ := mem_keys.1 hm
    rcases (hs.own q hq).2 b hk with h2 | h2
    · omega
    · simp at h2
end Eng
namespace Cha
open Go Eng Sha
def cur (k n q : List UInt8) (t : Nat) : List UInt8 := (strm k n q).take t ++ q.drop t
theorem cur_length (k n q : List UInt8) (t : Nat) : (cur k n q t).length = q.length := by
  unfold cur; rw [List.length_append, List.length_take, List.length_drop, strm_length]; omega
theorem cur_all (k n q : List UInt8) {t : Nat} (h : q.length ≤ t) : cur k n q t = strm k n q := by
  unfold cur
  rw [List.take_of_length_le (by rw [strm_length]; exact h), List.drop_eq_nil_of_le h, List.append_nil]
theorem cur_get (k n q : List UInt8) {t : Nat} (h : t < q.length) : (cur k n q t).getD t 0 = q.getD t 0 := Go.Proofs.YtejdjnkilikehaaGreatDoor.mix_get (strm k n q) q 0 t h (strm_length k n q)
theorem cur_set (k n q : List UInt8) {t : Nat} (h : t < q.length) : (cur k n q t).set t (q.getD t 0 ^^^ ks k n t) = cur k n q (t + 1) :=
  Go.Proofs.YtejdjnkilikehaaGreatDoor.mix_set (strm k n q) q 0 _ t h (strm_length k n q) (strm_at k n q h)
theorem ks_in (k n : List UInt8) (i j : Nat) (h : j < 64) : ks k n (64 * i + j) = (blk k n (UInt32.ofNat (1 + i))).getD j 0 := by
  unfold ks
  rw [show (64 * i + j) / 64 = i by omega, show (64 * i + j) % 64 = j by omega]
theorem ofNat_succ (i : Nat) : UInt32.ofNat (1 + i) + 1 = UInt32.ofNat (1 + (i + 1)) := by
  apply UInt32.toNat_inj.1
  rw [UInt32.toNat_add, UInt32.toNat_ofNat', UInt32.toNat_ofNat']
  show ((1 + i) % 2 ^ 32 + 1) % 2 ^ 32 = (1 + (i + 1)) % 2 ^ 32
  omega
theorem bs_lset (q : List UInt8) (i : Nat) (x : UInt8) : (bs q).set i (B x) = bs (q.set i x) := by unfold bs; rw [List.map_set]
end Cha
namespace Go.Proofs.YtejdjnkilikehaaGreatDoor
open Go Eng Sha Cha
set_option maxRecDepth 100000
theorem Clone_any (w : World) (a : Option Addr) (c : Nat) (q : List UInt8) (hr : Rd w a (bs q)) (hl : q.length < 1000000000) :
    Gives Tryz.prog 156 [.slice a q.length c] w [] (fun y : Option Addr × Nat => .slice y.1 q.length y.2) (fun y => [.row y.1 y.2 5 1 q.length (bs q)]) (fun y => 0 < q.length → y.1 ≠ none) := by
  by_cases hne : a = none
  · subst hne
    have h1 : q.length = 0 := by have := hr.none; rw [← bs_length, this]; rfl
    obtain rfl : q = [] := List.length_eq_zero_iff.1 h1
    exact (Clone_nil w 0 c).mono fun e w' ⟨h1, h2⟩ => ⟨(none, 0), (fun h => absurd h (by decide)), h1, h2.nilRow _ _⟩
  · exact (Clone_ok w a c q hr hl hne).mono fun e w' ⟨y, h1, h2⟩ => ⟨y, (fun _ => h1), h2⟩
theorem c_Stream_ok (w : World) (a : Option Addr) (c : Nat) (k n q : List UInt8) (hg : LC w) (hk : k.length = 32) (hn : n.length = 12) (hr : Rd w a (bs q)) (hl : q.length ≤ 65536) :
    Gives Tryz.prog 88 [.agg (bs k).toArray, .agg (bs n).toArray, .slice a q.length c] w [] (fun y : Option Addr × Nat => .tuple #[.slice y.1 q.length y.2, I 0]) (fun y => [.row y.1 y.2 5 1 q.length (bs (strm k n q))]) (fun _ => True) := by
  refine enterM Tryz.func88 Tryz.ntmps88 ?_
  refine c_seq <| c_reg <| s_box rfl fun b3 => s_box rfl fun b4 => s_y y_as <| s_y y_as <| s_nil <| q_then <| c_seq <| c_seq <| c_reg <| s_y y_mv <| s_y y_len <| s_kf (y_gtr (p := ((q.length : Nat) : Int)) (q := 65536)) (by omega) <| s_nil <| q_then <| c_f <| c_skip <| q_then <| c_seq <| c_reg <| s_y y_mv <| s_gives (fun w' hw => Clone_any w' a c q (hr.st hw) (by omega)) (fun y hy => ?_)
  obtain ⟨a0, c0⟩ := y
  refine s_row (fun hkc _ => ?_) (hm := .head _)
  refine s_y y_as <| s_nil <| q_then <| c_seq <| c_reg <| s_alloc fun b8 => s_st (b := b8) (v := W32 (UInt32.ofNat (1 + 0))) (cs := #[.int .u32 0]) (hl := Nat.zero_lt_one) ?_
  refine s_nil <| q_then <| c_seq <| c_seq <| c_reg <| s_y y_mv <| s_gives (fun w' hw => Chunk_ok w' a0 q.length c0) (fun y _ => ?_)
  obtain ⟨b62, b63⟩ := y
  refine s_nil <| q_then <| c_block <| ?_
  let M : Nat → Loop → Nat → Nat → SH := fun i rc L Dk => [.blk L (.loop rc), .blk Dk (.deferred (some [])), .blk b63 (.cells #[I 64] 3 (0, 0)), .blk b62 (.cells #[.slice a0 q.length c0] 27 (0, 0)), .blk b8 (.cells #[W32 (UInt32.ofNat (1 + i))] 151 (0, 0)), .row a0 c0 5 1 q.length (bs (cur k n q (64 * i))), .blk b4 (.cells (bs n).toArray 65 (0, 0)), .blk b3 (.cells (bs k).toArray 24 (0, 0))]
  refine c_rangeN (σ := Nat) (fun i => [.blk b63 (.cells #[I 64] 3 (0, 0)), .blk b62 (.cells #[.slice a0 q.length c0] 27 (0, 0)), .blk b8 (.cells #[W32 (UInt32.ofNat (1 + i))] 151 (0, 0)), .row a0 c0 5 1 q.length (bs (cur k n q (64 * i))), .blk b4 (.cells (bs n).toArray 65 (0, 0)), .blk b3 (.cells (bs k).toArray 24 (0, 0))]) (fun i => q.length ≤ 64 * i) (fun fn tm Dk L hfr w' hw' => ?_) (fun Dk i hi => ?_)
  rotate_left
  · rw [cur_all k n q hi]
    refine q_nb <| q_then <| c_seq <| c_reg <| s_y y_mv <| s_y y_as <| s_y y_as <| s_nil <| q_then <| c_ret <| ?_
    exact ret2D Tryz.results88 (.head _) rv_t rv_t fun w' hw => ⟨(a0, c0), trivial, rfl, hw.sub (.cons _ (.cons _ (.cons _ (.cons _ (.cons_cons _ (List.nil_sublist _))))))⟩
  · have hps9 : ∀ rc, St w [] w' (M 0 rc L Dk) → St w [] w' (M 0 rc L Dk ++ []) := fun rc h => by rw [List.append_nil]; exact h
    have hps0 := (hps9 _ hw').has
    have hb := chunk1_ok w' _ L b62 b63 a0 q.length c0 (fun i => M i _ L Dk) hps0.1 hps0.2 rfl (fun i => .head _) (fun i => .tail _ (.tail _ (.tail _ (.head _)))) (fun i => .tail _ (.tail _ (.head _))) (by omega) hkc (fun i hi w2 h2 => ?_)
    · exact hb.mono fun e' w2 ⟨hv, i, hi, h2⟩ => ⟨hv, i, hi, by have h9 := hw'.transL (l2 := []) (by rw [List.append_nil] <;> exact .refl _) h2; rw [List.append_nil] at h9; exact h9⟩
    · obtain ⟨g, rfl⟩ : ∃ g, a0 = some ⟨g, 0, none⟩ := by
        have h5 := (h2.own (.row a0 c0 5 1 q.length (bs (cur k n q (64 * i)))) (.tail _ (.tail _ (.tail _ (.tail _ (.tail _ (.head _))))))).1
        obtain ⟨_, _, h6⟩ := h5
        rcases h6 with ⟨h7, _⟩ | ⟨g, cc, h7, _⟩
        · exact absurd h7 (hy (by omega))
        · exact ⟨g, h7⟩
      obtain ⟨ch, hch⟩ : ∃ ch, chl q.length i = ch := ⟨_, rfl⟩
      have hch1 : 1 ≤ ch ∧ ch ≤ 64 ∧ 64 * i + ch ≤ q.length ∧ (ch = 64 ∨ 64 * i + ch = q.length) := by rw [← hch]; unfold chl; omega
      rw [hch, sa_lt (by omega), Nat.zero_add, Nat.mul_one]
      have hf9 := (hfr []).put 19 (.slice (some ⟨g, 64 * i, none⟩) ch ch) rfl
      refine round_ok (F1 := [(3, .pointer (some ⟨b3, 0, none⟩)), (4, .pointer (some ⟨b4, 0, none⟩)), (8, .pointer (some ⟨b8, 0, none⟩)), (9, .slice (some ⟨g, 64 * i, none⟩) ch ch)]) h2 hf9 (by simp [Act.put]) (by rfl) (.head _) (l1 := M i _ L Dk) ?_ ?_
      · refine c_reg <| s_y y_as <| s_nil <| q_join ⟨rfl, rfl, rfl, rfl, trivial⟩ (List.Sublist.refl _)
      · refine c_gen (fun rb => [.blk L (.loop rb), .blk Dk (.deferred (some [])), .blk b63 (.cells #[I 64] 3 (0, 0)), .blk b62 (.cells #[.slice (some ⟨g, 0, none⟩) q.length c0] 27 (0, 0)), .blk b8 (.cells #[W32 (UInt32.ofNat (1 + i))] 151 (0, 0)), .row (some ⟨g, 0, none⟩) c0 5 1 q.length (bs (cur k n q (64 * i))), .blk b4 (.cells (bs n).toArray 65 (0, 0)), .blk b3 (.cells (bs k).toArray 24 (0, 0))]) fun rb hrb => ?_
        refine c_block <| c_seq <| c_seq <| c_reg <| s_y (y_lda (b := b3) (cs := (bs k).toArray) (hl := hzn hk)) <| s_y (y_lda (b := b4) (cs := (bs n).toArray) (hl := hzn hn)) <| s_y (y_ld (b := b8) (v := W32 (UInt32.ofNat (1 + i)))) <| s_gives (fun w3 h3 => c_block_ok w3 k n (UInt32.ofNat (1 + i)) ⟨⟨rdO3 hw' hg.1.1 w3 h3, rdO3 hw' hg.1.2 w3 h3⟩, rdO3 hw' hg.2 w3 h3⟩ hk hn) (fun y _ => ?_)
        obtain ⟨ya, yc⟩ := y
        have hbl := blk_length k n (UInt32.ofNat (1 + i))
        have hkin := fun j hj => ks_in k n i j hj
        obtain ⟨BL, hBL⟩ : ∃ BL, blk k n (UInt32.ofNat (1 + i)) = BL := ⟨_, rfl⟩
        rw [hBL] at hbl ⊢
        simp only [hBL] at hkin
        refine s_row (fun hyc _ => ?_) (hm := .head _)
        refine s_y y_mv <| s_y y_len <| s_y (y_slh (j := ((ch : Nat) : Int))) <| ?_
        rw [Int.toNat_natCast]
        refine s_y y_len <| s_y y_mv <| s_nil <| q_then <| c_block <| ?_
        refine c_loop (fun j : Nat => [(8, .pointer (some ⟨b8, 0, none⟩)), (9, .slice (some ⟨g, 64 * i, none⟩) ch ch), (26, .slice ya ch yc), (27, I ch), (28, I j)]) (fun j => [.row ya yc 5 1 64 (bs BL), .blk L (.loop rb), .blk Dk (.deferred (some [])), .blk b63 (.cells #[I 64] 3 (0, 0)), .blk b62 (.cells #[.slice (some ⟨g, 0, none⟩) q.length c0] 27 (0, 0)), .blk b8 (.cells #[W32 (UInt32.ofNat (1 + i))] 151 (0, 0)), .row (some ⟨g, 0, none⟩) c0 5 1 q.length (bs (cur k n q (64 * i + j))), .blk b4 (.cells (bs n).toArray 65 (0, 0)), .blk b3 (.cells (bs k).toArray 24 (0, 0))]) (fun j => j ≤ ch) (fun j => ch - j) 0 (Nat.zero_le _) ⟨rfl, rfl, rfl, rfl, rfl, trivial⟩ (.refl _) ?_
        intro j hj
        by_cases hjc : j < ch
        · have hcg := cur_get k n q (t := 64 * i + j) (by omega)
          have hcs := cur_set k n q (t := 64 * i + j) (by omega)
          have hcl := cur_length k n q (64 * i + j)
          have hkj := hkin j (by omega)
          rw [hkj] at hcs
          obtain ⟨CU, hCU⟩ : ∃ CU, cur k n q (64 * i + j) = CU := ⟨_, rfl⟩
          rw [hCU] at hcg hcs hcl ⊢
          have hrow : ∀ {l : SH}, Res.row (some ⟨g, 0, none⟩) c0 5 1 q.length (bs CU) ∈ l → RdS w' (keys (M 0 { state := .ready, pending := none, fn := fn, tmps := tm, params := #[19], assign := .skip, body := .skip, defers := Dk } L Dk)) l (some ⟨g, 64 * i, none⟩) (bs (CU.drop (64 * i))) := fun hm => by
            have h5 := (rdR (W := w') (Bo := keys (M 0 { state := .ready, pending := none, fn := fn, tmps := tm, params := #[19], assign := .skip, body := .skip, defers := Dk } L Dk)) hm).sa (i := 64 * i) (c := q.length) (s := 1) (by rw [bs_length]; omega)
            rw [sa_lt (by omega), Nat.mul_one, Nat.zero_add, ← bs_drop] at h5
            exact h5
          have hgd : (CU.drop (64 * i)).getD j 0 = q.getD (64 * i + j) 0 := by rw [getD_drop8, hcg]
          refine c_seq <| c_reg <| s_kt (y_lss (p := ((j : Nat) : Int)) (q := ((ch : Nat) : Int))) (by omega) <| s_nil <| q_then <| c_seq <| c_t <| c_skip <| q_then <| c_seq <| c_block <| c_seq <| c_reg <| s_y y_mv <| s_y (y_ixs1 (xs := bs BL) (i := ((j : Nat) : Int)) (hr := rdR (.head _)) (hl := by rw [bs_length]; omega)) <| s_y (y_ldb (q := BL) (i := j) (hr := rdR (.head _)) (hi := by omega)) <| s_y y_as <| s_y y_as <| s_nil <| q_then <| c_reg <| s_y y_mv <| s_y y_mv <| s_y (y_ixs1 (xs := bs (CU.drop (64 * i))) (i := ((j : Nat) : Int)) (hr := hrow (.tail _ (.tail _ (.tail _ (.tail _ (.tail _ (.tail _ (.head _)))))))) (hl := by rw [bs_length, List.length_drop]; omega)) <| s_y (y_ldb (q := CU.drop (64 * i)) (i := j) (hr := hrow (.tail _ (.tail _ (.tail _ (.tail _ (.tail _ (.tail _ (.head _)))))))) (hi := by rw [List.length_drop]; omega)) <| ?_
          rw [hgd]
          refine s_y y_mv <| s_y y_xor8 <| s_y (y_ixs1 (xs := bs (CU.drop (64 * i))) (i := ((j : Nat) : Int)) (hr := hrow (.tail _ (.tail _ (.tail _ (.tail _ (.tail _ (.tail _ (.head _)))))))) (hl := by rw [bs_length, List.length_drop]; omega)) <| ?_
          rw [show ad (some ⟨g, 64 * i, none⟩) ((j : Nat) : Int).toNat = ad (some ⟨g, 0, none⟩) (64 * i + j) by simp [ad]]
          refine s_str (a := some ⟨g, 0, none⟩) (i := 64 * i + j) (?_) (hi := by rw [bs_length]; omega)
          rw [bs_lset, hcs]
          refine s_nil <| q_nb <| q_then <| c_reg <| s_y (y_add (p := ((j : Nat) : Int)) (q := 1)) <| s_y y_mv <| s_nil <| ?_
          rw [show ((j : Nat) : Int) + 1 = ((j + 1 : Nat) : Int) by omega]
          exact q_round (j + 1) (by omega) (by omega) ⟨rfl, rfl, rfl, rfl, rfl, trivial⟩ (.refl _)
        · obtain rfl : j = ch := by omega
          have hnx : cur k n q (64 * i + j) = cur k n q (64 * (i + 1)) := by
            rcases hch1.2.2.2 with h5 | h5
            · rw [show 64 * i + j = 64 * (i + 1) by omega]
            · rw [cur_all k n q (show q.length ≤ 64 * i + j by omega), cur_all k n q (show q.length ≤ 64 * (i + 1) by omega)]
          rw [hnx]
          refine c_seq <| c_reg <| s_kf (y_lss (p := ((j : Nat) : Int)) (q := ((j : Nat) : Int))) (by omega) <| s_nil <| q_then <| c_seq <| c_f <| c_exit <| q_ex <| q_ex <| q_exb <| q_then <| c_reg <| s_y (y_ld (b := b8) (v := W32 (UInt32.ofNat (1 + i)))) <| s_y (y_add32 (p := UInt32.ofNat (1 + i)) (q := 1)) <| ?_
          rw [ofNat_succ]
          refine s_st (b := b8) (v := W32 (UInt32.ofNat (1 + (i + 1)))) (cs := #[W32 (UInt32.ofNat (1 + i))]) (hl := Nat.zero_lt_one) ?_
          subst hrb
          exact s_nil <| q_nb <| q_rn (.tail _ (.head _)) fun w3 h3 => ⟨(), trivial, rfl, h3.sub (.cons _ (.refl _))⟩
end Go.Proofs.YtejdjnkilikehaaGreatDoor
end
section
namespace Cha
open Go Eng Sha
abbrev lbTag : List UInt8 := [116, 97, 103]
def tg (k n h c : List UInt8) : List UInt8 := (tagged lbTag (k ++ n ++ be h.length 8 ++ h ++ c)).take 16
theorem tg_length (k n h c : List UInt8) : (tg k n h c).length = 16 := by unfold tg; rw [List.length_take, tagged_length]; rfl
theorem sar8 (n k : Nat) : UInt8.ofNat (((n : Int) / 2 ^ k) % 256).toNat = UInt8.ofNat (n / 2 ^ k) := by
  apply UInt8.toNat_inj.1
  have e3 : (n : Int) / 2 ^ k = ((n / 2 ^ k : Nat) : Int) := by simp
  rw [e3, UInt8.toNat_ofNat', UInt8.toNat_ofNat']
  omega
theorem cvn8 (m : Nat) : UInt8.ofNat (((m : Nat) : Int) % 256).toNat = UInt8.ofNat m := by
  apply UInt8.toNat_inj.1
  rw [UInt8.toNat_ofNat', UInt8.toNat_ofNat']
  omega
def sealB (k n h b : List UInt8) : List UInt8 := strm k n b ++ tg k n h (strm k n b)
theorem sealB_length (k n h b : List UInt8) : (sealB k n h b).length = b.length + 16 := by unfold sealB; rw [List.length_append, strm_length, tg_length]
def xs (k n : List UInt8) (i : Nat) : List UInt8 := if i = 0 then [] else blk k n (UInt32.ofNat (1 + (i - 1) / 64))
end Cha
namespace Go.Proofs.YtejdjnkilikehaaGreatDoor
open Go Eng Sha Cha
set_option maxRecDepth 100000
theorem c_eight_ok (w : World) (n : Nat) (hn : n ≤ 1000000) : Gives Tryz.prog 155 [I n] w [] (fun y : Option Addr × Nat => .slice y.1 8 y.2) (fun y => [.row y.1 y.2 5 1 8 (bs (be n 8))]) (fun _ => True) := by
  have hbl := be_length n 8
  refine enter Tryz.func155 Tryz.ntmps155 ?_
  refine c_seq <| c_reg <| s_y y_as <| s_nil <| q_then <| c_seq <| c_seq <| c_reg <| s_y y_mv <| s_nil <| q_then <| c_nilrow 5 1 <| c_block <| ?_
  refine c_loop3 (fun (i : Nat) (a : Option Addr) (c : Nat) => [(0, I n), (2, .slice a i c), (4, I i)]) (fun i a c => [.row a c 5 1 i (bs ((be n 8).take i))]) (fun i _ _ => i ≤ 8) (fun i _ _ => 8 - i) 0 none 0 (by omega) ⟨rfl, rfl, rfl, trivial⟩ (.refl _) ?_
  intro i a c hi
  by_cases h8 : i < 8
  · refine c_seq <| c_reg <| s_kt (y_lss (p := ((i : Nat) : Int)) (q := 8)) (by omega) <| s_nil <| q_then <| c_seq <| c_t <| c_skip <| q_then <| c_seq <| c_block <| c_seq <| c_reg <| s_y y_mv <| s_y y_as <| s_nil <| q_then <| c_reg <| s_y y_mv <| s_y y_mv <| s_y y_mv <| s_y (y_mul (p := 8) (q := ((i : Nat) : Int))) <| s_y (y_sub (p := 56) (q := 8 * ((i : Nat) : Int))) <| ?_
    rw [show (56 : Int) - 8 * ((i : Nat) : Int) = ((56 - 8 * i : Nat) : Int) by omega]
    refine s_y (y_sar (p := ((n : Nat) : Int)) (q := ((56 - 8 * i : Nat) : Int))) <| ?_
    rw [Int.toNat_natCast]
    refine s_y y_cv8 <| ?_
    rw [sar8, show UInt8.ofNat (n / 2 ^ (56 - 8 * i)) = (be n 8).getD i 0 by rw [be_get n 8 i h8, show 8 * (8 - 1 - i) = 56 - 8 * i by omega]]
    refine s_bslr (cs := bs [(be n 8).getD i 0]) fun b14 => s_app (m := 1) (srcB (q := [(be n 8).getD i 0]) (rdR (.head _)) rfl) (h1 := fun v hv => bs_one hv) (hm := .tail _ (.head _)) (hrep := fun _ _ => .tail _ (.head _)) fun a15 c15 h15 => ?_
    rw [← bs_append, ← Eng.take_snoc (be n 8) i 0 (by omega)]
    refine s_y y_as <| s_nil <| q_nb <| q_then <| c_reg <| s_y (y_add (p := ((i : Nat) : Int)) (q := 1)) <| s_y y_mv <| s_nil <| ?_
    rw [show ((i : Nat) : Int) + 1 = ((i + 1 : Nat) : Int) by omega]
    exact q_round3 (x := i) (y := a) (z := c) (i + 1) a15 c15 (by omega) (by omega) ⟨rfl, rfl, rfl, trivial⟩ (.cons _ (.refl _))
  · obtain rfl : i = 8 := by omega
    rw [List.take_of_length_le (by omega)]
    refine c_seq <| c_reg <| s_kf (y_lss (p := ((8 : Nat) : Int)) (q := 8)) (by omega) <| s_nil <| q_then <| c_seq <| c_f <| c_exit <| q_ex <| q_ex <| q_exb <| q_then <| c_seq <| c_reg <| s_y y_mv <| s_y y_as <| s_nil <| q_then <| c_ret <| ?_
    exact ret1 Tryz.results155 rv_t fun w' hw => ⟨(a, c), trivial, rfl, hw⟩
theorem c_tag_ok (w : World) (ha ca : Option Addr) (hc cc : Nat) (k n h c : List UInt8) (hg : LS w) (hk : k.length = 32) (hn : n.length = 12) (hrh : Rd w ha (bs h)) (hrc : Rd w ca (bs c)) (hlh : h.length ≤ 100000) (hlc : c.length ≤ 100000) :
    Gives Tryz.prog 87 [.agg (bs k).toArray, .agg (bs n).toArray, .slice ha h.length hc, .slice ca c.length cc] w [] (fun b : Nat => .slice (some ⟨b, 0, none⟩) 16 32) (fun b => [.blk b (.cells (bs (tagged lbTag (k ++ n ++ be h.length 8 ++ h ++ c))).toArray 23 (0, 0))]) (fun _ => True) := by
  have hbe := be_length h.length 8
  refine enter Tryz.func87 Tryz.ntmps87 ?_
  refine c_seq <| c_reg <| s_box rfl fun b4 => s_box rfl fun b5 => s_y y_as <| s_nil <| q_then <| c_seq <| c_regL [.blk b5 (.cells (bs n).toArray 65 (0, 0)), .blk b4 (.cells (bs k).toArray 24 (0, 0))] <| r_y 0 rfl y_sla <| r_y 1 rfl y_sla <| r_y 2 rfl y_mv <| r_y 3 rfl y_len <| r_y 5 rfl y_mv <| r_y 6 rfl y_mv <| r_w2 4 10 rfl rfl ?_ ?_ (hsub := by repeat (first | exact List.nil_sublist _ | exact List.Sublist.refl _ | apply List.Sublist.cons_cons | apply List.Sublist.cons))
  · refine s_gives (fun w' hw => c_eight_ok w' h.length (by omega)) fun x14 _ => r_K <| r_w2 7 10 rfl rfl ?_ ?_ (hsub := by repeat (first | exact List.nil_sublist _ | exact List.Sublist.refl _ | apply List.Sublist.cons_cons | apply List.Sublist.cons))
    · refine s_bslr (cs := [.slice (some ⟨b4, 0, none⟩) 32 32, .slice (some ⟨b5, 0, none⟩) 12 12, .slice x14.1 8 x14.2, .slice ha h.length hc, .slice ca c.length cc]) fun b17 => r_K <| r_w2 8 10 rfl rfl ?_ ?_ (hsub := by repeat (first | exact List.nil_sublist _ | exact List.Sublist.refl _ | apply List.Sublist.cons_cons | apply List.Sublist.cons))
      · refine s_gives (fun w' hw => slices_Concat_ok w' (some ⟨b17, 0, none⟩) 5 [.slice (some ⟨b4, 0, none⟩) 32 32, .slice (some ⟨b5, 0, none⟩) 12 12, .slice x14.1 8 x14.2, .slice ha h.length hc, .slice ca c.length cc] [k, n, be h.length 8, h, c] (rdR (.head _) w' hw) (by have h9 := (SlL.cons (c := 32) (rd_blkB (e := 24) (.tail _ (.tail _ (.tail _ (.head _)))) w' hw) (SlL.cons (c := 12) (rd_blkB (e := 65) (.tail _ (.tail _ (.head _))) w' hw) (SlL.cons (c := x14.2) (rdR (.tail _ (.head _)) w' hw) (SlL.cons (c := hc) (hrh.st hw) (SlL.cons (c := cc) (hrc.st hw) (SlL.nil w')))))); simp only [hk, hn, be_length h.length 8] at h9; exact h9) (by simp only [List.flatten_cons, List.flatten_nil, List.length_append, List.length_nil]; omega) (show 5 < 1000000000 by decide)) fun x18 _ => ?_
        rw [show [k, n, be h.length 8, h, c].flatten = k ++ n ++ (be h.length 8) ++ h ++ c by simp]
        refine r_K <| r_w2 9 10 rfl rfl ?_ ?_ (hsub := by repeat (first | exact List.nil_sublist _ | exact List.Sublist.refl _ | apply List.Sublist.cons_cons | apply List.Sublist.cons))
        · refine s_pure (fun w' hw => digest_Tagged_ok w' lbTag x18.1 x18.2 (k ++ n ++ (be h.length 8) ++ h ++ c) (hg.st hw) (by decide) (rdR (.head _) w' hw) (by simp only [List.length_append]; omega)) <| r_K <| r_W 10 rfl <| s_alloc fun b9 => r_K <| r_W 11 rfl <| s_sta (b := b9) (vs := (bs (tagged lbTag (k ++ n ++ (be h.length 8) ++ h ++ c))).toArray) (cs := (bs (List.replicate 32 0)).toArray) (h1 := fun v hv => bs_one (by simpa using hv)) (hl := ((hz32 (tagged_length _ _))).trans ((hz32 List.length_replicate)).symm) (hs1 := (hz32 (tagged_length _ _))) ?_
          refine r_K <| r_E <| q_then <| c_seq <| c_reg <| s_y (y_slah (j := 16)) <| s_y y_as <| s_nil <| q_then <| c_ret <| ?_
          exact ret1 Tryz.results87 rv_t fun w' hw => ⟨b9, trivial, rfl, hw.sub (.cons_cons _ (List.nil_sublist _))⟩
        · refine s_alloc fun b9 => r_K <| r_W 9 rfl <| s_pure (fun w' hw => digest_Tagged_ok w' lbTag x18.1 x18.2 (k ++ n ++ (be h.length 8) ++ h ++ c) (hg.st hw) (by decide) (rdR (.tail _ (.head _)) w' hw) (by simp only [List.length_append]; omega)) <| r_K <| r_W 11 rfl <| s_sta (b := b9) (vs := (bs (tagged lbTag (k ++ n ++ (be h.length 8) ++ h ++ c))).toArray) (cs := (bs (List.replicate 32 0)).toArray) (h1 := fun v hv => bs_one (by simpa using hv)) (hl := ((hz32 (tagged_length _ _))).trans ((hz32 List.length_replicate)).symm) (hs1 := (hz32 (tagged_length _ _))) ?_
          refine r_K <| r_E <| q_then <| c_seq <| c_reg <| s_y (y_slah (j := 16)) <| s_y y_as <| s_nil <| q_then <| c_ret <| ?_
          exact ret1 Tryz.results87 rv_t fun w' hw => ⟨b9, trivial, rfl, hw.sub (.cons_cons _ (List.nil_sublist _))⟩
      · refine s_alloc fun b9 => r_K <| r_W 8 rfl <| s_gives (fun w' hw => slices_Concat_ok w' (some ⟨b17, 0, none⟩) 5 [.slice (some ⟨b4, 0, none⟩) 32 32, .slice (some ⟨b5, 0, none⟩) 12 12, .slice x14.1 8 x14.2, .slice ha h.length hc, .slice ca c.length cc] [k, n, be h.length 8, h, c] (rdR (.tail _ (.head _)) w' hw) (by have h9 := (SlL.cons (c := 32) (rd_blkB (e := 24) (.tail _ (.tail _ (.tail _ (.tail _ (.head _))))) w' hw) (SlL.cons (c := 12) (rd_blkB (e := 65) (.tail _ (.tail _ (.tail _ (.head _)))) w' hw) (SlL.cons (c := x14.2) (rdR (.tail _ (.tail _ (.head _))) w' hw) (SlL.cons (c := hc) (hrh.st hw) (SlL.cons (c := cc) (hrc.st hw) (SlL.nil w')))))); simp only [hk, hn, be_length h.length 8] at h9; exact h9) (by simp only [List.flatten_cons, List.flatten_nil, List.length_append, List.length_nil]; omega) (show 5 < 1000000000 by decide)) fun x18 _ => ?_
        rw [show [k, n, be h.length 8, h, c].flatten = k ++ n ++ (be h.length 8) ++ h ++ c by simp]
        refine r_K <| r_W 9 rfl <| s_pure (fun w' hw => digest_Tagged_ok w' lbTag x18.1 x18.2 (k ++ n ++ (be h.length 8) ++ h ++ c) (hg.st hw) (by decide) (rdR (.head _) w' hw) (by simp only [List.length_append]; omega)) <| r_K <| r_W 11 rfl <| s_sta (b := b9) (vs := (bs (tagged lbTag (k ++ n ++ (be h.length 8) ++ h ++ c))).toArray) (cs := (bs (List.replicate 32 0)).toArray) (h1 := fun v hv => bs_one (by simpa using hv)) (hl := ((hz32 (tagged_length _ _))).trans ((hz32 List.length_replicate)).symm) (hs1 := (hz32 (tagged_length _ _))) ?_
        refine r_K <| r_E <| q_then <| c_seq <| c_reg <| s_y (y_slah (j := 16)) <| s_y y_as <| s_nil <| q_then <| c_ret <| ?_
        exact ret1 Tryz.results87 rv_t fun w' hw => ⟨b9, trivial, rfl, hw.sub (.cons _ (.cons_cons _ (List.nil_sublist _)))⟩
    · refine s_alloc fun b9 => r_K <| r_W 7 rfl <| s_bslr (cs := [.slice (some ⟨b4, 0, none⟩) 32 32, .slice (some ⟨b5, 0, none⟩) 12 12, .slice x14.1 8 x14.2, .slice ha h.length hc, .slice ca c.length cc]) fun b17 => r_K <| r_W 8 rfl <| s_gives (fun w' hw => slices_Concat_ok w' (some ⟨b17, 0, none⟩) 5 [.slice (some ⟨b4, 0, none⟩) 32 32, .slice (some ⟨b5, 0, none⟩) 12 12, .slice x14.1 8 x14.2, .slice ha h.length hc, .slice ca c.length cc] [k, n, be h.length 8, h, c] (rdR (.head _) w' hw) (by have h9 := (SlL.cons (c := 32) (rd_blkB (e := 24) (.tail _ (.tail _ (.tail _ (.tail _ (.head _))))) w' hw) (SlL.cons (c := 12) (rd_blkB (e := 65) (.tail _ (.tail _ (.tail _ (.head _)))) w' hw) (SlL.cons (c := x14.2) (rdR (.tail _ (.tail _ (.head _))) w' hw) (SlL.cons (c := hc) (hrh.st hw) (SlL.cons (c := cc) (hrc.st hw) (SlL.nil w')))))); simp only [hk, hn, be_length h.length 8] at h9; exact h9) (by simp only [List.flatten_cons, List.flatten_nil, List.length_append, List.length_nil]; omega) (show 5 < 1000000000 by decide)) fun x18 _ => ?_
      rw [show [k, n, be h.length 8, h, c].flatten = k ++ n ++ (be h.length 8) ++ h ++ c by simp]
      refine r_K <| r_W 9 rfl <| s_pure (fun w' hw => digest_Tagged_ok w' lbTag x18.1 x18.2 (k ++ n ++ (be h.length 8) ++ h ++ c) (hg.st hw) (by decide) (rdR (.head _) w' hw) (by simp only [List.length_append]; omega)) <| r_K <| r_W 11 rfl <| s_sta (b := b9) (vs := (bs (tagged lbTag (k ++ n ++ (be h.length 8) ++ h ++ c))).toArray) (cs := (bs (List.replicate 32 0)).toArray) (h1 := fun v hv => bs_one (by simpa using hv)) (hl := ((hz32 (tagged_length _ _))).trans ((hz32 List.length_replicate)).symm) (hs1 := (hz32 (tagged_length _ _))) ?_
      refine r_K <| r_E <| q_then <| c_seq <| c_reg <| s_y (y_slah (j := 16)) <| s_y y_as <| s_nil <| q_then <| c_ret <| ?_
      exact ret1 Tryz.results87 rv_t fun w' hw => ⟨b9, trivial, rfl, hw.sub (.cons _ (.cons _ (.cons_cons _ (List.nil_sublist _))))⟩
  · refine s_alloc fun b9 => r_K <| r_W 4 rfl <| s_gives (fun w' hw => c_eight_ok w' h.length (by omega)) fun x14 _ => r_K <| r_W 7 rfl <| s_bslr (cs := [.slice (some ⟨b4, 0, none⟩) 32 32, .slice (some ⟨b5, 0, none⟩) 12 12, .slice x14.1 8 x14.2, .slice ha h.length hc, .slice ca c.length cc]) fun b17 => r_K <| r_W 8 rfl <| s_gives (fun w' hw => slices_Concat_ok w' (some ⟨b17, 0, none⟩) 5 [.slice (some ⟨b4, 0, none⟩) 32 32, .slice (some ⟨b5, 0, none⟩) 12 12, .slice x14.1 8 x14.2, .slice ha h.length hc, .slice ca c.length cc] [k, n, be h.length 8, h, c] (rdR (.head _) w' hw) (by have h9 := (SlL.cons (c := 32) (rd_blkB (e := 24) (.tail _ (.tail _ (.tail _ (.tail _ (.head _))))) w' hw) (SlL.cons (c := 12) (rd_blkB (e := 65) (.tail _ (.tail _ (.tail _ (.head _)))) w' hw) (SlL.cons (c := x14.2) (rdR (.tail _ (.head _)) w' hw) (SlL.cons (c := hc) (hrh.st hw) (SlL.cons (c := cc) (hrc.st hw) (SlL.nil w')))))); simp only [hk, hn, be_length h.length 8] at h9; exact h9) (by simp only [List.flatten_cons, List.flatten_nil, List.length_append, List.length_nil]; omega) (show 5 < 1000000000 by decide)) fun x18 _ => ?_
    rw [show [k, n, be h.length 8, h, c].flatten = k ++ n ++ (be h.length 8) ++ h ++ c by simp]
    refine r_K <| r_W 9 rfl <| s_pure (fun w' hw => digest_Tagged_ok w' lbTag x18.1 x18.2 (k ++ n ++ (be h.length 8) ++ h ++ c) (hg.st hw) (by decide) (rdR (.head _) w' hw) (by simp only [List.length_append]; omega)) <| r_K <| r_W 11 rfl <| s_sta (b := b9) (vs := (bs (tagged lbTag (k ++ n ++ (be h.length 8) ++ h ++ c))).toArray) (cs := (bs (List.replicate 32 0)).toArray) (h1 := fun v hv => bs_one (by simpa using hv)) (hl := ((hz32 (tagged_length _ _))).trans ((hz32 List.length_replicate)).symm) (hs1 := (hz32 (tagged_length _ _))) ?_
    refine r_K <| r_E <| q_then <| c_seq <| c_reg <| s_y (y_slah (j := 16)) <| s_y y_as <| s_nil <| q_then <| c_ret <| ?_
    exact ret1 Tryz.results87 rv_t fun w' hw => ⟨b9, trivial, rfl, hw.sub (.cons _ (.cons _ (.cons _ (.cons_cons _ (List.nil_sublist _)))))⟩
end Go.Proofs.YtejdjnkilikehaaGreatDoor
end
section
namespace Cha
open Go Eng Sha
def opOk (k n h c : List UInt8) : Bool := decide (16 ≤ c.length) && (decide (c.length ≤ 65552) && decide (c.drop (c.length - 16) = tg k n h (c.take (c.length - 16))))
def opB (k n h c : List UInt8) : List UInt8 := if opOk k n h c = true then strm k n (c.take (c.length - 16)) else []
def opE (k n h c : List UInt8) : Int := if opOk k n h c = true then 0 else 60
theorem sealB_open {k n h b : List UInt8} (hb : b.length ≤ 65536) : opOk k n h (sealB k n h b) = true ∧ opB k n h (sealB k n h b) = b := by
  have hl := sealB_length k n h b
  have ht : (sealB k n h b).take ((sealB k n h b).length - 16) = strm k n b := by
    rw [hl, Nat.add_sub_cancel]; unfold sealB; exact List.take_left' (strm_length _ _ _)
  have hd : (sealB k n h b).drop ((sealB k n h b).length - 16) = tg k n h (strm k n b) := by
    rw [hl, Nat.add_sub_cancel]; unfold sealB; exact List.drop_left' (strm_length _ _ _)
  have h1 : opOk k n h (sealB k n h b) = true := by
    unfold opOk
    rw [ht, hd, hl, decide_eq_true (by omega), decide_eq_true (by omega), decide_eq_true rfl]; rfl
  refine ⟨h1, ?_⟩
  unfold opB
  rw [if_pos h1, ht, strm_strm]
end Cha
namespace Go.Proofs.YtejdjnkilikehaaGreatDoor
open Go Eng Sha Cha
set_option maxRecDepth 100000
theorem Equal_ok (w : World) (a a' : Option Addr) (m m' c c' : Nat) (p q : List UInt8) (hp : p.length = m) (hq : q.length = m') (hr : Rd w a (bs p)) (hr' : Rd w a' (bs q)) :
    Pure Tryz.prog 71 [.slice a m c, .slice a' m' c'] w (.bool (decide (p = q))) := by
  refine enter Tryz.func71 Tryz.ntmps71 ?_
  refine c_seq <| c_reg <| s_y y_as <| s_nil <| q_then <| c_seq <| c_reg <| s_y y_mv <| s_y (y_b2s (q := p) (hr := rdW0 hr) (hm := hp)) <| s_y y_mv <| s_y (y_b2s (q := q) (hr := rdW0 hr') (hm := hq)) <| s_y (y_eqls (a := sb p) (b := sb q)) <| s_y y_as <| s_nil <| q_then <| c_ret <| ?_
  exact ret1 Tryz.results71 rv_t fun w' hw => ⟨by rw [show decide (sb p = sb q) = decide (p = q) from decide_eq_decide.2 sb_inj], hw⟩
section
variable (w : World) (ha ca : Option Addr) (hc cc : Nat) (k n h c : List UInt8) (hk : k.length = 32) (hn : n.length = 12) (hrh : Rd w ha (bs h)) (hlh : h.length ≤ 100000)
include hk hn
include hrh hlh
theorem c_Seal_ok (hg : LC w) (hrc : Rd w ca (bs c)) (hlc : c.length ≤ 65536) :
    Gives Tryz.prog 105 [.agg (bs k).toArray, .agg (bs n).toArray, .slice ha h.length hc, .slice ca c.length cc] w [] (fun y : Option Addr × Nat => .tuple #[.slice y.1 (c.length + 16) y.2, I 0]) (fun y => [.row y.1 y.2 5 1 (c.length + 16) (bs (sealB k n h c))]) (fun _ => True) := by
  have hsl := strm_length k n c
  refine enter Tryz.func105 Tryz.ntmps105 ?_
  refine c_seq <| c_reg <| s_box rfl fun b4 => s_box rfl fun b5 => s_y y_as <| s_y y_as <| s_nil <| q_then <| c_seq <| c_reg <| s_y (y_lda (b := b4) (cs := (bs k).toArray) (hl := hzn hk)) <| s_y (y_lda (b := b5) (cs := (bs n).toArray) (hl := hzn hn)) <| s_y y_mv <| s_gives (fun w' hw => c_Stream_ok w' ca cc k n c (hg.st hw) hk hn (hrc.st hw) hlc) (fun y _ => ?_)
  obtain ⟨xa, xc⟩ := y
  refine s_y y_mv <| s_y y_ext <| s_y y_ext <| s_y y_as <| s_y y_as <| s_nil <| q_then <| c_seq <| c_seq <| c_reg <| s_y y_mv <| s_nf (y_neq (p := 0) (q := 0)) rfl <| s_nil <| q_then <| c_f <| c_skip <| q_then <| c_seq <| c_reg <| s_y y_mv <| s_y (y_lda (b := b4) (cs := (bs k).toArray) (hl := hzn hk)) <| s_y (y_lda (b := b5) (cs := (bs n).toArray) (hl := hzn hn)) <| s_y y_mv <| s_y y_mv <| s_gives (fun w' hw => by
    have h9 := c_tag_ok w' ha xa hc xc k n h (strm k n c) (hg.st hw).1 hk hn (hrh.st hw) (rdR (.head _) w' hw) hlh (by omega)
    rw [hsl] at h9
    exact h9) (fun b25 _ => ?_)
  refine s_app (m := 16) (srcB (q := tg k n h (strm k n c)) (fun w' hw => (by
    have h9 := ((rd_blkB (e := 23) (.head _) : RdS w [] _ (some ⟨b25, 0, none⟩) (bs (tagged lbTag (k ++ n ++ be h.length 8 ++ h ++ strm k n c)))) w' hw).take 16
    rw [← bs_take] at h9
    exact h9)) (tg_length _ _ _ _)) (h1 := fun v hv => bs_one hv) (hm := .tail _ (.head _)) (hrep := fun _ _ => .tail _ (.head _)) fun a26 c26 h26 => ?_
  rw [← bs_append]
  refine s_y y_as <| s_y y_as <| s_nil <| q_then <| c_ret <| ?_
  exact ret2 Tryz.results105 rv_t rv_t fun w' hw => ⟨(a26, c26), trivial, rfl, hw.sub (.cons _ (.cons_cons _ (List.nil_sublist _)))⟩
theorem c_Open_no (hg : LC w) (hrc : Rd w ca (bs c)) (hlc : c.length ≤ 100000) (hcc : c.length ≤ cc) (hno : opOk k n h c = false) :
    Pure Tryz.prog 36 [.agg (bs k).toArray, .agg (bs n).toArray, .slice ha h.length hc, .slice ca c.length cc] w (.tuple #[.slice none 0 0, I 60]) := by
  refine enter Tryz.func36 Tryz.ntmps36 ?_
  refine c_seq <| c_reg <| s_box rfl fun b4 => s_box rfl fun b5 => s_y y_as <| s_y y_as <| s_nil <| q_then <| c_seq <| c_reg <| s_y y_mv <| s_y y_len <| s_y (y_sub (p := ((c.length : Nat) : Int)) (q := 16)) <| s_y y_as <| s_nil <| q_then <| ?_
  by_cases h1 : c.length < 16
  · refine c_seq <| c_seq <| c_regL [] <| r_y 0 rfl y_mv <| r_kt 1 rfl (y_lss (p := ((c.length : Nat) : Int) - 16) (q := 0)) (by omega) <| r_y 2 rfl y_mv <| r_no 3 rfl <| r_no 4 rfl <| r_y 5 rfl y_pk <| r_y 6 rfl y_mv <| r_no 7 rfl <| r_no 8 rfl <| r_no 9 rfl <| r_no 10 rfl <| r_no 11 rfl <| r_no 12 rfl <| r_no 13 rfl <| r_no 14 rfl <| r_no 15 rfl <| r_no 16 rfl <| r_no 17 rfl <| r_no 18 rfl <| r_y 19 rfl y_pk <| r_E <| q_then <| c_t <| c_seq <| c_reg <| s_y y_as <| s_y y_as <| s_nil <| q_then <| c_ret <| q_ret <| ?_
    exact ret2 Tryz.results36 rv_t rv_t fun w' hw => ⟨rfl, hw.sub (List.nil_sublist _)⟩
  obtain ⟨M, hM⟩ : ∃ M, c.length - 16 = M := ⟨_, rfl⟩
  rw [show ((c.length : Nat) : Int) - 16 = ((M : Nat) : Int) by omega]
  by_cases h2 : 65536 < M
  · refine c_seq <| c_seq <| c_regL [] <| r_y 0 rfl y_mv <| r_kf 1 rfl (y_lss (p := ((M : Nat) : Int)) (q := 0)) (by omega) <| r_y 2 rfl y_mv <| r_y 3 rfl y_mv <| r_kt 4 rfl (y_gtr (p := ((M : Nat) : Int)) (q := 65536)) (by omega) <| r_y 5 rfl y_pk <| r_y 6 rfl y_mv <| r_no 7 rfl <| r_no 8 rfl <| r_no 9 rfl <| r_no 10 rfl <| r_no 11 rfl <| r_no 12 rfl <| r_no 13 rfl <| r_no 14 rfl <| r_no 15 rfl <| r_no 16 rfl <| r_no 17 rfl <| r_no 18 rfl <| r_y 19 rfl y_pk <| r_E <| q_then <| c_t <| c_seq <| c_reg <| s_y y_as <| s_y y_as <| s_nil <| q_then <| c_ret <| q_ret <| ?_
    exact ret2 Tryz.results36 rv_t rv_t fun w' hw => ⟨rfl, hw.sub (List.nil_sublist _)⟩
  have hne : decide (c.drop M = tg k n h (c.take M)) = false := by
    unfold opOk at hno
    rw [decide_eq_true (show 16 ≤ c.length by omega), decide_eq_true (show c.length ≤ 65552 by omega), hM] at hno
    exact hno
  have htl : (c.take M).length = M := by rw [List.length_take]; omega
  refine c_seq <| c_seq <| c_regL [.blk b5 (.cells (bs n).toArray 65 (0, 0)), .blk b4 (.cells (bs k).toArray 24 (0, 0))] <| r_y 0 rfl y_mv <| r_kf 1 rfl (y_lss (p := ((M : Nat) : Int)) (q := 0)) (by omega) <| r_y 2 rfl y_mv <| r_y 3 rfl y_mv <| r_kf 4 rfl (y_gtr (p := ((M : Nat) : Int)) (q := 65536)) (by omega) <| r_y 5 rfl y_pk <| r_y 6 rfl y_mv <| r_y 7 rfl y_mv <| r_y 8 rfl y_mv <| r_y 9 rfl (y_sll (i := ((M : Nat) : Int))) <| r_y 10 rfl (y_lda (b := b4) (cs := (bs k).toArray) (hl := hzn hk)) <| r_y 11 rfl (y_lda (b := b5) (cs := (bs n).toArray) (hl := hzn hn)) <| r_y 12 rfl y_mv <| r_y 13 rfl y_mv <| r_y 14 rfl y_mv <| r_y 15 rfl (y_slh (j := ((M : Nat) : Int))) <| ?_
  rw [Int.toNat_natCast]
  refine r_W 16 rfl <| s_gives (fun w' hw => by
    have h9 := c_tag_ok w' ha ca hc cc k n h (c.take M) (hg.st hw).1 hk hn (hrh.st hw) (by have := (hrc.st hw).take M; rwa [← bs_take] at this) hlh (by omega)
    rw [htl] at h9
    exact h9) (fun b30 _ => ?_)
  refine r_K <| r_W 17 rfl <| s_pure (fun w' hw => (by
    have h9 := Equal_ok w' (sa ca M cc 1) (some ⟨b30, 0, none⟩) (c.length - M) 16 (cc - M) 32 (c.drop M) (tg k n h (c.take M)) (by rw [List.length_drop]) (tg_length _ _ _ _) (by have := (rdW0 (hrc.st hw)).sa (i := M) (c := cc) (s := 1) (by rw [bs_length]; omega) w' (St.refl w'); rwa [Nat.mul_one, ← bs_drop] at this) (by
      have h9 := ((rd_blkB (e := 23) (.head _) : RdS w [] _ (some ⟨b30, 0, none⟩) (bs (tagged lbTag (k ++ n ++ be h.length 8 ++ h ++ c.take M)))) w' hw).take 16
      rw [← bs_take] at h9
      exact h9)
    rw [hne] at h9
    exact h9)) <| r_K <| r_y 18 rfl (y_not (b := false)) <| r_y 19 rfl y_pk <| r_E <| q_then <| c_t <| c_seq <| c_reg <| s_y y_as <| s_y y_as <| s_nil <| q_then <| c_ret <| q_ret <| ?_
  exact ret2 Tryz.results36 rv_t rv_t fun w' hw => ⟨rfl, hw.sub (List.nil_sublist _)⟩
theorem c_Open_yes (hg : LC w) (hrc : Rd w ca (bs c)) (hcc : c.length ≤ cc) (hyes : opOk k n h c = true) :
    Gives Tryz.prog 36 [.agg (bs k).toArray, .agg (bs n).toArray, .slice ha h.length hc, .slice ca c.length cc] w [] (fun y : Option Addr × Nat => .tuple #[.slice y.1 (opB k n h c).length y.2, I 0]) (fun y => [.row y.1 y.2 5 1 (opB k n h c).length (bs (opB k n h c))]) (fun _ => True) := by
  have hob : opB k n h c = strm k n (c.take (c.length - 16)) := by unfold opB; rw [if_pos hyes]
  obtain ⟨M, hM⟩ : ∃ M, c.length - 16 = M := ⟨_, rfl⟩
  unfold opOk at hyes
  simp only [Bool.and_eq_true, decide_eq_true_eq] at hyes
  obtain ⟨h1, h2, h3⟩ := hyes
  rw [hM] at h3 hob
  have htl : (c.take M).length = M := by rw [List.length_take]; omega
  rw [hob, strm_length, htl]
  refine enter Tryz.func36 Tryz.ntmps36 ?_
  refine c_seq <| c_reg <| s_box rfl fun b4 => s_box rfl fun b5 => s_y y_as <| s_y y_as <| s_nil <| q_then <| c_seq <| c_reg <| s_y y_mv <| s_y y_len <| s_y (y_sub (p := ((c.length : Nat) : Int)) (q := 16)) <| ?_
  rw [show ((c.length : Nat) : Int) - 16 = ((M : Nat) : Int) by omega]
  refine s_y y_as <| s_nil <| q_then <| ?_
  refine c_seq <| c_seq <| c_regL [.blk b5 (.cells (bs n).toArray 65 (0, 0)), .blk b4 (.cells (bs k).toArray 24 (0, 0))] <| r_y 0 rfl y_mv <| r_kf 1 rfl (y_lss (p := ((M : Nat) : Int)) (q := 0)) (by omega) <| r_y 2 rfl y_mv <| r_y 3 rfl y_mv <| r_kf 4 rfl (y_gtr (p := ((M : Nat) : Int)) (q := 65536)) (by omega) <| r_y 5 rfl y_pk <| r_y 6 rfl y_mv <| r_y 7 rfl y_mv <| r_y 8 rfl y_mv <| r_y 9 rfl (y_sll (i := ((M : Nat) : Int))) <| r_y 10 rfl (y_lda (b := b4) (cs := (bs k).toArray) (hl := hzn hk)) <| r_y 11 rfl (y_lda (b := b5) (cs := (bs n).toArray) (hl := hzn hn)) <| r_y 12 rfl y_mv <| r_y 13 rfl y_mv <| r_y 14 rfl y_mv <| r_y 15 rfl (y_slh (j := ((M : Nat) : Int))) <| ?_
  rw [Int.toNat_natCast]
  refine r_W 16 rfl <| s_gives (fun w' hw => by
    have h9 := c_tag_ok w' ha ca hc cc k n h (c.take M) (hg.st hw).1 hk hn (hrh.st hw) (by have := (hrc.st hw).take M; rwa [← bs_take] at this) hlh (by omega)
    rw [htl] at h9
    exact h9) (fun b30 _ => ?_)
  refine r_K <| r_W 17 rfl <| s_pure (fun w' hw => (by
    have h9 := Equal_ok w' (sa ca M cc 1) (some ⟨b30, 0, none⟩) (c.length - M) 16 (cc - M) 32 (c.drop M) (tg k n h (c.take M)) (by rw [List.length_drop]) (tg_length _ _ _ _) (by have := (rdW0 (hrc.st hw)).sa (i := M) (c := cc) (s := 1) (by rw [bs_length]; omega) w' (St.refl w'); rwa [Nat.mul_one, ← bs_drop] at this) (by
      have h9 := ((rd_blkB (e := 23) (.head _) : RdS w [] _ (some ⟨b30, 0, none⟩) (bs (tagged lbTag (k ++ n ++ be h.length 8 ++ h ++ c.take M)))) w' hw).take 16
      rw [← bs_take] at h9
      exact h9)
    rw [decide_eq_true h3] at h9
    exact h9)) <| r_K <| r_y 18 rfl (y_not (b := true)) <| r_y 19 rfl y_pk <| r_E <| q_then <| c_f <| c_skip <| q_then <| ?_
  refine c_seq <| c_regL [.blk b5 (.cells (bs n).toArray 65 (0, 0)), .blk b4 (.cells (bs k).toArray 24 (0, 0))] <| r_y 0 rfl (y_lda (b := b4) (cs := (bs k).toArray) (hl := hzn hk)) <| r_y 1 rfl (y_lda (b := b5) (cs := (bs n).toArray) (hl := hzn hn)) <| r_y 2 rfl y_mv <| r_y 3 rfl y_mv <| r_y 4 rfl (y_slh (j := ((M : Nat) : Int))) <| ?_
  rw [Int.toNat_natCast]
  refine r_W 5 rfl <| s_gives (fun w' hw => by
    have h9 := c_Stream_ok w' ca cc k n (c.take M) (hg.st hw) hk hn (by have := (hrc.st hw).take M; rwa [← bs_take] at this) (by omega)
    rw [htl] at h9
    exact h9) (fun y _ => ?_)
  obtain ⟨ya, yc⟩ := y
  refine r_K <| r_y 6 rfl y_ext <| r_y 7 rfl y_ext <| r_y 8 rfl y_as <| r_y 9 rfl y_as <| r_E <| q_then <| c_ret <| ?_
  exact ret2 Tryz.results36 rv_t rv_t fun w' hw => ⟨(ya, yc), trivial, rfl, hw.sub (.cons_cons _ (List.nil_sublist _))⟩
end
end Go.Proofs.YtejdjnkilikehaaGreatDoor
end
section
namespace Go.Proofs.YtejdjnkilikehaaGreatDoor
open Go Eng Sha Cod
theorem sch_Link_ok (w : World) (k : List UInt8) (hg : LS w) (hk : k.length = 32) : Pure Tryz.prog 31 [.agg (bs k).toArray] w (I (dscal k lbLink)) := by
  refine enter Tryz.func31 Tryz.ntmps31 ?_
  refine c_seq <| c_reg <| s_box rfl fun b1 => s_y y_as <| s_nil <| q_then <| c_seq <| c_reg <| s_y (y_lda (b := b1) (cs := (bs k).toArray) (hl := (hz32 hk))) <| s_pure (fun w' hw => derive_Scalar_ok w' k lbLink (hg.st hw) hk (by decide)) <| s_y y_as <| s_nil <| q_then <| c_ret <| ?_
  exact ret1 Tryz.results31 rv_t fun w' hw => ⟨rfl, hw.sub (List.nil_sublist _)⟩
theorem sch_Content_ok (w : World) (k : List UInt8) (m n : Int) (hg : LS w) (hk : k.length = 32) (hm : R64 m) (hn : R64 n) : Pure Tryz.prog 37 [.agg (bs k).toArray, I m, I n] w (.agg (bs (expand k lbItem [m, n])).toArray) := by
  refine enter Tryz.func37 Tryz.ntmps37 ?_
  refine c_seq <| c_reg <| s_box rfl fun b3 => s_alloc fun b6 => s_nil <| q_then <| c_seq <| c_reg <| s_y (y_lda (b := b3) (cs := (bs k).toArray) (hl := (hz32 hk))) <| s_y y_mv <| s_y y_mv <| s_bslr (cs := is [m, n]) fun b10 => s_pure (fun w' hw => derive_Expand_ok w' k lbItem (some ⟨b10, 0, none⟩) 2 [m, n] (hg.st hw) hk (rdR (xs := is [m, n]) (.head _) w' hw) (by simp; exact ⟨hm, hn⟩) (by decide) (by simp)) <| s_sta (b := b6) (vs := (bs (expand k lbItem [m, n])).toArray) (cs := (List.replicate 32 (B 0)).toArray) (h1 := fun v hv => bs_one (by simpa using hv)) (hl := by rw [(hz32 (expand_length _ _ _))]; rfl) (hs1 := (hz32 (expand_length _ _ _))) ?_
  refine s_nil <| q_then <| c_ret <| ?_
  exact ret1 Tryz.results37 (rv_ca (hl := (hz32 (expand_length _ _ _)))) fun w' hw => ⟨rfl, hw.sub (List.nil_sublist _)⟩
end Go.Proofs.YtejdjnkilikehaaGreatDoor
end
section
namespace Gf
open Go Eng
def pvB (x : Int) : Bool := decide (1 ≤ x) && decide (x < 2305843009213688669)
theorem pvB_of {n : Nat} (h0 : 1 ≤ n) (h : n < 2305843009213688669) : pvB (n : Int) = true := by unfold pvB; rw [decide_eq_true (by omega), decide_eq_true (by omega)]; rfl
end Gf
namespace Wr
open Go Eng Sha Cha
abbrev z12 : List UInt8 := List.replicate 12 0
end Wr
namespace Go.Proofs.YtejdjnkilikehaaGreatDoor
open Go Eng Gf Sha Cha Wr Cod
set_option maxRecDepth 100000
theorem gBase_el (w : World) (k : Nat) (h : k < 2305843009213688669) : Pure Tryz.prog 82 [I k] w (.tuple #[I (pp 4 k : Nat), I 0]) := by
  have h9 := gBase_ok w (k : Int)
  rw [show expV 4 (k : Int) = ((pp 4 k : Nat) : Int) by unfold expV; rw [show el 4 = true from El.four.el, sc_of h]; rfl, show expE 4 (k : Int) = 0 by unfold expE; rw [show el 4 = true from El.four.el, sc_of h]; rfl] at h9
  exact h9
theorem sValid_ok (w : World) (x : Int) : Pure Tryz.prog 74 [I x] w (.bool (pvB x)) := by
  refine enter Tryz.func74 Tryz.ntmps74 ?_
  refine c_seq <| c_reg <| s_y y_as <| s_nil <| q_then <| c_seq <| c_reg <| s_y y_mv <| ?_
  by_cases h : 1 ≤ x
  · rw [pvB, decide_eq_true h, Bool.true_and]
    refine s_kt (y_geq (p := x) (q := 1)) h <| s_y y_mv <| s_y y_mv <| s_y (y_lss (p := x) (q := 2305843009213688669)) <| s_y y_pk <| s_y y_as <| s_nil <| q_then <| c_ret <| ?_
    exact ret1 Tryz.results74 rv_t fun w' hw => ⟨rfl, hw⟩
  · rw [pvB, decide_eq_false h, Bool.false_and]
    refine s_kf (y_geq (p := x) (q := 1)) h <| s_y y_mv <| s_no <| s_no <| s_y y_pk <| s_y y_as <| s_nil <| q_then <| c_ret <| ?_
    exact ret1 Tryz.results74 rv_t fun w' hw => ⟨rfl, hw⟩
theorem sKeyPublic (w : World) (x : Nat) (h : x < 2305843009213688669) : Pure Tryz.prog 75 [I x] w (I (pp 4 x : Nat)) := by
  refine enter Tryz.func75 Tryz.ntmps75 ?_
  refine c_seq <| c_reg <| s_y y_as <| s_nil <| q_then <| c_seq <| c_reg <| s_y y_mv <| s_pure (fun w' hw => gBase_el w' x h) <| s_y y_mv <| s_y y_ext <| s_y y_ext <| s_y y_as <| s_y y_as <| s_nil <| q_then <| c_seq <| c_reg <| s_y y_mv <| s_y y_as <| s_nil <| q_then <| c_ret <| ?_
  exact ret1 Tryz.results75 rv_t fun w' hw => ⟨rfl, hw⟩
theorem sPublic_yes (w : World) (x : Nat) (h0 : 1 ≤ x) (h : x < 2305843009213688669) : Pure Tryz.prog 29 [I x] w (.tuple #[I (pp 4 x : Nat), I 0]) := by
  refine enter Tryz.func29 Tryz.ntmps29 ?_
  refine c_seq <| c_reg <| s_y y_as <| s_y y_as <| s_nil <| q_then <| c_seq <| c_seq <| c_reg <| s_y y_mv <| s_pure (fun w' hw => (by have h9 := sValid_ok w' (x : Int); rw [pvB_of h0 h] at h9; exact h9)) <| s_y (v := .bool false) (y_not (b := true)) <| s_nil <| q_then <| c_f <| c_skip <| q_then <| c_seq <| c_reg <| s_y y_mv <| s_pure (fun w' hw => sKeyPublic w' x h) <| s_y y_as <| s_y y_as <| s_nil <| q_then <| c_ret <| ?_
  exact ret2 Tryz.results29 rv_t rv_t fun w' hw => ⟨rfl, hw⟩
theorem sPublic_no (w : World) (x : Int) (h : pvB x = false) : Pure Tryz.prog 29 [I x] w (.tuple #[I 0, I 50]) := by
  refine enter Tryz.func29 Tryz.ntmps29 ?_
  refine c_seq <| c_reg <| s_y y_as <| s_y y_as <| s_nil <| q_then <| c_seq <| c_seq <| c_reg <| s_y y_mv <| s_pure (fun w' hw => (by have h9 := sValid_ok w' x; rw [h] at h9; exact h9)) <| s_y (v := .bool true) (y_not (b := false)) <| s_nil <| q_then <| c_t <| c_seq <| c_reg <| s_y y_as <| s_y y_as <| s_nil <| q_then <| c_ret <| q_ret <| ?_
  exact ret2 Tryz.results29 rv_t rv_t fun w' hw => ⟨rfl, hw⟩
end Go.Proofs.YtejdjnkilikehaaGreatDoor
end
section
namespace Itm
open Go Eng Cod Gf Sha Cha Sig Wr Go.Proofs.YtejdjnkilikehaaGreatDoor
structure It where
  fo : Int
  cm : List UInt8
  dv : Int
  ct : Int
  kd : Int
  sz : Int
  cA : Int
  cB : Int
  pd : List UInt8
  bd : List UInt8
  sR : Int
  sS : Int
def it0 : It := ⟨0, List.replicate 32 0, 0, 0, 0, 0, 0, 0, List.replicate 32 0, [], 0, 0⟩
/-- within the bounds of its types -/
structure It.Wf (i : It) : Prop where
  fo : R64 i.fo
  cm : i.cm.length = 32
  dv : R64 i.dv
  ct : R64 i.ct
  kd : R64 i.kd
  sz : R64 i.sz
  cA : R64 i.cA
  cB : R64 i.cB
  pd : i.pd.length = 32
  sR : R64 i.sR
  sS : R64 i.sS
def numB (f d c k : Int) : Bool := (decide (0 ≤ f) && decide (f < 16)) && ((decide (0 ≤ d) && decide (d < 512)) && ((decide (1 ≤ c) && decide (c ≤ 1048576)) && (decide (k = 1) || decide (k = 2))))
noncomputable def It.vld (i : It) : Bool := numB i.fo i.dv i.ct i.kd && (decide (lnE i.sz = 0) && (decide (ckE i.cA i.cB = 0) && decide ((i.bd.length : Int) = lnV i.sz + 16)))
def It.hl (i : It) : List V := [vI i.fo, vI i.dv, vI i.ct, vI i.kd, vI i.sz, vT i.cm, vI i.cA, vI i.cB, vT i.pd]
def It.al (i : It) : List V := i.hl ++ [vT i.bd, vI i.sR, vI i.sS]
def It.head (i : It) : List UInt8 := (vL i.hl).enc
def It.all (i : It) : List UInt8 := (vL i.al).enc
def It.sg (i : It) : List UInt8 := i.head ++ i.bd
noncomputable def It.encB (i : It) : List UInt8 := if i.vld = true then i.all else []
noncomputable def It.encE (i : It) : Int := if i.vld = true then 0 else 290
def It.opnB (i : It) (k : List UInt8) : List UInt8 := if opOk k z12 i.head i.bd = true then unpad (opB k z12 i.head i.bd) else []
def It.opnE (i : It) (k : List UInt8) : Int := if opOk k z12 i.head i.bd = true then unpE (opB k z12 i.head i.bd) else 60
def ckey (s : List UInt8) (d c : Int) : List UInt8 := expand s lbItem [d, c]
noncomputable def It.openB (i : It) (cm s : List UInt8) : List UInt8 := if i.vld = true ∧ i.cm = cm then i.opnB (ckey s i.dv i.ct) else []
noncomputable def It.openE (i : It) (cm s : List UInt8) : Int := if i.vld = true ∧ i.cm = cm then i.opnE (ckey s i.dv i.ct) else 290
noncomputable def It.viaB (i : It) (x a b : Int) (p : List UInt8) : List UInt8 := if i.vld = true ∧ b = i.cB ∧ p = i.pd then (if Go.Proofs.YtejdjnkilikehaaGreatDoor.opE x a b = 0 then i.opnB (opK x a b p) else []) else []
noncomputable def It.viaE (i : It) (x a b : Int) (p : List UInt8) : Int := if i.vld = true ∧ b = i.cB ∧ p = i.pd then (if Go.Proofs.YtejdjnkilikehaaGreatDoor.opE x a b = 0 then i.opnE (opK x a b p) else Go.Proofs.YtejdjnkilikehaaGreatDoor.opE x a b) else 290
noncomputable def It.chk (i : It) (v : Int) : Int := if i.vld = true then (if vrf v i.sg i.sR i.sS = true then 0 else 222) else 290
def lnk (s : List UInt8) : Nat := dscal s lbLink
end Itm
end
section
namespace Eng
open Go Go.RowKit
section
variable {P : Program} {n : Nat} {D : List Deferred} {W : World} {Bo : List Nat} {F : List (Nat × Value)} {l : SH}
  {d : Option Tmp} {ty : TypeId} {ps : String} {af : Array Edge} {g : Option (Nat × Bool)} {x y : Operand} {ta tb e : TypeId}
theorem is_at {p : List Int} {i : Nat} (h : i < p.length) : (is p).toArray[i]? = some (I p[i]) := by
  rw [List.getElem?_toArray]; simp [is, List.getElem?_eq_getElem h]
theorem eqItems_i [hf : HT P e true] {by' : Nat} [hs : HS P e 1 by'] [hi : HU P e (.int .i64)] {p q : List Int} (w : World) : ∀ is' : List Nat, (∀ i ∈ is', i < p.length ∧ i < q.length) →
    (Op.eqItems 9999 e 1 (is p).toArray (is q).toArray is').run P w = .ok (is'.all fun i => p[i]? == q[i]?) w
  | [], _ => by simp [Op.eqItems]
  | i :: is', h => by
    obtain ⟨h1, h2⟩ := h i (.head _)
    have e1 := is_at h1
    have e2 := is_at h2
    have e3 : (Op.equalIn 9999 e (I p[i]) (I q[i])).run P w = .ok (p[i] == q[i]) w := run_equalIn_int w 9998 e .i64 .i64 _ _ hi.h
    have e4 : (p[i] == q[i]) = (p[i]? == q[i]?) := by
      rw [List.getElem?_eq_getElem h1, List.getElem?_eq_getElem h2]
      by_cases hpq : p[i] = q[i]
      · simp [hpq]
      · have h5 : (p[i] == q[i]) = false := by rw [beq_eq_false_iff_ne]; exact hpq
        have h6 : (some p[i] == some q[i]) = false := by simpa using hpq
        rw [h5, h6]
    simp only [Op.eqItems, Sem.run_bind, Nat.mul_one, run_part1 e1, run_part1 e2, Result.andThen_ok, e3, List.all_cons, ← e4]
    cases p[i] == q[i] with
    | false => simp
    | true => simpa using eqItems_i w is' fun j hj => h j (.tail _ hj)
theorem all_eqi {p q : List Int} {m : Nat} (hp : p.length = m) (hq : q.length = m) : ((List.range m).all fun i => p[i]? == q[i]?) = decide (p = q) := by
  by_cases h : p = q
  · subst h; simp
  · rw [decide_eq_false h, List.all_eq_false]
    apply Classical.byContradiction
    intro hc
    refine h (List.ext_getElem? fun i => ?_)
    rcases Nat.lt_or_ge i m with hi | hi
    · apply Classical.byContradiction
      intro hne
      exact hc ⟨i, List.mem_range.2 hi, by simpa using hne⟩
    · rw [List.getElem?_eq_none (by omega), List.getElem?_eq_none (by omega)]
theorem run_eqi {m : Nat} [hu : HU P ta (.array m e)] [hf : HT P e true] {by' : Nat} [hs : HS P e 1 by'] [hi : HU P e (.int .i64)] {p q : List Int} (hp : p.length = m) (hq : q.length = m) (w : World) :
    (Op.equalIn 10000 ta (.agg (is p).toArray) (.agg (is q).toArray)).run P w = .ok (decide (p = q)) w := by
  obtain ⟨inf, h1, h2, h3⟩ := hs.h
  have h4 := run_equalIn_array w 9999 (is p).toArray (is q).toArray hu.h h1
  have h5 : P.cellsOf e = 1 := by simp [Program.cellsOf, h1, h2]
  rw [h5, eqItems_i w (List.range m) (fun i hi => by have := List.mem_range.1 hi; omega), all_eqi hp hq] at h4
  exact h4
theorem y_neqi {m : Nat} [hu : HU P ta (.array m e)] [hf : HT P e true] {by' : Nat} [hs : HS P e 1 by'] [hi : HU P e (.int .i64)] {p q : List Int} (hp : p.length = m) (hq : q.length = m) (hgd : P.eqGuardType P.depth ta = false)
    (hx : evO F x = some (.agg (is p).toArray) := by rfl) (hy : evO F y = some (.agg (is q).toArray) := by rfl) : Y P n D W Bo ⟨d, .binOp .neq ta x y tb, ty, ps, af, g⟩ F l (.bool (!decide (p = q))) :=
  .mk (by simp) fun ac w ha _ => by
    simp only [execOp, ha.eval hx, ha.eval hy, Sem.run_bind, run_eqGuard_agg w .neq ta x y _ _ hgd, Result.andThen_ok, run_neq_struct, run_eqi hp hq, Sem.run_pure]
end
end Eng
end
section
namespace Gf
open Go Eng
end Gf
namespace Go.Proofs.YtejdjnkilikehaaGreatDoor
open Go Eng Gf
theorem f_Add_yes (w : World) (x y : Nat) (hx : x < 2305843009213688669) (hy : y < 2305843009213688669) : Pure Tryz.prog 169 [I x, I y] w (.tuple #[I ((x + y) % 2305843009213688669 : Nat), I 0]) := by
  refine enter Tryz.func169 Tryz.ntmps169 ?_
  refine c_seq <| c_reg <| s_y y_as <| s_y y_as <| s_nil <| q_then <| c_seq <| c_seq <| c_reg <| s_y y_mv <| s_y y_mv <| s_bslr (cs := is [(x : Int), (y : Int)]) fun b8 => s_pure (fun w' hw => (by have h9 := f_outside_ok w' (some ⟨b8, 0, none⟩) 2 [(x : Int), (y : Int)] (rdR (.head _) w' hw) (by simp); rw [show ([(x : Int), (y : Int)].any fun n => !sc n) = false by simp [sc_of hx, sc_of hy]] at h9; exact h9)) <| s_nil <| q_then <| c_f <| c_skip <| q_then <| c_seq <| c_reg <| s_y y_mv <| s_y y_mv <| s_y (y_add (p := (x : Int)) (q := (y : Int))) <| s_y (y_rem (p := (x : Int) + y) (q := 2305843009213688669)) <| ?_
  rw [show ((x : Int) + y) % 2305843009213688669 = (((x + y) % 2305843009213688669 : Nat) : Int) by omega]
  refine s_y y_as <| s_y y_as <| s_nil <| q_then <| c_ret <| ?_
  exact ret2 Tryz.results169 rv_t rv_t fun w' hw => ⟨rfl, hw.sub (List.nil_sublist _)⟩
theorem f_Check_ok (w : World) (a : Int) : Pure Tryz.prog 81 [I a] w (I (bif sc a then 0 else 1)) := by
  refine enter Tryz.func81 Tryz.ntmps81 ?_
  refine c_seq <| c_reg <| s_y y_as <| s_nil <| q_then <| c_seq <| c_seq <| c_reg <| s_y y_mv <| s_bslr (cs := is [a]) fun b8 => s_pure (fun w' hw => f_outside_ok w' (some ⟨b8, 0, none⟩) 1 [a] (rdR (.head _) w' hw) (by simp)) <| ?_
  rw [show ([a].any fun n => !sc n) = !sc a by simp]
  cases h : sc a with
  | true =>
    refine s_nil <| q_then <| c_f <| c_skip <| q_then <| c_seq <| c_reg <| s_y y_as <| s_nil <| q_then <| c_ret <| ?_
    exact ret1 Tryz.results81 rv_t fun w' hw => ⟨rfl, hw.sub (List.nil_sublist _)⟩
  | false =>
    refine s_nil <| q_then <| c_t <| c_seq <| c_reg <| s_y y_as <| s_nil <| q_then <| c_ret <| q_ret <| ?_
    exact ret1 Tryz.results81 rv_t fun w' hw => ⟨rfl, hw.sub (List.nil_sublist _)⟩
end Go.Proofs.YtejdjnkilikehaaGreatDoor
end
section
namespace Eng
open Go Go.RowKit
section
variable {r : Option Nat} {P : Program} {n : Nat} {D : List Deferred} {W : World} {Bo : List Nat} {F F0 F1 : List (Nat × Value)} {l l' l1 l2 l3 : SH} {e : TypeId}
  {dd : Nat} {ty : TypeId} {ps : String} {af : Array Edge} {g : Option (Nat × Bool)} {Q : Exit → Act → World → Prop} {ops : Array Oper} {rest : List Oper} {c : Code}
end
end Eng
namespace Gf
open Go Eng
theorem take_snoc (ps : List Nat) (k : Nat) (h : k < ps.length) : ps.take (k + 1) = ps.take k ++ [ps.getD k 0] := by
  rw [List.take_add_one, List.getElem?_eq_getElem h, List.getD_eq_getElem?_getD, List.getElem?_eq_getElem h]; rfl
end Gf
namespace Go.Proofs.YtejdjnkilikehaaGreatDoor
open Go Eng Gf
end Go.Proofs.YtejdjnkilikehaaGreatDoor
end
section
namespace Sig
open Go Eng Sha Gf Wr Go.Proofs.YtejdjnkilikehaaGreatDoor
def bey (ns : List Nat) : List UInt8 := (ns.map fun n => be n 8).flatten
theorem bey_one (n : Nat) : bey [n] = be n 8 := by simp [bey]
theorem bey_two (m n : Nat) : bey [m, n] = be m 8 ++ be n 8 := by simp [bey]
theorem bey_length : ∀ ns : List Nat, (bey ns).length = 8 * ns.length
  | [] => rfl
  | n :: ns => by
    have := bey_length ns
    unfold bey at this ⊢
    rw [List.map_cons, List.flatten_cons, List.length_append, be_length, this, List.length_cons]; omega
theorem bey_take (ns : List Nat) (k : Nat) (h : k < ns.length) : bey (ns.take (k + 1)) = bey (ns.take k) ++ be ns[k] 8 := by
  unfold bey
  rw [List.take_succ_eq_append_getElem h, List.map_append, List.flatten_append]; simp
theorem one63 {x : Nat} (h : x < 9223372036854775808) : ∀ n ∈ [x], n < 9223372036854775808 := fun n hn => by rw [List.mem_singleton.1 hn]; exact h
theorem two63 {x y : Nat} (h : x < 9223372036854775808) (h2 : y < 9223372036854775808) : ∀ n ∈ [x, y], n < 9223372036854775808 := fun n hn => by
  rcases List.mem_cons.1 hn with rfl | hn
  · exact h
  · rw [List.mem_singleton.1 hn]; exact h2
theorem pp63 (a k : Nat) : pp a k < 9223372036854775808 := Nat.lt_trans (pp_lt a k) (by decide)
theorem _root_.Gf.El.l63 {x : Nat} (h : El x) : x < 9223372036854775808 := Nat.lt_trans h.lt (by decide)
theorem el_El {u : Int} (h : el u = true) : ∃ x : Nat, u = (x : Int) ∧ El x := by
  obtain ⟨x, e, h0, h1, h2⟩ := el_nat h
  exact ⟨x, e, ⟨h0, h1, h2⟩⟩
end Sig
namespace Go.Proofs.YtejdjnkilikehaaGreatDoor
open Go Eng Gf Sha Sig Wr Cod Cha
set_option maxRecDepth 100000
theorem hgk3 : (Tryz.prog).eqGuardType (Tryz.prog).depth 106 = false := by kernel_rfl
theorem y_bsig {n : Nat} {D : List Deferred} {W : World} {Bo : List Nat} {F : List (Nat × Value)} {l : SH} {d : Option Tmp} {ty : TypeId} {ps : String} {af : Array Edge} {g : Option (Nat × Bool)} {parts : Array (Nat × Operand)} {vs : List (Nat × Value)} {cs : List Value}
    (hp : evP F parts.toList = some vs := by rfl) (hf : fillL (fun i => (#[(0, 1), (1, 1)] : Array (Nat × Nat))[i]?) [I 0, I 0] vs = some cs := by rfl) :
    Y Tryz.prog n D W Bo ⟨d, .build 34 parts, ty, ps, af, g⟩ F l (.agg cs.toArray) :=
  y_blds Tryz.underlying34 (fun w => by kernel_rfl) hp hf
theorem sValid_y (w : World) (x : Nat) (h0 : 1 ≤ x) (h : x < 2305843009213688669) : Pure Tryz.prog 74 [I x] w (.bool true) := by
  have h9 := sValid_ok w (x : Int)
  rw [pvB_of h0 h] at h9
  exact h9
theorem sPub_y (w : World) (x : Nat) (h : x < 2305843009213688669) : Pure Tryz.prog 75 [I x] w (I (pp 4 x : Nat)) := by
  refine enter Tryz.func75 Tryz.ntmps75 ?_
  refine c_seq <| c_reg <| s_y y_as <| s_nil <| q_then <| c_seq <| c_reg <| s_y y_mv <| s_pure (v := .tuple #[I (pp 4 x : Nat), I 0]) (fun w' hw => gBase_el w' x h) <| s_y y_mv <| s_y y_ext <| s_y y_ext <| s_y y_as <| s_y y_as <| s_nil <| q_then <| c_seq <| c_reg <| s_y y_mv <| s_y y_as <| s_nil <| q_then <| c_ret <| ?_
  exact ret1 Tryz.results75 rv_t fun w' hw => ⟨rfl, hw⟩
theorem one3 {a b c : Int} {v : Value} (h : v ∈ [I a, I b, I c]) : v.oneCell' = true := by
  rcases h with _ | ⟨_, _ | ⟨_, _ | ⟨_, h⟩⟩⟩
  · rfl
  · rfl
  · rfl
  · cases h
theorem gMul_yes (w : World) (x y : Nat) (hx : El x) (hy : El y) : Pure Tryz.prog 85 [I x, I y] w (.tuple #[I (x * y % 4611686018427377339 : Nat), I 0]) := by
  have h := gMul_ok w (x : Int) (y : Int)
  rw [show mulV (x : Int) (y : Int) = ((x * y % 4611686018427377339 : Nat) : Int) by rw [mulV, hx.el, hy.el]; simp, show mulE (x : Int) (y : Int) = 0 by rw [mulE, hx.el, hy.el]; rfl] at h
  exact h
theorem s_hash_ok (w : World) (t m : List UInt8) (a A : Option Addr) (c C : Nat) (ns : List Nat) (hg : LS w) (ht : t.length ≤ 1000) (hr : Rd w a (bs m)) (hA : Rd w A (ns.map fun n => I ((n : Nat) : Int))) (hn : ∀ n ∈ ns, n < 9223372036854775808) (hnl : ns.length ≤ 2) (hl : m.length ≤ 100000000) :
    Pure Tryz.prog 84 [.string (sb t), .slice a m.length c, .slice A ns.length C] w (I (scal t (bey ns ++ m) : Nat)) := by
  have hml : ns.length ≤ (ns.map fun n => I ((n : Nat) : Int)).length := by rw [List.length_map]; exact Nat.le_refl _
  refine enter Tryz.func84 Tryz.ntmps84 ?_
  refine c_seq <| c_reg <| s_y y_as <| s_nil <| q_then <| c_seq <| c_reg <| s_y y_as <| s_nil <| q_then <| c_seq <| c_seq <| c_reg <| s_y y_mv <| s_y y_len <| s_y y_mv <| s_nil <| q_then <| c_nilrow 5 1 <| c_block <| ?_
  refine c_loop3 (fun (k : Nat) (b : Option Addr) (d : Nat) => [(0, .string (sb t)), (1, .slice a m.length c), (7, .slice b (8 * k) d), (11, .slice A ns.length C), (12, I ns.length), (13, I k)]) (fun k b d => [.row b d 5 1 (8 * k) (bs (bey (ns.take k)))]) (fun k _ _ => k ≤ ns.length) (fun k _ _ => ns.length - k) 0 none 0 (by omega) ⟨rfl, rfl, rfl, rfl, rfl, rfl, trivial⟩ (.refl _) ?_
  intro k b d hk
  by_cases hlt : k < ns.length
  · have hv : (ns.map fun n => I ((n : Nat) : Int))[k]? = some (I ((ns[k] : Nat) : Int)) := by rw [List.getElem?_map, List.getElem?_eq_getElem hlt]; rfl
    have hb := hn ns[k] (List.getElem_mem hlt)
    have hbl := be_length ns[k] 8
    have hstep := bey_take ns k hlt
    obtain ⟨z, hz⟩ : ∃ z, ns[k] = z := ⟨_, rfl⟩
    rw [hz] at hv hb hbl hstep
    refine c_seq <| c_reg <| s_kt (y_lss (p := ((k : Nat) : Int)) (q := ((ns.length : Nat) : Int))) (by omega) <| s_nil <| q_then <| c_seq <| c_t <| c_skip <| q_then <| c_seq <| c_block <| c_seq <| c_reg <| s_y (y_ixs1 (xs := ns.map fun n => I ((n : Nat) : Int)) (hl := hml)) <| s_y (y_ldr (v := I ((z : Nat) : Int)) (xs := ns.map fun n => I ((n : Nat) : Int)) (i := (k : Int).toNat) hv) <| s_y y_as <| s_nil <| q_then <| c_seq <| c_reg <| s_y y_as <| s_nil <| q_then <| c_block <| ?_
    refine c_loop3 (fun (j : Nat) (b : Option Addr) (d : Nat) => [(0, .string (sb t)), (1, .slice a m.length c), (7, .slice b (8 * k + j) d), (9, I z), (10, I (56 - 8 * (j : Int))), (11, .slice A ns.length C), (12, I ns.length), (13, I k)]) (fun j b d => [.row b d 5 1 (8 * k + j) (bs (bey (ns.take k) ++ (be z 8).take j))]) (fun j _ _ => j ≤ 8) (fun j _ _ => 8 - j) 0 b d (by omega) ⟨rfl, rfl, rfl, rfl, rfl, rfl, rfl, rfl, trivial⟩ (by rw [List.take_zero, List.append_nil]; exact .refl _) ?_
    intro j b2 d2 hj
    by_cases h8 : j < 8
    · refine c_seq <| c_seq <| c_reg <| s_y y_mv <| s_kt (y_geq (p := 56 - 8 * (j : Int)) (q := 0)) (by omega) <| s_nil <| q_then <| c_t <| c_skip <| q_then <| c_seq <| c_block <| c_reg <| s_y y_mv <| s_y y_mv <| s_y (y_cvn (k := .u64) (p := ((z : Nat) : Int)) (hw := wrap_u64 (by omega) (by omega))) <| s_y y_mv <| ?_
      rw [show (56 : Int) - 8 * (j : Int) = ((56 - 8 * j : Nat) : Int) by omega]
      refine s_y (y_shr (p := z) (q := ((56 - 8 * j : Nat) : Int))) <| ?_
      rw [Int.toNat_natCast]
      refine s_y y_cv8 <| ?_
      rw [cvn8, show UInt8.ofNat (z / 2 ^ (56 - 8 * j)) = (be z 8).getD j 0 by rw [be_get z 8 j h8, show 8 * (8 - 1 - j) = 56 - 8 * j by omega]]
      refine s_bslr (cs := bs [(be z 8).getD j 0]) fun b29 => s_app (m := 1) (srcB (q := [(be z 8).getD j 0]) (rdR (.head _)) rfl) (h1 := fun v hv => bs_one hv) (hm := .tail _ (.head _)) (hrep := fun _ _ => .tail _ (.head _)) fun a30 c30 h30 => ?_
      rw [← bs_append, List.append_assoc, ← Eng.take_snoc (be z 8) j 0 (by omega), show 8 * k + j + 1 = 8 * k + (j + 1) by omega]
      refine s_y y_as <| s_nil <| q_nb <| q_then <| c_reg <| s_y y_mv <| s_y (y_sub (p := ((56 - 8 * j : Nat) : Int)) (q := 8)) <| ?_
      rw [show ((56 - 8 * j : Nat) : Int) - 8 = 56 - 8 * ((j + 1 : Nat) : Int) by omega]
      refine s_y y_as <| s_nil <| q_round3 (x := j) (y := b2) (z := d2) (j + 1) a30 c30 (by omega) (by omega) ⟨rfl, rfl, rfl, rfl, rfl, rfl, rfl, rfl, trivial⟩ (.cons _ (.refl _))
    · obtain rfl : j = 8 := by omega
      rw [List.take_of_length_le (l := be z 8) (by omega), ← hstep, show 8 * k + 8 = 8 * (k + 1) by omega]
      refine c_seq <| c_seq <| c_reg <| s_y y_mv <| s_kf (y_geq (p := 56 - 8 * ((8 : Nat) : Int)) (q := 0)) (by omega) <| s_nil <| q_then <| c_f <| c_exit <| q_ex <| q_ex <| q_exb <| q_nb <| q_then <| c_reg <| s_y (y_add (p := ((k : Nat) : Int)) (q := 1)) <| s_y y_mv <| s_nil <| ?_
      rw [show ((k : Nat) : Int) + 1 = ((k + 1 : Nat) : Int) by omega]
      exact q_round3 (x := k) (y := b) (z := d) (k + 1) b2 d2 (by omega) (by omega) ⟨rfl, rfl, rfl, rfl, rfl, rfl, trivial⟩ (.refl _)
  · obtain rfl : k = ns.length := by omega
    have hbl := bey_length ns
    rw [List.take_length]
    refine c_seq <| c_reg <| s_kf (y_lss (p := ((ns.length : Nat) : Int)) (q := ((ns.length : Nat) : Int))) (by omega) <| s_nil <| q_then <| c_seq <| c_f <| c_exit <| q_ex <| q_ex <| q_exb <| q_then <| c_seq <| c_reg <| s_y y_mv <| s_y y_mv <| s_y y_mv <| s_app (m := m.length) (srcB (q := m) (rdW0 hr) rfl) (h1 := fun v hv => bs_one hv) (hm := .head _) (hrep := fun _ _ => .head _) fun a33 c33 h33 => ?_
    rw [← bs_append, show 8 * ns.length + m.length = (bey ns ++ m).length by rw [List.length_append]; omega]
    refine s_pure (fun w' hw => group_Scalar_ok w' t a33 c33 (bey ns ++ m) (hg.st hw) (by omega) (rdR (.head _) w' hw) (by rw [List.length_append]; omega)) <| s_y y_as <| s_nil <| q_then <| c_ret <| ?_
    exact ret1 Tryz.results84 rv_t fun w' hw => ⟨rfl, hw.sub (List.nil_sublist _)⟩
theorem sSign_yes (w : World) (a : Option Addr) (c : Nat) (m : List UInt8) (x : Nat) (hg : LS w) (hr : Rd w a (bs m)) (hl : m.length ≤ 100000000) (hx0 : 1 ≤ x) (hx : x < 2305843009213688669) : Pure Tryz.prog 107 [I x, .slice a m.length c] w (.tuple #[.agg #[I (sgR x m : Nat), I (sgS x m : Nat)], I 0]) := by
  refine enter Tryz.func107 Tryz.ntmps107 ?_
  refine c_seq <| c_reg <| s_alloc fun b4 => s_y y_as <| s_nil <| q_then <| c_seq <| c_reg <| s_y y_mv <| s_y y_as <| s_nil <| q_then <| c_seq <| c_reg <| s_y y_mv <| s_y y_func <| s_y y_mv <| s_y y_func <| s_y y_as <| s_y y_as <| s_nil <| q_then <| c_seq <| c_seq <| c_reg <| s_y y_mv <| s_pure (fun w' hw => sValid_y w' x hx0 hx) <| s_y (v := .bool false) (y_not (b := true)) <| s_nil <| q_then <| c_f <| c_skip <| q_then <| c_seq <| c_reg <| s_y y_mv <| s_y y_mv <| s_bslr (cs := [I x]) fun b23 => s_pure (fun w' hw => s_hash_ok w' tNonce m a (some ⟨b23, 0, none⟩) c 1 [x] (hg.st hw) (by decide) (hr.st hw) (rdR (.head _) w' hw) (one63 (by omega)) (by simp) hl) <| ?_
  rw [bey_one, show scal tNonce (be x 8 ++ m) = nonce x m from rfl]
  refine s_y y_as <| s_nil <| q_then <| c_seq <| c_reg <| s_y y_mv <| s_pure (fun w' hw => gBase_el w' (nonce x m) (nonce_lt _ _)) <| ?_
  rw [show pp 4 (nonce x m) = sgR x m from rfl]
  refine s_y y_mv <| s_y y_ext <| s_y y_ext <| s_y y_fa <| s_st (b := b4) (v := I (sgR x m : Nat)) (cs := #[I 0, I 0]) (hl := by simp) ?_
  refine s_nil <| q_then <| c_seq <| c_regL [.row (some ⟨b23, 0, none⟩) 1 3 1 1 [I x], .blk b4 (.cells #[I (sgR x m : Nat), I 0] 34 (0, 0))] <| r_y 0 rfl y_mv <| r_y 1 rfl y_fa <| r_y 2 rfl (y_ld (b := b4) (v := I (sgR x m : Nat))) <| r_y 3 rfl y_mv <| r_y 7 rfl y_mv <| r_W 4 rfl <| s_pure (fun w' hw => sPub_y w' x hx) <| r_K <| r_W 5 rfl <| s_bslr (cs := [I (sgR x m : Nat), I (pp 4 x : Nat)]) fun b37 => r_K <| r_W 6 rfl <| s_pure (fun w' hw => s_hash_ok w' tSign m a (some ⟨b37, 0, none⟩) c 2 [sgR x m, pp 4 x] (hg.st hw) (by decide) (hr.st hw) (rdR (.head _) w' hw) (two63 (pp63 _ _) (pp63 _ _)) (by simp) hl) <| ?_
  rw [bey_two, show scal tSign (be (sgR x m) 8 ++ be (pp 4 x) 8 ++ m) = chal (sgR x m) (pp 4 x) m from rfl]
  refine r_K <| r_W 8 rfl <| s_pure (fun w' hw => f_Mul_yes w' (chal (sgR x m) (pp 4 x) m) x (chal_lt _ _ _) hx) <| r_K <| r_y 9 rfl y_mv <| r_y 10 rfl y_ext <| r_y 11 rfl y_ext <| r_y 12 rfl y_as <| r_y 13 rfl y_as <| r_E <| q_then <| c_seq <| c_reg <| s_y y_mv <| s_y y_mv <| s_pure (fun w' hw => f_Add_yes w' (nonce x m) ((chal (sgR x m) (pp 4 x) m) * x % 2305843009213688669) (nonce_lt _ _) (Nat.mod_lt _ (by decide))) <| ?_
  rw [show (nonce x m + (chal (sgR x m) (pp 4 x) m) * x % 2305843009213688669) % 2305843009213688669 = sgS x m from rfl]
  refine s_y y_mv <| s_y y_ext <| s_y y_ext <| s_y y_fa <| s_st (b := b4) (v := I (sgS x m : Nat)) (cs := #[I (sgR x m : Nat), I 0]) (hl := by simp) ?_
  refine s_y y_as <| s_nil <| q_then <| c_seq <| c_reg <| s_y (y_lda (b := b4) (cs := #[I (sgR x m : Nat), I (sgS x m : Nat)]) (hl := rfl)) <| s_y y_mv <| s_sta (b := b4) (vs := #[I (sgR x m : Nat), I (sgS x m : Nat)]) (cs := #[I (sgR x m : Nat), I (sgS x m : Nat)]) (h1 := by intro u hu; simp at hu; rcases hu with rfl | rfl <;> rfl) (hl := rfl) (hs1 := rfl) ?_
  refine s_y y_as <| s_nil <| q_then <| c_ret <| ?_
  exact ret2 Tryz.results107 (rv_ca (b := b4) (cs := #[I (sgR x m : Nat), I (sgS x m : Nat)]) (hl := rfl)) rv_t fun w' hw => ⟨rfl, hw.sub (List.nil_sublist _)⟩
theorem sVerify_bad (w : World) (a : Option Addr) (c : Nat) (m : List UInt8) (p r s : Int) (hr : Rd w a (bs m)) (hl : m.length ≤ 100000000) (hz : ¬ [chk p, chk r, bif sc s then 0 else 1] = [0, 0, 0]) : Pure Tryz.prog 34 [I p, .slice a m.length c, .agg #[I r, I s]] w (.bool false) := by
  refine enter Tryz.func34 Tryz.ntmps34 ?_
  refine c_seq <| c_reg <| s_box rfl fun b5 => s_y y_as <| s_nil <| q_then <| c_seq <| c_regL [.blk b5 (.cells #[I r, I s] 34 (0, 0))] <| r_y 0 rfl y_mv <| r_y 2 rfl y_fa <| r_y 3 rfl (y_ld (b := b5) (v := I r)) <| r_y 5 rfl y_fa <| r_y 6 rfl (y_ld (b := b5) (v := I s)) <| r_w2 1 9 rfl rfl ?_ ?_ (hsub := by repeat (first | exact List.nil_sublist _ | exact List.Sublist.refl _ | apply List.Sublist.cons_cons | apply List.Sublist.cons))
  · refine s_pure (fun w' hw => gCheck_ok w' p) <| r_K <| r_w2 4 9 rfl rfl ?_ ?_ (hsub := by repeat (first | exact List.nil_sublist _ | exact List.Sublist.refl _ | apply List.Sublist.cons_cons | apply List.Sublist.cons))
    · refine s_pure (fun w' hw => gCheck_ok w' r) <| r_K <| r_w2 7 9 rfl rfl ?_ ?_ (hsub := by repeat (first | exact List.nil_sublist _ | exact List.Sublist.refl _ | apply List.Sublist.cons_cons | apply List.Sublist.cons))
      · refine s_pure (fun w' hw => f_Check_ok w' s) <| r_K <| r_y 8 rfl (y_blda (cs := [I (chk p), I (chk r), I (bif sc s then 0 else 1)])) <| r_W 9 rfl <| s_alloc fun b7 => r_K <| r_W 10 rfl <| s_sta (b := b7) (vs := #[I (chk p), I (chk r), I (bif sc s then 0 else 1)]) (cs := #[I 0, I 0, I 0]) (h1 := fun v hv => one3 hv) (hl := (rfl : (3 : Nat) = 3)) (hs1 := (rfl : (3 : Nat) = 3)) ?_
        refine r_K <| r_E <| q_then <| c_seq <| c_seq <| c_reg <| s_y (y_lda (b := b7) (cs := #[I (chk p), I (chk r), I (bif sc s then 0 else 1)]) (hl := rfl)) <| s_y (y_blda (cs := [I 0, I 0, I 0])) <| s_nt (y_neqi (m := 3) (p := [chk p, chk r, bif sc s then 0 else 1]) (q := [0, 0, 0]) rfl rfl hgk3) hz <| s_nil <| q_then <| c_t <| c_seq <| c_reg <| s_y y_as <| s_nil <| q_then <| c_ret <| q_ret <| ?_
        exact ret1 Tryz.results34 rv_t fun w' hw => ⟨rfl, hw.sub (List.nil_sublist _)⟩
      · refine s_alloc fun b7 => r_K <| r_W 7 rfl <| s_pure (fun w' hw => f_Check_ok w' s) <| r_K <| r_y 8 rfl (y_blda (cs := [I (chk p), I (chk r), I (bif sc s then 0 else 1)])) <| r_W 10 rfl <| s_sta (b := b7) (vs := #[I (chk p), I (chk r), I (bif sc s then 0 else 1)]) (cs := #[I 0, I 0, I 0]) (h1 := fun v hv => one3 hv) (hl := (rfl : (3 : Nat) = 3)) (hs1 := (rfl : (3 : Nat) = 3)) ?_
        refine r_K <| r_E <| q_then <| c_seq <| c_seq <| c_reg <| s_y (y_lda (b := b7) (cs := #[I (chk p), I (chk r), I (bif sc s then 0 else 1)]) (hl := rfl)) <| s_y (y_blda (cs := [I 0, I 0, I 0])) <| s_nt (y_neqi (m := 3) (p := [chk p, chk r, bif sc s then 0 else 1]) (q := [0, 0, 0]) rfl rfl hgk3) hz <| s_nil <| q_then <| c_t <| c_seq <| c_reg <| s_y y_as <| s_nil <| q_then <| c_ret <| q_ret <| ?_
        exact ret1 Tryz.results34 rv_t fun w' hw => ⟨rfl, hw.sub (List.nil_sublist _)⟩
    · refine s_alloc fun b7 => r_K <| r_W 4 rfl <| s_pure (fun w' hw => gCheck_ok w' r) <| r_K <| r_W 7 rfl <| s_pure (fun w' hw => f_Check_ok w' s) <| r_K <| r_y 8 rfl (y_blda (cs := [I (chk p), I (chk r), I (bif sc s then 0 else 1)])) <| r_W 10 rfl <| s_sta (b := b7) (vs := #[I (chk p), I (chk r), I (bif sc s then 0 else 1)]) (cs := #[I 0, I 0, I 0]) (h1 := fun v hv => one3 hv) (hl := (rfl : (3 : Nat) = 3)) (hs1 := (rfl : (3 : Nat) = 3)) ?_
      refine r_K <| r_E <| q_then <| c_seq <| c_seq <| c_reg <| s_y (y_lda (b := b7) (cs := #[I (chk p), I (chk r), I (bif sc s then 0 else 1)]) (hl := rfl)) <| s_y (y_blda (cs := [I 0, I 0, I 0])) <| s_nt (y_neqi (m := 3) (p := [chk p, chk r, bif sc s then 0 else 1]) (q := [0, 0, 0]) rfl rfl hgk3) hz <| s_nil <| q_then <| c_t <| c_seq <| c_reg <| s_y y_as <| s_nil <| q_then <| c_ret <| q_ret <| ?_
      exact ret1 Tryz.results34 rv_t fun w' hw => ⟨rfl, hw.sub (List.nil_sublist _)⟩
  · refine s_alloc fun b7 => r_K <| r_W 1 rfl <| s_pure (fun w' hw => gCheck_ok w' p) <| r_K <| r_W 4 rfl <| s_pure (fun w' hw => gCheck_ok w' r) <| r_K <| r_W 7 rfl <| s_pure (fun w' hw => f_Check_ok w' s) <| r_K <| r_y 8 rfl (y_blda (cs := [I (chk p), I (chk r), I (bif sc s then 0 else 1)])) <| r_W 10 rfl <| s_sta (b := b7) (vs := #[I (chk p), I (chk r), I (bif sc s then 0 else 1)]) (cs := #[I 0, I 0, I 0]) (h1 := fun v hv => one3 hv) (hl := (rfl : (3 : Nat) = 3)) (hs1 := (rfl : (3 : Nat) = 3)) ?_
    refine r_K <| r_E <| q_then <| c_seq <| c_seq <| c_reg <| s_y (y_lda (b := b7) (cs := #[I (chk p), I (chk r), I (bif sc s then 0 else 1)]) (hl := rfl)) <| s_y (y_blda (cs := [I 0, I 0, I 0])) <| s_nt (y_neqi (m := 3) (p := [chk p, chk r, bif sc s then 0 else 1]) (q := [0, 0, 0]) rfl rfl hgk3) hz <| s_nil <| q_then <| c_t <| c_seq <| c_reg <| s_y y_as <| s_nil <| q_then <| c_ret <| q_ret <| ?_
    exact ret1 Tryz.results34 rv_t fun w' hw => ⟨rfl, hw.sub (List.nil_sublist _)⟩
theorem sVerify_good (w : World) (a : Option Addr) (c : Nat) (m : List UInt8) (p r s : Nat) (hg : LS w) (hr : Rd w a (bs m)) (hl : m.length ≤ 100000000) (hep : El p) (her : El r) (hs : s < 2305843009213688669) : Pure Tryz.prog 34 [I p, .slice a m.length c, .agg #[I r, I s]] w (.bool (decide (pp 4 s = r * pp p (chal r p m) % 4611686018427377339))) := by
  have hz : [chk p, chk r, bif sc s then 0 else 1] = [0, 0, 0] := by rw [chk, hep.el, chk, her.el, sc_of hs]; rfl
  refine enter Tryz.func34 Tryz.ntmps34 ?_
  refine c_seq <| c_reg <| s_box rfl fun b5 => s_y y_as <| s_nil <| q_then <| c_seq <| c_regL [.blk b5 (.cells #[I r, I s] 34 (0, 0))] <| r_y 0 rfl y_mv <| r_y 2 rfl y_fa <| r_y 3 rfl (y_ld (b := b5) (v := I r)) <| r_y 5 rfl y_fa <| r_y 6 rfl (y_ld (b := b5) (v := I s)) <| r_w2 1 9 rfl rfl ?_ ?_ (hsub := by repeat (first | exact List.nil_sublist _ | exact List.Sublist.refl _ | apply List.Sublist.cons_cons | apply List.Sublist.cons))
  · refine s_pure (fun w' hw => gCheck_ok w' p) <| r_K <| r_w2 4 9 rfl rfl ?_ ?_ (hsub := by repeat (first | exact List.nil_sublist _ | exact List.Sublist.refl _ | apply List.Sublist.cons_cons | apply List.Sublist.cons))
    · refine s_pure (fun w' hw => gCheck_ok w' r) <| r_K <| r_w2 7 9 rfl rfl ?_ ?_ (hsub := by repeat (first | exact List.nil_sublist _ | exact List.Sublist.refl _ | apply List.Sublist.cons_cons | apply List.Sublist.cons))
      · refine s_pure (fun w' hw => f_Check_ok w' s) <| r_K <| r_y 8 rfl (y_blda (cs := [I (chk p), I (chk r), I (bif sc s then 0 else 1)])) <| r_W 9 rfl <| s_alloc fun b7 => r_K <| r_W 10 rfl <| s_sta (b := b7) (vs := #[I (chk p), I (chk r), I (bif sc s then 0 else 1)]) (cs := #[I 0, I 0, I 0]) (h1 := fun v hv => one3 hv) (hl := (rfl : (3 : Nat) = 3)) (hs1 := (rfl : (3 : Nat) = 3)) ?_
        refine r_K <| r_E <| q_then <| c_seq <| c_seq <| c_reg <| s_y (y_lda (b := b7) (cs := #[I (chk p), I (chk r), I (bif sc s then 0 else 1)]) (hl := rfl)) <| s_y (y_blda (cs := [I 0, I 0, I 0])) <| s_nf (y_neqi (m := 3) (p := [chk p, chk r, bif sc s then 0 else 1]) (q := [0, 0, 0]) rfl rfl hgk3) hz <| s_nil <| q_then <| c_f <| c_skip <| q_then <| c_seq <| c_reg <| s_y y_fa <| s_y (y_ld (b := b5) (v := I s)) <| s_pure (fun w' hw => gBase_el w' s hs) <| s_y y_mv <| s_y y_ext <| s_y y_ext <| s_y y_as <| s_y y_as <| s_nil <| q_then <| c_seq <| c_reg <| s_y y_mv <| s_y y_mv <| s_y y_fa <| s_y (y_ld (b := b5) (v := I r)) <| s_y y_mv <| s_bslr (cs := [I r, I p]) fun b38 => s_pure (fun w' hw => s_hash_ok w' tSign m a (some ⟨b38, 0, none⟩) c 2 [r, p] (hg.st hw) (by decide) (hr.st hw) (rdR (.head _) w' hw) (two63 (El.l63 her) (El.l63 hep)) (by simp) hl) <| ?_
        rw [bey_two, show scal tSign (be r 8 ++ be p 8 ++ m) = chal r p m from rfl]
        refine s_pure (fun w' hw => gExp_yes w' p (chal r p m) hep (chal_lt _ _ _)) <| s_y y_mv <| s_y y_ext <| s_y y_ext <| s_y y_as <| s_y y_as <| s_nil <| q_then <| c_seq <| c_reg <| s_y y_fa <| s_y (y_ld (b := b5) (v := I r)) <| s_y y_mv <| s_pure (fun w' hw => gMul_yes w' r (pp p (chal r p m)) her (hep.pow _)) <| s_y y_mv <| s_y y_ext <| s_y y_ext <| s_y y_as <| s_y y_as <| s_nil <| q_then <| c_seq <| c_reg <| s_y y_mv <| s_y y_mv <| s_y (y_eql (p := ((pp 4 s : Nat) : Int)) (q := ((r * pp p (chal r p m) % 4611686018427377339 : Nat) : Int))) <| ?_
        rw [show decide (((pp 4 s : Nat) : Int) = ((r * pp p (chal r p m) % 4611686018427377339 : Nat) : Int)) = decide (pp 4 s = r * pp p (chal r p m) % 4611686018427377339) by rw [decide_eq_decide]; omega]
        refine s_y y_as <| s_nil <| q_then <| c_ret <| ?_
        exact ret1 Tryz.results34 rv_t fun w' hw => ⟨rfl, hw.sub (List.nil_sublist _)⟩
      · refine s_alloc fun b7 => r_K <| r_W 7 rfl <| s_pure (fun w' hw => f_Check_ok w' s) <| r_K <| r_y 8 rfl (y_blda (cs := [I (chk p), I (chk r), I (bif sc s then 0 else 1)])) <| r_W 10 rfl <| s_sta (b := b7) (vs := #[I (chk p), I (chk r), I (bif sc s then 0 else 1)]) (cs := #[I 0, I 0, I 0]) (h1 := fun v hv => one3 hv) (hl := (rfl : (3 : Nat) = 3)) (hs1 := (rfl : (3 : Nat) = 3)) ?_
        refine r_K <| r_E <| q_then <| c_seq <| c_seq <| c_reg <| s_y (y_lda (b := b7) (cs := #[I (chk p), I (chk r), I (bif sc s then 0 else 1)]) (hl := rfl)) <| s_y (y_blda (cs := [I 0, I 0, I 0])) <| s_nf (y_neqi (m := 3) (p := [chk p, chk r, bif sc s then 0 else 1]) (q := [0, 0, 0]) rfl rfl hgk3) hz <| s_nil <| q_then <| c_f <| c_skip <| q_then <| c_seq <| c_reg <| s_y y_fa <| s_y (y_ld (b := b5) (v := I s)) <| s_pure (fun w' hw => gBase_el w' s hs) <| s_y y_mv <| s_y y_ext <| s_y y_ext <| s_y y_as <| s_y y_as <| s_nil <| q_then <| c_seq <| c_reg <| s_y y_mv <| s_y y_mv <| s_y y_fa <| s_y (y_ld (b := b5) (v := I r)) <| s_y y_mv <| s_bslr (cs := [I r, I p]) fun b38 => s_pure (fun w' hw => s_hash_ok w' tSign m a (some ⟨b38, 0, none⟩) c 2 [r, p] (hg.st hw) (by decide) (hr.st hw) (rdR (.head _) w' hw) (two63 (El.l63 her) (El.l63 hep)) (by simp) hl) <| ?_
        rw [bey_two, show scal tSign (be r 8 ++ be p 8 ++ m) = chal r p m from rfl]
        refine s_pure (fun w' hw => gExp_yes w' p (chal r p m) hep (chal_lt _ _ _)) <| s_y y_mv <| s_y y_ext <| s_y y_ext <| s_y y_as <| s_y y_as <| s_nil <| q_then <| c_seq <| c_reg <| s_y y_fa <| s_y (y_ld (b := b5) (v := I r)) <| s_y y_mv <| s_pure (fun w' hw => gMul_yes w' r (pp p (chal r p m)) her (hep.pow _)) <| s_y y_mv <| s_y y_ext <| s_y y_ext <| s_y y_as <| s_y y_as <| s_nil <| q_then <| c_seq <| c_reg <| s_y y_mv <| s_y y_mv <| s_y (y_eql (p := ((pp 4 s : Nat) : Int)) (q := ((r * pp p (chal r p m) % 4611686018427377339 : Nat) : Int))) <| ?_
        rw [show decide (((pp 4 s : Nat) : Int) = ((r * pp p (chal r p m) % 4611686018427377339 : Nat) : Int)) = decide (pp 4 s = r * pp p (chal r p m) % 4611686018427377339) by rw [decide_eq_decide]; omega]
        refine s_y y_as <| s_nil <| q_then <| c_ret <| ?_
        exact ret1 Tryz.results34 rv_t fun w' hw => ⟨rfl, hw.sub (List.nil_sublist _)⟩
    · refine s_alloc fun b7 => r_K <| r_W 4 rfl <| s_pure (fun w' hw => gCheck_ok w' r) <| r_K <| r_W 7 rfl <| s_pure (fun w' hw => f_Check_ok w' s) <| r_K <| r_y 8 rfl (y_blda (cs := [I (chk p), I (chk r), I (bif sc s then 0 else 1)])) <| r_W 10 rfl <| s_sta (b := b7) (vs := #[I (chk p), I (chk r), I (bif sc s then 0 else 1)]) (cs := #[I 0, I 0, I 0]) (h1 := fun v hv => one3 hv) (hl := (rfl : (3 : Nat) = 3)) (hs1 := (rfl : (3 : Nat) = 3)) ?_
      refine r_K <| r_E <| q_then <| c_seq <| c_seq <| c_reg <| s_y (y_lda (b := b7) (cs := #[I (chk p), I (chk r), I (bif sc s then 0 else 1)]) (hl := rfl)) <| s_y (y_blda (cs := [I 0, I 0, I 0])) <| s_nf (y_neqi (m := 3) (p := [chk p, chk r, bif sc s then 0 else 1]) (q := [0, 0, 0]) rfl rfl hgk3) hz <| s_nil <| q_then <| c_f <| c_skip <| q_then <| c_seq <| c_reg <| s_y y_fa <| s_y (y_ld (b := b5) (v := I s)) <| s_pure (fun w' hw => gBase_el w' s hs) <| s_y y_mv <| s_y y_ext <| s_y y_ext <| s_y y_as <| s_y y_as <| s_nil <| q_then <| c_seq <| c_reg <| s_y y_mv <| s_y y_mv <| s_y y_fa <| s_y (y_ld (b := b5) (v := I r)) <| s_y y_mv <| s_bslr (cs := [I r, I p]) fun b38 => s_pure (fun w' hw => s_hash_ok w' tSign m a (some ⟨b38, 0, none⟩) c 2 [r, p] (hg.st hw) (by decide) (hr.st hw) (rdR (.head _) w' hw) (two63 (El.l63 her) (El.l63 hep)) (by simp) hl) <| ?_
      rw [bey_two, show scal tSign (be r 8 ++ be p 8 ++ m) = chal r p m from rfl]
      refine s_pure (fun w' hw => gExp_yes w' p (chal r p m) hep (chal_lt _ _ _)) <| s_y y_mv <| s_y y_ext <| s_y y_ext <| s_y y_as <| s_y y_as <| s_nil <| q_then <| c_seq <| c_reg <| s_y y_fa <| s_y (y_ld (b := b5) (v := I r)) <| s_y y_mv <| s_pure (fun w' hw => gMul_yes w' r (pp p (chal r p m)) her (hep.pow _)) <| s_y y_mv <| s_y y_ext <| s_y y_ext <| s_y y_as <| s_y y_as <| s_nil <| q_then <| c_seq <| c_reg <| s_y y_mv <| s_y y_mv <| s_y (y_eql (p := ((pp 4 s : Nat) : Int)) (q := ((r * pp p (chal r p m) % 4611686018427377339 : Nat) : Int))) <| ?_
      rw [show decide (((pp 4 s : Nat) : Int) = ((r * pp p (chal r p m) % 4611686018427377339 : Nat) : Int)) = decide (pp 4 s = r * pp p (chal r p m) % 4611686018427377339) by rw [decide_eq_decide]; omega]
      refine s_y y_as <| s_nil <| q_then <| c_ret <| ?_
      exact ret1 Tryz.results34 rv_t fun w' hw => ⟨rfl, hw.sub (List.nil_sublist _)⟩
  · refine s_alloc fun b7 => r_K <| r_W 1 rfl <| s_pure (fun w' hw => gCheck_ok w' p) <| r_K <| r_W 4 rfl <| s_pure (fun w' hw => gCheck_ok w' r) <| r_K <| r_W 7 rfl <| s_pure (fun w' hw => f_Check_ok w' s) <| r_K <| r_y 8 rfl (y_blda (cs := [I (chk p), I (chk r), I (bif sc s then 0 else 1)])) <| r_W 10 rfl <| s_sta (b := b7) (vs := #[I (chk p), I (chk r), I (bif sc s then 0 else 1)]) (cs := #[I 0, I 0, I 0]) (h1 := fun v hv => one3 hv) (hl := (rfl : (3 : Nat) = 3)) (hs1 := (rfl : (3 : Nat) = 3)) ?_
    refine r_K <| r_E <| q_then <| c_seq <| c_seq <| c_reg <| s_y (y_lda (b := b7) (cs := #[I (chk p), I (chk r), I (bif sc s then 0 else 1)]) (hl := rfl)) <| s_y (y_blda (cs := [I 0, I 0, I 0])) <| s_nf (y_neqi (m := 3) (p := [chk p, chk r, bif sc s then 0 else 1]) (q := [0, 0, 0]) rfl rfl hgk3) hz <| s_nil <| q_then <| c_f <| c_skip <| q_then <| c_seq <| c_reg <| s_y y_fa <| s_y (y_ld (b := b5) (v := I s)) <| s_pure (fun w' hw => gBase_el w' s hs) <| s_y y_mv <| s_y y_ext <| s_y y_ext <| s_y y_as <| s_y y_as <| s_nil <| q_then <| c_seq <| c_reg <| s_y y_mv <| s_y y_mv <| s_y y_fa <| s_y (y_ld (b := b5) (v := I r)) <| s_y y_mv <| s_bslr (cs := [I r, I p]) fun b38 => s_pure (fun w' hw => s_hash_ok w' tSign m a (some ⟨b38, 0, none⟩) c 2 [r, p] (hg.st hw) (by decide) (hr.st hw) (rdR (.head _) w' hw) (two63 (El.l63 her) (El.l63 hep)) (by simp) hl) <| ?_
    rw [bey_two, show scal tSign (be r 8 ++ be p 8 ++ m) = chal r p m from rfl]
    refine s_pure (fun w' hw => gExp_yes w' p (chal r p m) hep (chal_lt _ _ _)) <| s_y y_mv <| s_y y_ext <| s_y y_ext <| s_y y_as <| s_y y_as <| s_nil <| q_then <| c_seq <| c_reg <| s_y y_fa <| s_y (y_ld (b := b5) (v := I r)) <| s_y y_mv <| s_pure (fun w' hw => gMul_yes w' r (pp p (chal r p m)) her (hep.pow _)) <| s_y y_mv <| s_y y_ext <| s_y y_ext <| s_y y_as <| s_y y_as <| s_nil <| q_then <| c_seq <| c_reg <| s_y y_mv <| s_y y_mv <| s_y (y_eql (p := ((pp 4 s : Nat) : Int)) (q := ((r * pp p (chal r p m) % 4611686018427377339 : Nat) : Int))) <| ?_
    rw [show decide (((pp 4 s : Nat) : Int) = ((r * pp p (chal r p m) % 4611686018427377339 : Nat) : Int)) = decide (pp 4 s = r * pp p (chal r p m) % 4611686018427377339) by rw [decide_eq_decide]; omega]
    refine s_y y_as <| s_nil <| q_then <| c_ret <| ?_
    exact ret1 Tryz.results34 rv_t fun w' hw => ⟨rfl, hw.sub (List.nil_sublist _)⟩
theorem chk_0 {p : Int} : chk p = 0 ↔ el p = true := by
  unfold chk
  cases el p <;> simp
theorem sVerify_ok (w : World) (a : Option Addr) (c : Nat) (m : List UInt8) (p r s : Int) (hg : LS w) (hr : Rd w a (bs m)) (hl : m.length ≤ 100000000) : Pure Tryz.prog 34 [I p, .slice a m.length c, .agg #[I r, I s]] w (.bool (vrf p m r s)) := by
  cases hp : el p with
  | false =>
    rw [show vrf p m r s = false by rw [vrf, hp, Bool.false_and]]
    exact sVerify_bad w a c m p r s hr hl (fun h => by have h1 := (List.cons.inj h).1; rw [chk_0, hp] at h1; cases h1)
  | true =>
    cases hr2 : el r with
    | false =>
      rw [show vrf p m r s = false by rw [vrf, hr2, Bool.false_and, Bool.and_false]]
      exact sVerify_bad w a c m p r s hr hl (fun h => by have h1 := (List.cons.inj (List.cons.inj h).2).1; rw [chk_0, hr2] at h1; cases h1)
    | true =>
      cases hs : sc s with
      | false =>
        rw [show vrf p m r s = false by rw [vrf, hs, Bool.false_and, Bool.and_false, Bool.and_false]]
        exact sVerify_bad w a c m p r s hr hl (fun h => by have h1 := (List.cons.inj (List.cons.inj (List.cons.inj h).2).2).1; rw [hs] at h1; cases h1)
      | true =>
        obtain ⟨x, rfl, hx⟩ := el_El hp
        obtain ⟨y, rfl, hy⟩ := el_El hr2
        obtain ⟨z, rfl, hz⟩ := sc_nat hs
        rw [show vrf (x : Int) m y z = decide (pp 4 z = y * pp x (chal y x m) % 4611686018427377339) by rw [vrf, hp, hr2, hs, Bool.true_and, Bool.true_and, Bool.true_and, Int.toNat_natCast, Int.toNat_natCast, Int.toNat_natCast]]
        exact sVerify_good w a c m x y z hg hr hl hx hy hz
end Go.Proofs.YtejdjnkilikehaaGreatDoor
end
section
namespace Eng
open Go Go.RowKit
section
variable {P : Program} {n : Nat} {D : List Deferred} {W : World} {Bo : List Nat} {F : List (Nat × Value)} {l : SH}
  {d : Option Tmp} {ty : TypeId} {ps : String} {af : Array Edge} {g : Option (Nat × Bool)} {x y : Operand} {ta tb e : TypeId}
theorem eqItems_r [hf : HT P e true] {by' : Nat} [hs : HS P e 1 by'] [hi : HU P e (.int .u8)] {p : List UInt8} (k : Nat) (w : World) : ∀ is : List Nat, (∀ i ∈ is, i < p.length) →
    (Op.eqItems (k + 1) e 1 (bs p).toArray (bs p).toArray is).run P w = .ok true w
  | [], _ => by simp [Op.eqItems]
  | i :: is, h => by
    have h1 := h i (.head _)
    have e1 : (bs p).toArray[i]? = some (B p[i]) := by rw [List.getElem?_toArray, bs_get h1]; simp [List.getD_eq_getElem?_getD, List.getElem?_eq_getElem h1]
    have e3 : (Op.equalIn (k + 1) e (B p[i]) (B p[i])).run P w = .ok true w := by
      have := run_equalIn_int w k e .u8 .u8 ((p[i].toNat : Nat) : Int) ((p[i].toNat : Nat) : Int) hi.h
      simpa using this
    simp only [Op.eqItems, Sem.run_bind, Nat.mul_one, run_part1 e1, Result.andThen_ok, e3]
    simpa using eqItems_r k w is fun j hj => h j (.tail _ hj)
theorem run_eqr {m : Nat} [hu : HU P ta (.array m e)] [hf : HT P e true] {by' : Nat} [hs : HS P e 1 by'] [hi : HU P e (.int .u8)] {p : List UInt8} (hp : p.length = m) (k : Nat) (w : World) :
    (Op.equalIn (k + 2) ta (.agg (bs p).toArray) (.agg (bs p).toArray)).run P w = .ok true w := by
  obtain ⟨inf, h1, h2, h3⟩ := hs.h
  have h4 := run_equalIn_array w (k + 1) (bs p).toArray (bs p).toArray hu.h h1
  have h5 : P.cellsOf e = 1 := by simp [Program.cellsOf, h1, h2]
  rw [h5, eqItems_r k w (List.range m) (fun i hi => by have := List.mem_range.1 hi; omega)] at h4
  exact h4
theorem run_partA {t : TypeId} [hf : HT P t false] {s by' : Nat} [hs : HS P t s by'] {cs : Array Value} {off : Nat} {ys : List Value} (h : (cs.extract off (off + s)).toList = ys) (w : World) : (part t cs off).run P w = .ok (.agg ys.toArray) w := by
  have h' : cs.extract off (off + s) = ys.toArray := by rw [← h, Array.toArray_toList]
  simp [part, run_isAgg hf, run_sizeOf' hs, h']
theorem run_eqI {t : TypeId} [hi : HU P t (.int .i64)] (k : Nat) (z : Int) (w : World) : (Op.equalIn (k + 1) t (I z) (I z)).run P w = .ok true w := by
  have := run_equalIn_int w k t .i64 .i64 z z hi.h
  simpa using this
theorem run_eqF3 {k : Nat} {X : Array Value} {f1 f2 f3 : Field} {v1 v2 v3 : Value} {w : World} (n1 : f1.name ≠ "_") (n2 : f2.name ≠ "_") (n3 : f3.name ≠ "_")
    (c1 : (part f1.type X f1.offset).run P w = .ok v1 w) (c2 : (part f2.type X f2.offset).run P w = .ok v2 w) (c3 : (part f3.type X f3.offset).run P w = .ok v3 w)
    (e1 : (Op.equalIn k f1.type v1 v1).run P w = .ok true w) (e2 : (Op.equalIn k f2.type v2 v2).run P w = .ok true w) (e3 : (Op.equalIn k f3.type v3 v3).run P w = .ok true w) :
    (Op.eqFields k X X [f1, f2, f3]).run P w = .ok true w := by
  simp only [Op.eqFields, if_pos n1, if_pos n2, if_pos n3, Sem.run_bind, c1, c2, c3, Result.andThen_ok, e1, e2, e3, Bool.not_true, Bool.false_eq_true, if_false, Sem.run_pure]
end
end Eng
end
section
namespace Go.Proofs.YtejdjnkilikehaaGreatDoor
open Go Eng Gf Sha Cod
set_option maxRecDepth 100000
theorem hgk : (Tryz.prog).eqGuardType (Tryz.prog).depth 24 = false := by kernel_rfl
theorem hgCap : (Tryz.prog).eqGuardType (Tryz.prog).depth 32 = false := by kernel_rfl
theorem hsCap : (Tryz.prog).stoodInHeld 32 = false := by kernel_rfl
theorem hfCap : (Tryz.prog).underlying 32 = some (.struct ((Tryz.prog).fieldsOf 32)) := by kernel_rfl
theorem hlCap : ∃ f1 f2 f3 : Field, ((Tryz.prog).fieldsOf 32).toList = [f1, f2, f3] ∧ f1.name = "A" ∧ f2.name = "B" ∧ f3.name = "Pad" ∧ f1.type = 3 ∧ f2.type = 3 ∧ f3.type = 24 ∧ f1.offset = 0 ∧ f2.offset = 1 ∧ f3.offset = 2 := by
  simp only [Program.fieldsOf, Tryz.underlying32]
  exact ⟨_, _, _, rfl, rfl, rfl, rfl, rfl, rfl, rfl, rfl, rfl, rfl⟩
theorem eqCapIn (k : Nat) {a b : Int} {p : List UInt8} (hp : p.length = 32) (w : World) : (Op.equalIn (k + 3) 32 (.agg (I a :: I b :: bs p).toArray) (.agg (I a :: I b :: bs p).toArray)).run Tryz.prog w = .ok true w := by
  obtain ⟨f1, f2, f3, hl, n1, n2, n3, t1, t2, t3, o1, o2, o3⟩ := hlCap
  have c1 : (part 3 (I a :: I b :: bs p).toArray 0).run Tryz.prog w = .ok (I a) w := run_part1 (by rfl) w
  have c2 : (part 3 (I a :: I b :: bs p).toArray 1).run Tryz.prog w = .ok (I b) w := run_part1 (by rfl) w
  have c3 : (part 24 (I a :: I b :: bs p).toArray 2).run Tryz.prog w = .ok (.agg (bs p).toArray) w := run_partA (s := 32) (by
    simp [List.extract, List.take_of_length_le, bs_length, hp]) w
  have e1 : (Op.equalIn (k + 2) 3 (I a) (I a)).run Tryz.prog w = .ok true w := run_eqI (k + 1) a w
  have e2 : (Op.equalIn (k + 2) 3 (I b) (I b)).run Tryz.prog w = .ok true w := run_eqI (k + 1) b w
  have e3 : (Op.equalIn (k + 2) 24 (.agg (bs p).toArray) (.agg (bs p).toArray)).run Tryz.prog w = .ok true w := run_eqr (m := 32) (e := 5) hp k w
  rw [← t1, ← o1] at c1
  rw [← t2, ← o2] at c2
  rw [← t3, ← o3] at c3
  rw [← t1] at e1
  rw [← t2] at e2
  rw [← t3] at e3
  rw [run_equalIn_struct w (k + 2) _ _ _ hfCap hsCap, hl]
  exact run_eqF3 (n1 ▸ by decide) (n2 ▸ by decide) (n3 ▸ by decide) c1 c2 c3 e1 e2 e3
theorem run_eqCap {a b : Int} {p : List UInt8} (hp : p.length = 32) (w : World) : (Op.equalIn 10000 32 (.agg (I a :: I b :: bs p).toArray) (.agg (I a :: I b :: bs p).toArray)).run Tryz.prog w = .ok true w := eqCapIn 9997 hp w
theorem y_eqlCap {n : Nat} {D : List Deferred} {W : World} {Bo : List Nat} {F : List (Nat × Value)} {l : SH} {d : Option Tmp} {ty : TypeId} {ps : String} {af : Array Edge} {g : Option (Nat × Bool)} {x y : Operand} {tb : TypeId} {a b : Int} {p : List UInt8} (hp : p.length = 32)
    (hx : evO F x = some (.agg (I a :: I b :: bs p).toArray) := by rfl) (hy : evO F y = some (.agg (I a :: I b :: bs p).toArray) := by rfl) : Y Tryz.prog n D W Bo ⟨d, .binOp .eql 32 x y tb, ty, ps, af, g⟩ F l (.bool true) :=
  .mk (by simp) fun ac w ha _ => by
    simp only [execOp, ha.eval hx, ha.eval hy, Sem.run_bind, run_eqGuard_agg w .eql 32 x y _ _ hgCap, Result.andThen_ok, run_eql_struct, run_eqCap hp, Sem.run_pure]
end Go.Proofs.YtejdjnkilikehaaGreatDoor
end
section
namespace Eng
open Go Go.RowKit
section
variable {r : Option Nat} {P : Program} {n : Nat} {D : List Deferred} {W : World} {Bo : List Nat} {F : List (Nat × Value)} {l l' : SH}
  {d : Option Tmp} {dd : Nat} {ty : TypeId} {ps : String} {af : Array Edge} {g : Option (Nat × Bool)} {x y z : Operand} {v u : Value} {ta tb t e : TypeId}
  {Q : Exit → Act → World → Prop} {ops : Array Oper} {rest : List Oper} {td : TypeDesc} {c : Code}
theorem s_stin {s by' : Nat} [hs : HS P t s by'] {b off : Nat} {cs cs' vs : List Value} {et : TypeId} (h : LP r P n D W Bo ops Q rest F l')
    (hcs : cs.take off ++ vs ++ cs.drop (off + vs.length) = cs') (hl : off + vs.length ≤ cs.length) (h1 : ∀ u ∈ vs, u.oneCell' = true) (hs1 : vs.length = s)
    (hx : evO F x = some (.pointer (some ⟨b, off, none⟩)) := by rfl) (hv : evO F y = some (.agg vs.toArray) := by rfl)
    (hr : Rep (.blk b (.cells cs.toArray et (0, 0))) (.blk b (.cells cs'.toArray et (0, 0))) l l' := by repeat (first | exact .head _ | apply Rep.tail)) (hg : Wn ops F g := by first | exact .none | exact .some rfl rfl) : LP r P n D W Bo ops Q (⟨none, .store t x y, ty, ps, af, g⟩ :: rest) F l := by
  refine s_unit (by simp) (fun a w ha hw => ⟨w.setRow b cs'.toArray, ?_, hw.setRow hr⟩) (hg := hg) (h := h)
  have hg := (hw.own _ hr.mem).1
  have h2 := run_storeCells_at P b off et vs 0 cs.toArray w hg (by simp; omega) h1
  have e1 : (cs.toArray.toList.take (off + 0) ++ vs ++ cs.toArray.toList.drop (off + 0 + vs.length)).toArray = cs'.toArray := by
    show (cs.take off ++ vs ++ cs.drop (off + vs.length)).toArray = _
    rw [hcs]
  rw [e1] at h2
  simp only [execOp, ha.eval hx, ha.eval hv, Instr.storeAt, Instr.sureAddr, storeVar, Sem.run_bind, Sem.run_pure, Result.andThen_ok, run_sizeOf' hs, Value.cells]
  rw [if_neg (by simp [hs1])]
  rw [h2]
  rfl
theorem s_st1 {by' : Nat} [hs : HS P t 1 by'] {b off : Nat} {cs cs' : List Value} {et : TypeId} (h : LP r P n D W Bo ops Q rest F l')
    (hcs : cs.set off v = cs') (hl : off < cs.length) (hx : evO F x = some (.pointer (some ⟨b, off, none⟩)) := by rfl) (hv : evO F y = some v := by rfl)
    (hr : Rep (.blk b (.cells cs.toArray et (0, 0))) (.blk b (.cells cs'.toArray et (0, 0))) l l' := by repeat (first | exact .head _ | apply Rep.tail)) (h1 : v.oneCell' = true := by rfl) (hg : Wn ops F g := by first | exact .none | exact .some rfl rfl) : LP r P n D W Bo ops Q (⟨none, .store t x y, ty, ps, af, g⟩ :: rest) F l := by
  subst hcs
  exact s_st (b := b) (off := off) (v := v) (cs := cs.toArray) h hx hv (by rw [List.setIfInBounds_toArray]; exact hr) (by simpa using hl) h1 rfl hg
theorem fill_whole {place : Nat → Option (Nat × Nat)} {z cs : List Value} {m : Nat} (hp : place 0 = some (0, m)) (hz : z.length = m) (hc : cs.length = m) : fillL place z [(0, .agg cs.toArray)] = some cs := by
  unfold fillL
  simp only [hp]
  have e1 : Nat.beq (Value.agg cs.toArray).cells.toList.length m = true := by
    show Nat.beq cs.toArray.toList.length m = true
    rw [List.toList_toArray, hc]; exact Nat.beq_refl m
  have e2 : Nat.ble (0 + m) z.length = true := by rw [hz, Nat.zero_add]; exact Nat.ble_eq_true_of_le (Nat.le_refl m)
  rw [e1, e2]
  show fillL place (z.take 0 ++ cs ++ z.drop (0 + m)) [] = some cs
  rw [fillL, List.take_zero, List.nil_append, Nat.zero_add, List.drop_of_length_le (by omega), List.append_nil]
end
end Eng
namespace Itm
open Go Eng Cod Gf Sha Cha Sig Wr Go.Proofs.YtejdjnkilikehaaGreatDoor
def tl2 (i : It) (s : Value) : List Value := [s, I i.sR, I i.sS]
def tl1 (i : It) (s : Value) : List Value := I i.dv :: I i.ct :: I i.kd :: I i.sz :: I i.cA :: I i.cB :: (bs i.pd ++ tl2 i s)
def itC (i : It) (s : Value) : List Value := I i.fo :: (bs i.cm ++ tl1 i s)
abbrev itV (i : It) (s : Value) : Value := .agg (itC i s).toArray
abbrev It.S (i : It) (a : Option Addr) (c : Nat) : Value := .slice a i.bd.length c
variable {i : It} {s : Value}
theorem tl1_length (h : i.pd.length = 32) : (tl1 i s).length = 41 := by unfold tl1 tl2; simp [bs_length, h]
theorem it_len (hc : i.cm.length = 32) (h : i.pd.length = 32) : (itC i s).length = 74 := by unfold itC; rw [List.length_cons, List.length_append, bs_length, hc, tl1_length h]
theorem it_size (hc : i.cm.length = 32) (h : i.pd.length = 32) : (itC i s).toArray.size = 74 := it_len hc h
theorem at1 (hc : i.cm.length = 32) (j : Nat) : (itC i s)[33 + j]? = (tl1 i s)[j]? := by
  unfold itC
  rw [show 33 + j = (32 + j) + 1 by omega, List.getElem?_cons_succ, List.getElem?_append_right (by rw [bs_length]; omega), bs_length, hc, Nat.add_sub_cancel_left]
theorem at2 (hc : i.cm.length = 32) (hp : i.pd.length = 32) (j : Nat) : (itC i s)[71 + j]? = (tl2 i s)[j]? := by
  rw [show 71 + j = 33 + (38 + j) by omega, at1 hc]
  unfold tl1
  rw [show 38 + j = (32 + j) + 1 + 1 + 1 + 1 + 1 + 1 by omega]
  simp only [List.getElem?_cons_succ]
  rw [List.getElem?_append_right (by rw [bs_length]; omega), bs_length, hp, Nat.add_sub_cancel_left]
theorem ar {l : List Value} {k : Nat} {v : Option Value} (h : l[k]? = v) : l.toArray[k]? = v := by rw [List.getElem?_toArray]; exact h
theorem it_fo : (itC i s).toArray[0]? = some (I i.fo) := rfl
theorem it_dv (hc : i.cm.length = 32) : (itC i s).toArray[33]? = some (I i.dv) := ar (at1 hc 0)
theorem it_ct (hc : i.cm.length = 32) : (itC i s).toArray[34]? = some (I i.ct) := ar (at1 hc 1)
theorem it_kd (hc : i.cm.length = 32) : (itC i s).toArray[35]? = some (I i.kd) := ar (at1 hc 2)
theorem it_sz (hc : i.cm.length = 32) : (itC i s).toArray[36]? = some (I i.sz) := ar (at1 hc 3)
theorem it_cA (hc : i.cm.length = 32) : (itC i s).toArray[37]? = some (I i.cA) := ar (at1 hc 4)
theorem it_cB (hc : i.cm.length = 32) : (itC i s).toArray[38]? = some (I i.cB) := ar (at1 hc 5)
theorem it_bd (hc : i.cm.length = 32) (hp : i.pd.length = 32) : (itC i s).toArray[71]? = some s := ar (at2 hc hp 0)
theorem it_sR (hc : i.cm.length = 32) (hp : i.pd.length = 32) : (itC i s).toArray[72]? = some (I i.sR) := ar (at2 hc hp 1)
theorem it_sS (hc : i.cm.length = 32) (hp : i.pd.length = 32) : (itC i s).toArray[73]? = some (I i.sS) := ar (at2 hc hp 2)
theorem pre_at {xs ys : List Value} {j : Nat} {v : Value} (h : xs[j]? = some v) : (xs ++ ys)[j]? = some v := by
  rw [List.getElem?_append_left (List.getElem?_eq_some_iff.1 h).1]; exact h
theorem it_cm (j : Nat) (v : Value) (h : (bs i.cm)[j]? = some v) : (itC i s).toArray[1 + j]? = some v := by
  refine ar ?_
  unfold itC
  rw [Nat.add_comm, List.getElem?_cons_succ]
  exact pre_at h
theorem it_pd (hc : i.cm.length = 32) (j : Nat) (v : Value) (h : (bs i.pd)[j]? = some v) : (itC i s).toArray[39 + j]? = some v := by
  refine ar ?_
  rw [show 39 + j = 33 + (6 + j) by omega, at1 hc]
  unfold tl1
  rw [show 6 + j = j + 1 + 1 + 1 + 1 + 1 + 1 by omega]
  simp only [List.getElem?_cons_succ]
  exact pre_at h
theorem it_cap (hc : i.cm.length = 32) (j : Nat) (v : Value) (h : (I i.cA :: I i.cB :: bs i.pd)[j]? = some v) : (itC i s).toArray[37 + j]? = some v := by
  refine ar ?_
  rw [show 37 + j = 33 + (4 + j) by omega, at1 hc]
  unfold tl1
  rw [show 4 + j = j + 1 + 1 + 1 + 1 by omega]
  simp only [List.getElem?_cons_succ]
  exact pre_at (xs := I i.cA :: I i.cB :: bs i.pd) h
theorem it_sig (hc : i.cm.length = 32) (hp : i.pd.length = 32) (j : Nat) (v : Value) (h : [I i.sR, I i.sS][j]? = some v) : (itC i s).toArray[72 + j]? = some v := by
  refine ar ?_
  rw [show 72 + j = 71 + (j + 1) by omega, at2 hc hp]
  exact h
theorem set1 (hc : i.cm.length = 32) (j : Nat) (v : Value) : (itC i s).set (33 + j) v = I i.fo :: (bs i.cm ++ (tl1 i s).set j v) := by
  unfold itC
  rw [show 33 + j = (32 + j) + 1 by omega, List.set_cons_succ, List.set_append_right (32 + j) v (by rw [bs_length]; omega), bs_length, hc, Nat.add_sub_cancel_left]
theorem set2 (hc : i.cm.length = 32) (hp : i.pd.length = 32) (j : Nat) (v : Value) : (itC i s).set (71 + j) v = I i.fo :: (bs i.cm ++ (I i.dv :: I i.ct :: I i.kd :: I i.sz :: I i.cA :: I i.cB :: (bs i.pd ++ (tl2 i s).set j v))) := by
  rw [show 71 + j = 33 + (38 + j) by omega, set1 hc]
  unfold tl1
  rw [show 38 + j = (32 + j) + 1 + 1 + 1 + 1 + 1 + 1 by omega]
  simp only [List.set_cons_succ]
  rw [List.set_append_right (32 + j) v (by rw [bs_length]; omega), bs_length, hp, Nat.add_sub_cancel_left]
theorem set_fo (z : Int) : (itC i s).set 0 (I z) = itC { i with fo := z } s := rfl
theorem set_dv (hc : i.cm.length = 32) (z : Int) : (itC i s).set 33 (I z) = itC { i with dv := z } s := set1 hc 0 _
theorem set_ct (hc : i.cm.length = 32) (z : Int) : (itC i s).set 34 (I z) = itC { i with ct := z } s := set1 hc 1 _
theorem set_kd (hc : i.cm.length = 32) (z : Int) : (itC i s).set 35 (I z) = itC { i with kd := z } s := set1 hc 2 _
theorem set_sz (hc : i.cm.length = 32) (z : Int) : (itC i s).set 36 (I z) = itC { i with sz := z } s := set1 hc 3 _
theorem set_cA (hc : i.cm.length = 32) (z : Int) : (itC i s).set 37 (I z) = itC { i with cA := z } s := set1 hc 4 _
theorem set_cB (hc : i.cm.length = 32) (z : Int) : (itC i s).set 38 (I z) = itC { i with cB := z } s := set1 hc 5 _
theorem set_bd (hc : i.cm.length = 32) (hp : i.pd.length = 32) (s' : Value) (q : List UInt8) : (itC i s).set 71 s' = itC { i with bd := q } s' := set2 hc hp 0 _
theorem set_sR (hc : i.cm.length = 32) (hp : i.pd.length = 32) (z : Int) : (itC i s).set 72 (I z) = itC { i with sR := z } s := set2 hc hp 1 _
theorem set_sS (hc : i.cm.length = 32) (hp : i.pd.length = 32) (z : Int) : (itC i s).set 73 (I z) = itC { i with sS := z } s := set2 hc hp 2 _
theorem cons_take {a : Value} {l : List Value} {k : Nat} : (a :: l).take (k + 1) = a :: l.take k := rfl
theorem cons_drop {a : Value} {l : List Value} {k : Nat} : (a :: l).drop (k + 1) = l.drop k := rfl
theorem put_cap (hc : i.cm.length = 32) (hp : i.pd.length = 32) (a b : Int) {p : List UInt8} (hq : p.length = 32) : (itC i s).take 37 ++ (I a :: I b :: bs p) ++ (itC i s).drop (37 + (I a :: I b :: bs p).length) = itC { i with cA := a, cB := b, pd := p } s := by
  have hl : (I a :: I b :: bs p).length = 34 := by simp [bs_length, hq]
  rw [hl]
  have h1 : (itC i s).take 37 = I i.fo :: (bs i.cm ++ [I i.dv, I i.ct, I i.kd, I i.sz]) := by
    unfold itC
    rw [cons_take, List.take_append, bs_length, hc, List.take_of_length_le (by rw [bs_length]; omega)]
    rfl
  have h2 : (itC i s).drop (37 + 34) = tl2 i s := by
    unfold itC
    show (bs i.cm ++ tl1 i s).drop 70 = _
    rw [List.drop_append, bs_length, hc, List.drop_of_length_le (by rw [bs_length]; omega), List.nil_append]
    show (bs i.pd ++ tl2 i s).drop 32 = _
    exact List.drop_left' (by rw [bs_length, hp])
  rw [h1, h2]
  unfold itC tl1 tl2
  simp
theorem put_sig (hc : i.cm.length = 32) (hp : i.pd.length = 32) (a b : Int) : (itC i s).take 72 ++ [I a, I b] ++ (itC i s).drop (72 + [I a, I b].length) = itC { i with sR := a, sS := b } s := by
  have hlen := it_len (s := s) hc hp
  refine List.ext_getElem? fun k => ?_
  rcases Nat.lt_or_ge k 72 with hk | hk
  · rw [List.append_assoc, List.getElem?_append_left (by rw [List.length_take, hlen]; omega), List.getElem?_take_of_lt hk]
    rcases Nat.lt_or_ge k 33 with h3 | h3
    · unfold itC
      cases k with
      | zero => rfl
      | succ k => rw [List.getElem?_cons_succ, List.getElem?_cons_succ, List.getElem?_append_left (by rw [bs_length]; omega), List.getElem?_append_left (by rw [bs_length]; exact (by omega : k < i.cm.length))]
    · obtain ⟨j, rfl⟩ : ∃ j, k = 33 + j := ⟨k - 33, by omega⟩
      rw [at1 hc, at1 (i := { i with sR := a, sS := b }) hc]
      unfold tl1
      rcases Nat.lt_or_ge j 6 with h6 | h6
      · match j, h6 with
        | 0, _ => rfl
        | 1, _ => rfl
        | 2, _ => rfl
        | 3, _ => rfl
        | 4, _ => rfl
        | 5, _ => rfl
      · obtain ⟨m, rfl⟩ : ∃ m, j = m + 1 + 1 + 1 + 1 + 1 + 1 := ⟨j - 6, by omega⟩
        simp only [List.getElem?_cons_succ]
        rcases Nat.lt_or_ge m 32 with h7 | h7
        · rw [List.getElem?_append_left (by rw [bs_length]; omega), List.getElem?_append_left (by rw [bs_length]; exact (by omega : m < i.pd.length))]
        · obtain rfl : m = 32 := by omega
          rw [List.getElem?_append_right (by rw [bs_length]; omega), List.getElem?_append_right (by rw [bs_length]; exact (by omega : i.pd.length ≤ 32)), bs_length, hp]
          rfl
  · have hx : ((itC i s).take 72).length = 72 := by rw [List.length_take, hlen]; rfl
    rw [List.append_assoc, List.getElem?_append_right (by omega), hx]
    obtain ⟨j, rfl⟩ : ∃ j, k = 72 + j := ⟨k - 72, by omega⟩
    rw [Nat.add_sub_cancel_left, show 72 + j = 71 + (j + 1) by omega, at2 (i := { i with sR := a, sS := b }) hc hp, List.drop_of_length_le (by rw [hlen]; show 74 ≤ 72 + 2; omega), List.append_nil]
    rfl
theorem it_one {a : Option Addr} {m c : Nat} : ∀ v ∈ itC i (.slice a m c), v.oneCell' = true := by
  intro v hv
  unfold itC tl1 tl2 at hv
  simp only [List.mem_cons, List.mem_append, List.not_mem_nil, or_false] at hv
  rcases hv with rfl | h | rfl | rfl | rfl | rfl | rfl | rfl | h | rfl | rfl | rfl <;> first | rfl | exact bs_one h
end Itm
end
section
namespace Itm
open Go Eng Cod Go.Proofs.YtejdjnkilikehaaGreatDoor
abbrev LI := Int ⊕ (Option Addr × Nat × Nat × List UInt8)
def ic : LI → Value
  | .inl n => .iface 3 (I n)
  | .inr (a, m, c, _) => .iface 27 (.slice a m c)
def toV : LI → V
  | .inl n => vI n
  | .inr (_, _, _, q) => vT q
def LOk (w : World) : List LI → Prop
  | [] => True
  | .inl _ :: r => LOk w r
  | .inr (a, m, _, q) :: r => q.length = m ∧ Rd w a (bs q) ∧ LOk w r
theorem LOk.at' {w : World} : ∀ {l : List LI} {k : Nat} {a : Option Addr} {m c : Nat} {q : List UInt8}, LOk w l → l[k]? = some (.inr (a, m, c, q)) → q.length = m ∧ Rd w a (bs q)
  | .inl _ :: r, k + 1, _, _, _, _, h, hk => LOk.at' (l := r) h hk
  | .inr _ :: r, 0, _, _, _, _, h, hk => by
    simp only [List.getElem?_cons_zero, Option.some.injEq, Sum.inr.injEq] at hk
    subst hk
    exact ⟨h.1, h.2.1⟩
  | .inr _ :: r, k + 1, _, _, _, _, h, hk => LOk.at' (l := r) h.2.2 hk
  | .inl _ :: r, 0, _, _, _, _, _, hk => by simp at hk
end Itm
namespace Eng
open Go Go.RowKit
section
variable {P : Program} {n : Nat} {D : List Deferred} {W : World} {Bo : List Nat} {F : List (Nat × Value)} {l : SH}
  {d : Option Tmp} {ty : TypeId} {ps : String} {af : Array Edge} {g : Option (Nat × Bool)} {x : Operand} {v : Value} {ta t u : TypeId} {td : TypeDesc}
theorem y_taY [ht : HU P t td] (hc : ∀ ms, td ≠ .interface ms) (hx : evO F x = some (.iface t v) := by rfl) : Y P n D W Bo ⟨d, .typeAssert x ta t true, ty, ps, af, g⟩ F l (.tuple #[v, .bool true]) :=
  .mk (by simp) fun a w ha _ => by
    have h1 : (Instr.typeAssert (.iface t v) ta t true).run P w = .ok (.tuple #[v, .bool true]) w := by
      unfold Instr.typeAssert
      simp only [Sem.run_bind, run_underlying ht.h, Result.andThen_ok]
      cases td <;> first | exact absurd rfl (hc _) | simp
    simp only [execOp, ha.eval hx, Sem.run_bind, h1, Result.andThen_ok, Sem.run_pure]
theorem y_taN [ht : HU P t td] {zz : Value} [hz : HZ P t zz] (hc : ∀ ms, td ≠ .interface ms) (hne : u ≠ t) (hx : evO F x = some (.iface u v) := by rfl) : Y P n D W Bo ⟨d, .typeAssert x ta t true, ty, ps, af, g⟩ F l (.tuple #[zz, .bool false]) :=
  .mk (by simp) fun a w ha _ => by
    have h1 : (Instr.typeAssert (.iface u v) ta t true).run P w = .ok (.tuple #[zz, .bool false]) w := by
      unfold Instr.typeAssert
      simp only [Sem.run_bind, run_underlying ht.h, Result.andThen_ok]
      cases td <;> first | exact absurd rfl (hc _) | simp [hne, hz.h]
    simp only [execOp, ha.eval hx, Sem.run_bind, h1, Result.andThen_ok, Sem.run_pure]
end
end Eng
namespace Go.Proofs.YtejdjnkilikehaaGreatDoor
open Go Eng Gf Sha Sig Wr Cod Cha Itm
set_option maxRecDepth 100000
theorem list_ok (w : World) (A : Option Addr) (C : Nat) (xs : List LI) (hA : Rd w A (xs.map ic)) (hx : LOk w xs) (hn : xs.length ≤ 12) :
    Gives Tryz.prog 66 [.slice A xs.length C] w [] (fun y : Option Addr × Nat => .agg #[I 3, I 0, .string (sb []), .slice y.1 xs.length y.2]) (fun y => [.row y.1 y.2 76 4 xs.length (fcells (xs.map toV))]) (fun _ => True) := by
  have hml : xs.length ≤ (xs.map ic).length := by rw [List.length_map]; exact Nat.le_refl _
  refine enter Tryz.func66 Tryz.ntmps66 ?_
  refine c_seq <| c_reg <| s_alloc fun b2 => s_nil <| q_then <| c_seq <| c_reg <| s_y y_fa <| s_st (b := b2) (off := 0) (v := I 3) (cs := #[I 0, I 0, .string (sb []), .slice none 0 0]) (hl := by decide) ?_
  refine s_nil <| q_then <| c_seq <| c_seq <| c_reg <| s_y y_mv <| s_y y_len <| s_y y_mv <| s_nil <| q_then <| c_nilrow 76 4 <| c_perm (.swap _ _ _) <| c_block <| ?_
  refine c_loop3 (fun (k : Nat) (a' : Option Addr) (c' : Nat) => [(2, .pointer (some ⟨b2, 0, none⟩)), (8, .slice A xs.length C), (9, I xs.length), (10, I k)]) (fun k a' c' => [.blk b2 (.cells #[I 3, I 0, .string (sb []), .slice a' k c'] 76 (0, 0)), .row a' c' 76 4 k (fcells ((xs.take k).map toV))]) (fun k _ _ => k ≤ xs.length) (fun k _ _ => xs.length - k) 0 none 0 (by omega) ⟨rfl, rfl, rfl, rfl, trivial⟩ (.refl _) ?_
  intro k a' c' hk
  by_cases hlt : k < xs.length
  · have hv : (xs.map ic)[k]? = some (ic xs[k]) := by rw [List.getElem?_map, List.getElem?_eq_getElem hlt]; rfl
    have hxk : xs[k]? = some xs[k] := List.getElem?_eq_getElem hlt
    have htk : (xs.take (k + 1)).map toV = (xs.take k).map toV ++ [toV xs[k]] := by rw [List.take_succ_eq_append_getElem hlt, List.map_append]; rfl
    have hcl : fcells ((xs.take (k + 1)).map toV) = fcells ((xs.take k).map toV) ++ fcell (toV xs[k]) := by rw [htk, fcells_append, fcells_one]
    refine c_seq <| c_reg <| s_kt (y_lss (p := ((k : Nat) : Int)) (q := ((xs.length : Nat) : Int))) (by omega) <| s_nil <| q_then <| c_seq <| c_t <| c_skip <| q_then <| c_seq <| c_block <| c_seq <| c_reg <| s_y (y_ixs1 (xs := xs.map ic) (hl := hml)) <| s_y (y_ldr (v := ic xs[k]) (xs := xs.map ic) (i := (k : Int).toNat) hv) <| s_y y_as <| s_nil <| q_then <| c_seq <| c_reg <| s_y y_mv <| s_nil <| q_then <| c_block <| ?_
    generalize xs[k] = z at hv hxk htk hcl ⊢
    rcases z with m | ⟨a, m, c, q⟩
    · refine c_seq <| c_reg <| s_y (y_taY (t := 3) (v := I m) (by simp)) <| s_y y_ext <| s_y y_ext <| s_nil <| q_then <| c_t <| c_seq <| c_reg <| s_y y_as <| s_nil <| q_then <| c_reg <| s_y y_fa <| s_y (y_ld (b := b2) (v := .slice a' k c')) <| s_y y_mv <| s_y (y_bval (cs := [I 1, I m, .string (sb []), .slice none 0 0])) <| s_bslr (cs := [I 1, I m, .string (sb []), .slice none 0 0]) fun b22 => s_app (m := 1) (fun w' hw => Src.slice (rdR (.head _) w' hw) rfl) (h1 := fun v hv => by simp at hv; rcases hv with rfl | rfl | rfl | rfl <;> rfl) (hm := .tail _ (.tail _ (.head _))) (hrep := fun _ _ => .tail _ (.tail _ (.head _))) fun a23 c23 h23 => s_y y_fa <| s_st (b := b2) (off := 3) (v := .slice a23 (k + 1) c23) (cs := #[I 3, I 0, .string (sb []), .slice a' k c']) (hl := show 3 < 4 by decide) ?_
      refine s_nil <| q_nb <| q_nb <| q_then <| c_reg <| s_y (y_add (p := ((k : Nat) : Int)) (q := 1)) <| s_y y_mv <| s_nil <| ?_
      rw [show ((k : Nat) : Int) + 1 = ((k + 1 : Nat) : Int) by omega]
      exact q_round3 (x := k) (y := a') (z := c') (k + 1) a23 c23 (by omega) (by omega) ⟨rfl, rfl, rfl, rfl, trivial⟩ (by rw [hcl]; exact .cons _ (.refl _))
    · obtain ⟨hqm, hrq⟩ := hx.at' hxk
      refine c_seq <| c_reg <| s_y (y_taN (t := 3) (u := 27) (v := .slice a m c) (by simp) (by decide)) <| s_y y_ext <| s_y y_ext <| s_nil <| q_then <| c_f <| c_seq <| c_reg <| s_y (y_taY (t := 27) (v := .slice a m c) (by simp)) <| s_y y_ext <| s_y y_ext <| s_nil <| q_then <| c_t <| c_seq <| c_reg <| s_y y_as <| s_nil <| q_then <| c_reg <| s_y y_fa <| s_y (y_ld (b := b2) (v := .slice a' k c')) <| s_y y_mv <| s_y (y_b2s (q := q) (hr := rdW0 hrq) (hm := hqm)) <| s_y (y_bval (cs := [I 2, I 0, .string (sb q), .slice none 0 0])) <| s_bslr (cs := [I 2, I 0, .string (sb q), .slice none 0 0]) fun b33 => s_app (m := 1) (fun w' hw => Src.slice (rdR (.head _) w' hw) rfl) (h1 := fun v hv => by simp at hv; rcases hv with rfl | rfl | rfl | rfl <;> rfl) (hm := .tail _ (.tail _ (.head _))) (hrep := fun _ _ => .tail _ (.tail _ (.head _))) fun a34 c34 h34 => s_y y_fa <| s_st (b := b2) (off := 3) (v := .slice a34 (k + 1) c34) (cs := #[I 3, I 0, .string (sb []), .slice a' k c']) (hl := show 3 < 4 by decide) ?_
      refine s_nil <| q_nb <| q_nb <| q_then <| c_reg <| s_y (y_add (p := ((k : Nat) : Int)) (q := 1)) <| s_y y_mv <| s_nil <| ?_
      rw [show ((k : Nat) : Int) + 1 = ((k + 1 : Nat) : Int) by omega]
      exact q_round3 (x := k) (y := a') (z := c') (k + 1) a34 c34 (by omega) (by omega) ⟨rfl, rfl, rfl, rfl, trivial⟩ (by rw [hcl]; exact .cons _ (.refl _))
  · obtain rfl : k = xs.length := by omega
    rw [List.take_length]
    refine c_seq <| c_reg <| s_kf (y_lss (p := ((xs.length : Nat) : Int)) (q := ((xs.length : Nat) : Int))) (by omega) <| s_nil <| q_then <| c_seq <| c_f <| c_exit <| q_ex <| q_ex <| q_exb <| q_then <| c_seq <| c_reg <| s_y (y_lda (b := b2) (cs := #[I 3, I 0, .string (sb []), .slice a' xs.length c']) (hl := rfl)) <| s_sta (b := b2) (vs := #[I 3, I 0, .string (sb []), .slice a' xs.length c']) (cs := #[I 3, I 0, .string (sb []), .slice a' xs.length c']) (h1 := by intro u hu; simp at hu; rcases hu with rfl | rfl | rfl | rfl <;> rfl) (hl := rfl) (hs1 := rfl) ?_
    refine s_nil <| q_then <| c_ret <| ?_
    exact ret1 Tryz.results66 (rv_ca (b := b2) (cs := #[I 3, I 0, .string (sb []), .slice a' xs.length c']) (hl := rfl)) fun w' hw => ⟨(a', c'), trivial, rfl, hw.sub (.cons _ (.refl _))⟩
end Go.Proofs.YtejdjnkilikehaaGreatDoor
end
section
namespace Itm
open Go Eng Cod Gf Sha Cha Sig Wr Go.Proofs.YtejdjnkilikehaaGreatDoor
theorem lnV_bd (i : Int) : 0 ≤ lnV i ∧ lnV i ≤ 65536 := by
  unfold lnV
  split
  · omega
  · have := plen_le i; omega
theorem hl_flat {i : It} (h : i.Wf) : ∀ v ∈ i.hl, Flat v := by
  have h1 := h.cm
  have h2 := h.pd
  intro v hv
  unfold It.hl at hv
  simp only [List.mem_cons, List.not_mem_nil, or_false] at hv
  rcases hv with rfl | rfl | rfl | rfl | rfl | rfl | rfl | rfl | rfl
  · exact flat_I h.fo
  · exact flat_I h.dv
  · exact flat_I h.ct
  · exact flat_I h.kd
  · exact flat_I h.sz
  · exact flat_T (by omega)
  · exact flat_I h.cA
  · exact flat_I h.cB
  · exact flat_T (by omega)
theorem al_flat {i : It} (h : i.Wf) (hb : i.bd.length ≤ 70000) : ∀ v ∈ i.al, Flat v := by
  intro v hv
  unfold It.al at hv
  rcases List.mem_append.1 hv with hv | hv
  · exact hl_flat h v hv
  · simp only [List.mem_cons, List.not_mem_nil, or_false] at hv
    rcases hv with rfl | rfl | rfl
    · exact flat_T (by omega)
    · exact flat_I h.sR
    · exact flat_I h.sS
theorem flat_dep {l : List V} (h : ∀ v ∈ l, v.k ≠ 3) : depL l = 0 := by
  induction l with
  | nil => rw [depL]
  | cons v l ih =>
    rw [depL, ih fun x hx => h x (.tail _ hx)]
    have := h v (.head _)
    obtain ⟨k, n, s, l'⟩ := v
    rw [V.dep, if_neg (show ¬ k = 3 from this)]; rfl
theorem al_k (i : It) : ∀ v ∈ i.al, v.ok = true ∧ v.k ≠ 3 := by
  intro v hv
  unfold It.al It.hl at hv
  simp only [List.mem_append, List.mem_cons, List.not_mem_nil, or_false] at hv
  rcases hv with (rfl | rfl | rfl | rfl | rfl | rfl | rfl | rfl | rfl) | rfl | rfl | rfl <;> first | exact ⟨vI_ok _, by show (1 : Int) ≠ 3; decide⟩ | exact ⟨vT_ok _, by show (2 : Int) ≠ 3; decide⟩
theorem hl_k (i : It) : ∀ v ∈ i.hl, v.ok = true ∧ v.k ≠ 3 := fun v hv => al_k i v (List.mem_append_left _ hv)
theorem vL_dep {l : List V} (h : ∀ v ∈ l, v.ok = true ∧ v.k ≠ 3) : (vL l).dep = 1 := by
  rw [V.dep, if_pos rfl, flat_dep fun v hv => (h v hv).2]
theorem vL_chk {l : List V} (h : ∀ v ∈ l, v.ok = true ∧ v.k ≠ 3) : (vL l).chk = 0 := by
  rw [V.chk, if_pos (vL_ok fun v hv => (h v hv).1), vL_dep h]; rfl
theorem vL_encd {l : List V} (h : ∀ v ∈ l, v.ok = true ∧ v.k ≠ 3) : (vL l).encd = (vL l).enc := by rw [V.encd, if_pos (vL_chk h)]
theorem uns_lt {n : Int} (h : R64 n) : uns n < 18446744073709551616 := by unfold uns; unfold R64 at h; split <;> omega
theorem vI_len {n : Int} (h : R64 n) : (vI n).enc.length ≤ 11 := by
  rw [V.enc, if_pos rfl, List.length_cons]
  have := num_le (uns_lt h); omega
theorem vT_len {s : List UInt8} (h : s.length < 18446744073709551616) : (vT s).enc.length ≤ s.length + 11 := by
  rw [V.enc, if_neg (by decide), if_pos rfl, List.length_cons, List.length_append]
  have := num_le h; omega
theorem head_len {i : It} (h : i.Wf) : i.head.length ≤ 1000 := by
  have h1 := h.cm
  have h2 := h.pd
  have e1 := vI_len h.fo
  have e2 := vI_len h.dv
  have e3 := vI_len h.ct
  have e4 := vI_len h.kd
  have e5 := vI_len h.sz
  have e6 := vT_len (s := i.cm) (by omega)
  have e7 := vI_len h.cA
  have e8 := vI_len h.cB
  have e9 := vT_len (s := i.pd) (by omega)
  have e10 := num_le (show i.hl.length < 18446744073709551616 by show 9 < _; decide)
  unfold It.head
  rw [V.enc, if_neg (by decide), if_neg (by decide), List.length_cons, List.length_append]
  unfold It.hl at e10 ⊢
  simp only [encL, List.length_append, List.length_nil]
  omega
theorem all_len {i : It} (h : i.Wf) (hb : i.bd.length ≤ 70000) : i.all.length ≤ 80000 := by
  have h1 := h.cm
  have h2 := h.pd
  have e1 := vI_len h.fo
  have e2 := vI_len h.dv
  have e3 := vI_len h.ct
  have e4 := vI_len h.kd
  have e5 := vI_len h.sz
  have e6 := vT_len (s := i.cm) (by omega)
  have e7 := vI_len h.cA
  have e8 := vI_len h.cB
  have e9 := vT_len (s := i.pd) (by omega)
  have e11 := vT_len (s := i.bd) (by omega)
  have e12 := vI_len h.sR
  have e13 := vI_len h.sS
  have e10 := num_le (show i.al.length < 18446744073709551616 by show 12 < _; decide)
  unfold It.all
  rw [V.enc, if_neg (by decide), if_neg (by decide), List.length_cons, List.length_append]
  unfold It.al It.hl at e10 ⊢
  simp only [List.cons_append, List.nil_append] at e10
  simp only [List.cons_append, List.nil_append, encL, List.length_append, List.length_nil]
  omega
end Itm
namespace Eng
open Go Go.RowKit
section
variable {r : Option Nat} {P : Program} {n : Nat} {D : List Deferred} {W : World} {Bo : List Nat} {F : List (Nat × Value)} {l : SH}
  {dd : Nat} {ty : TypeId} {ps : String} {af : Array Edge} {g : Option (Nat × Bool)} {e : TypeId} {Q : Exit → Act → World → Prop} {ops : Array Oper} {rest : List Oper}
theorem s_allocC {z : Value} [hz : HZ P e z] {cs : Array Value} (hc : z.cells = cs)
    (h : ∀ b, LP r P n D W Bo ops Q rest ((dd, .pointer (some ⟨b, 0, none⟩)) :: F) (.blk b (.cells cs e) :: l)) (hn : Nat.blt dd n = true := by rfl) (hg : Wn ops F g := by first | exact .none | exact .some rfl rfl) : LP r P n D W Bo ops Q (⟨some dd, .alloc e, ty, ps, af, g⟩ :: rest) F l :=
  s_alloc (fun b => hc ▸ h b) hn hg
end
end Eng
namespace Go.Proofs.YtejdjnkilikehaaGreatDoor
open Go Eng Gf Sha Sig Wr Cod Cha Itm
set_option maxRecDepth 100000
section
variable {r : Option Nat} {n : Nat} {D : List Deferred} {W : World} {Bo : List Nat} {F : List (Nat × Value)} {l : SH} {d : Option Tmp}
  {dd : Nat} {ty : TypeId} {ps : String} {af : Array Edge} {g : Option (Nat × Bool)} {e : TypeId} {Q : Exit → Act → World → Prop} {ops : Array Oper} {rest : List Oper} {parts : Array (Nat × Operand)} {i : It} {s : Value}
theorem y_bsealed (hc : i.cm.length = 32) (hp : i.pd.length = 32) (hx : evP F parts.toList = some [(0, itV i s)] := by rfl) : Y Tryz.prog n D W Bo ⟨d, .build 83 parts, ty, ps, af, g⟩ F l (itV i s) :=
  y_blds (places := #[(0, 74)]) Tryz.underlying83 (fun w => by kernel_rfl) hx (fill_whole rfl rfl (it_len hc hp))
end
theorem numbers_ok (w : World) (f d c k : Int) : Pure Tryz.prog 102 [I f, I d, I c, I k] w (.bool (numB f d c k)) := by
  refine enter Tryz.func102 Tryz.ntmps102 ?_
  refine c_seq <| c_reg <| s_y y_as <| s_nil <| q_then <| c_seq <| c_reg <| s_y y_mv <| s_ifd (y_geq (p := f) (q := 0)) (fun h10 => ?_) (fun h10 => ?_)
  · refine s_y y_mv <| s_y y_mv <| s_ifd (y_lss (p := f) (q := 16)) (fun h13 => ?_) (fun h13 => ?_)
    · refine s_y y_pk <| s_y y_mv <| s_y y_mv <| s_ifd (y_geq (p := d) (q := 0)) (fun h17 => ?_) (fun h17 => ?_)
      · refine s_y y_pk <| s_y y_mv <| s_y y_mv <| s_ifd (y_lss (p := d) (q := 512)) (fun h21 => ?_) (fun h21 => ?_)
        · refine s_y y_pk <| s_y y_mv <| s_y y_mv <| s_ifd (y_geq (p := c) (q := 1)) (fun h25 => ?_) (fun h25 => ?_)
          · refine s_y y_pk <| s_y y_mv <| s_y y_mv <| s_ifd (y_leq (p := c) (q := 1048576)) (fun h29 => ?_) (fun h29 => ?_)
            · refine s_y y_pk <| s_y y_mv <| s_y y_mv <| s_ifd (y_eql (p := k) (q := 1)) (fun h33 => ?_) (fun h33 => ?_)
              · refine s_y y_mv <| s_no <| s_no <| s_y y_pk <| s_y y_pk <| s_y y_as <| s_nil <| q_then <| c_ret <| ?_
                exact ret1 Tryz.results102 rv_t fun w' hw => ⟨by rw [show numB f d c k = true by rw [Bool.eq_iff_iff]; simp [numB]; omega], hw⟩
              · refine s_y y_mv <| s_y y_mv <| s_y (y_eql (p := k) (q := 2)) <| s_y y_pk <| s_y y_pk <| s_y y_as <| s_nil <| q_then <| c_ret <| ?_
                exact ret1 Tryz.results102 rv_t fun w' hw => ⟨by rw [show numB f d c k = decide (k = 2) by rw [Bool.eq_iff_iff]; simp [numB]; omega], hw⟩
            · refine s_y y_pk <| s_y y_mv <| s_no <| s_no <| s_no <| s_nu <| s_nu <| s_no <| s_y y_pk <| s_y y_as <| s_nil <| q_then <| c_ret <| ?_
              exact ret1 Tryz.results102 rv_t fun w' hw => ⟨by rw [show numB f d c k = false by rw [Bool.eq_iff_iff]; simp [numB]; omega], hw⟩
          · refine s_y y_pk <| s_y y_mv <| s_no <| s_no <| s_y y_pk <| s_y y_mv <| s_no <| s_no <| s_no <| s_nu <| s_nu <| s_no <| s_y y_pk <| s_y y_as <| s_nil <| q_then <| c_ret <| ?_
            exact ret1 Tryz.results102 rv_t fun w' hw => ⟨by rw [show numB f d c k = false by rw [Bool.eq_iff_iff]; simp [numB]; omega], hw⟩
        · refine s_y y_pk <| s_y y_mv <| s_no <| s_no <| s_y y_pk <| s_y y_mv <| s_no <| s_no <| s_y y_pk <| s_y y_mv <| s_no <| s_no <| s_no <| s_nu <| s_nu <| s_no <| s_y y_pk <| s_y y_as <| s_nil <| q_then <| c_ret <| ?_
          exact ret1 Tryz.results102 rv_t fun w' hw => ⟨by rw [show numB f d c k = false by rw [Bool.eq_iff_iff]; simp [numB]; omega], hw⟩
      · refine s_y y_pk <| s_y y_mv <| s_no <| s_no <| s_y y_pk <| s_y y_mv <| s_no <| s_no <| s_y y_pk <| s_y y_mv <| s_no <| s_no <| s_y y_pk <| s_y y_mv <| s_no <| s_no <| s_no <| s_nu <| s_nu <| s_no <| s_y y_pk <| s_y y_as <| s_nil <| q_then <| c_ret <| ?_
        exact ret1 Tryz.results102 rv_t fun w' hw => ⟨by rw [show numB f d c k = false by rw [Bool.eq_iff_iff]; simp [numB]; omega], hw⟩
    · refine s_y y_pk <| s_y y_mv <| s_no <| s_no <| s_y y_pk <| s_y y_mv <| s_no <| s_no <| s_y y_pk <| s_y y_mv <| s_no <| s_no <| s_y y_pk <| s_y y_mv <| s_no <| s_no <| s_y y_pk <| s_y y_mv <| s_no <| s_no <| s_no <| s_nu <| s_nu <| s_no <| s_y y_pk <| s_y y_as <| s_nil <| q_then <| c_ret <| ?_
      exact ret1 Tryz.results102 rv_t fun w' hw => ⟨by rw [show numB f d c k = false by rw [Bool.eq_iff_iff]; simp [numB]; omega], hw⟩
  · refine s_y y_mv <| s_no <| s_no <| s_y y_pk <| s_y y_mv <| s_no <| s_no <| s_y y_pk <| s_y y_mv <| s_no <| s_no <| s_y y_pk <| s_y y_mv <| s_no <| s_no <| s_y y_pk <| s_y y_mv <| s_no <| s_no <| s_y y_pk <| s_y y_mv <| s_no <| s_no <| s_no <| s_nu <| s_nu <| s_no <| s_y y_pk <| s_y y_as <| s_nil <| q_then <| c_ret <| ?_
    exact ret1 Tryz.results102 rv_t fun w' hw => ⟨by rw [show numB f d c k = false by rw [Bool.eq_iff_iff]; simp [numB]; omega], hw⟩
theorem valid_A (w : World) (i : It) (a : Option Addr) (c : Nat) (hc : i.cm.length = 32) (hp : i.pd.length = 32) (hg : LD w) (hn : numB i.fo i.dv i.ct i.kd = false) : Pure Tryz.prog 55 [itV i (.slice a i.bd.length c)] w (.bool i.vld) := by
  have hbd := lnV_bd i.sz
  refine enter Tryz.func55 Tryz.ntmps55 ?_
  refine c_seq <| c_reg <| s_box rfl fun b1 => s_y y_as <| s_nil <| q_then <| c_seq <| c_reg <| s_y y_fa <| s_y y_fa <| s_y (y_ld (b := b1) (v := I i.sz) (hv := it_sz hc)) <| s_pure (fun w' hw => padding_Length_ok w' i.sz (hg.st hw)) <| s_y y_mv <| s_y y_ext <| s_y y_ext <| s_y y_as <| s_y y_as <| s_nil <| q_then <| c_seq <| c_reg <| s_y y_fa <| s_y y_fa <| s_y (y_ld (b := b1) (v := I i.fo) (hv := it_fo)) <| s_y y_fa <| s_y y_fa <| s_y (y_ld (b := b1) (v := I i.dv) (hv := it_dv hc)) <| s_y y_fa <| s_y y_fa <| s_y (y_ld (b := b1) (v := I i.ct) (hv := it_ct hc)) <| s_y y_fa <| s_y y_fa <| s_y (y_ld (b := b1) (v := I i.kd) (hv := it_kd hc)) <| s_pure (fun w' hw => (by have h9 := numbers_ok w' i.fo i.dv i.ct i.kd; rw [hn] at h9; exact h9)) <| s_y y_mv <| s_no <| s_no <| s_y y_pk <| s_y y_mv <| s_no <| s_no <| s_no <| s_no <| s_no <| s_y y_pk <| s_y y_mv <| s_no <| s_no <| s_no <| s_no <| s_no <| s_no <| s_no <| s_y y_pk <| s_y y_as <| s_nil <| q_then <| c_ret <| ?_
  exact ret1 Tryz.results55 rv_t fun w' hw => ⟨by rw [It.vld, hn, Bool.false_and], hw.sub (List.nil_sublist _)⟩
theorem valid_B (w : World) (i : It) (a : Option Addr) (c : Nat) (hc : i.cm.length = 32) (hp : i.pd.length = 32) (hg : LD w) (hn : numB i.fo i.dv i.ct i.kd = true) (hl : ¬ lnE i.sz = 0) : Pure Tryz.prog 55 [itV i (.slice a i.bd.length c)] w (.bool i.vld) := by
  have hbd := lnV_bd i.sz
  refine enter Tryz.func55 Tryz.ntmps55 ?_
  refine c_seq <| c_reg <| s_box rfl fun b1 => s_y y_as <| s_nil <| q_then <| c_seq <| c_reg <| s_y y_fa <| s_y y_fa <| s_y (y_ld (b := b1) (v := I i.sz) (hv := it_sz hc)) <| s_pure (fun w' hw => padding_Length_ok w' i.sz (hg.st hw)) <| s_y y_mv <| s_y y_ext <| s_y y_ext <| s_y y_as <| s_y y_as <| s_nil <| q_then <| c_seq <| c_reg <| s_y y_fa <| s_y y_fa <| s_y (y_ld (b := b1) (v := I i.fo) (hv := it_fo)) <| s_y y_fa <| s_y y_fa <| s_y (y_ld (b := b1) (v := I i.dv) (hv := it_dv hc)) <| s_y y_fa <| s_y y_fa <| s_y (y_ld (b := b1) (v := I i.ct) (hv := it_ct hc)) <| s_y y_fa <| s_y y_fa <| s_y (y_ld (b := b1) (v := I i.kd) (hv := it_kd hc)) <| s_pure (fun w' hw => (by have h9 := numbers_ok w' i.fo i.dv i.ct i.kd; rw [hn] at h9; exact h9)) <| s_y y_mv <| s_y y_mv <| s_kf (y_eql (p := lnE i.sz) (q := 0)) hl <| s_y y_pk <| s_y y_mv <| s_no <| s_no <| s_no <| s_no <| s_no <| s_y y_pk <| s_y y_mv <| s_no <| s_no <| s_no <| s_no <| s_no <| s_no <| s_no <| s_y y_pk <| s_y y_as <| s_nil <| q_then <| c_ret <| ?_
  exact ret1 Tryz.results55 rv_t fun w' hw => ⟨by rw [It.vld, hn, decide_eq_false hl, Bool.false_and]; rfl, hw.sub (List.nil_sublist _)⟩
theorem valid_C (w : World) (i : It) (a : Option Addr) (c : Nat) (hc : i.cm.length = 32) (hp : i.pd.length = 32) (hg : LD w) (hn : numB i.fo i.dv i.ct i.kd = true) (hl : lnE i.sz = 0) (hk : ¬ ckE i.cA i.cB = 0) : Pure Tryz.prog 55 [itV i (.slice a i.bd.length c)] w (.bool i.vld) := by
  have hbd := lnV_bd i.sz
  refine enter Tryz.func55 Tryz.ntmps55 ?_
  refine c_seq <| c_reg <| s_box rfl fun b1 => s_y y_as <| s_nil <| q_then <| c_seq <| c_reg <| s_y y_fa <| s_y y_fa <| s_y (y_ld (b := b1) (v := I i.sz) (hv := it_sz hc)) <| s_pure (fun w' hw => padding_Length_ok w' i.sz (hg.st hw)) <| s_y y_mv <| s_y y_ext <| s_y y_ext <| s_y y_as <| s_y y_as <| s_nil <| q_then <| c_seq <| c_reg <| s_y y_fa <| s_y y_fa <| s_y (y_ld (b := b1) (v := I i.fo) (hv := it_fo)) <| s_y y_fa <| s_y y_fa <| s_y (y_ld (b := b1) (v := I i.dv) (hv := it_dv hc)) <| s_y y_fa <| s_y y_fa <| s_y (y_ld (b := b1) (v := I i.ct) (hv := it_ct hc)) <| s_y y_fa <| s_y y_fa <| s_y (y_ld (b := b1) (v := I i.kd) (hv := it_kd hc)) <| s_pure (fun w' hw => (by have h9 := numbers_ok w' i.fo i.dv i.ct i.kd; rw [hn] at h9; exact h9)) <| s_y y_mv <| s_y y_mv <| s_kt (y_eql (p := lnE i.sz) (q := 0)) hl <| s_y y_pk <| s_y y_mv <| s_y y_fa <| s_y y_fa <| s_y (y_ldin (b := b1) (off := 37) (cs := (itC i (.slice a i.bd.length c)).toArray) (ys := (I i.cA :: I i.cB :: bs i.pd)) (hl := (by simp [bs_length, hp])) (hv := it_cap hc)) <| s_pure (fun w' hw => capCheck_ok w' i.cA i.cB i.pd hp) <| s_kf (y_eql (p := ckE i.cA i.cB) (q := 0)) hk <| s_y y_pk <| s_y y_mv <| s_no <| s_no <| s_no <| s_no <| s_no <| s_no <| s_no <| s_y y_pk <| s_y y_as <| s_nil <| q_then <| c_ret <| ?_
  exact ret1 Tryz.results55 rv_t fun w' hw => ⟨by rw [It.vld, hn, decide_eq_true hl, decide_eq_false hk, Bool.false_and]; rfl, hw.sub (List.nil_sublist _)⟩
theorem valid_D (w : World) (i : It) (a : Option Addr) (c : Nat) (hc : i.cm.length = 32) (hp : i.pd.length = 32) (hg : LD w) (hn : numB i.fo i.dv i.ct i.kd = true) (hl : lnE i.sz = 0) (hk : ckE i.cA i.cB = 0) (hb : i.bd.length ≤ 70000) : Pure Tryz.prog 55 [itV i (.slice a i.bd.length c)] w (.bool i.vld) := by
  have hbd := lnV_bd i.sz
  refine enter Tryz.func55 Tryz.ntmps55 ?_
  refine c_seq <| c_reg <| s_box rfl fun b1 => s_y y_as <| s_nil <| q_then <| c_seq <| c_reg <| s_y y_fa <| s_y y_fa <| s_y (y_ld (b := b1) (v := I i.sz) (hv := it_sz hc)) <| s_pure (fun w' hw => padding_Length_ok w' i.sz (hg.st hw)) <| s_y y_mv <| s_y y_ext <| s_y y_ext <| s_y y_as <| s_y y_as <| s_nil <| q_then <| c_seq <| c_reg <| s_y y_fa <| s_y y_fa <| s_y (y_ld (b := b1) (v := I i.fo) (hv := it_fo)) <| s_y y_fa <| s_y y_fa <| s_y (y_ld (b := b1) (v := I i.dv) (hv := it_dv hc)) <| s_y y_fa <| s_y y_fa <| s_y (y_ld (b := b1) (v := I i.ct) (hv := it_ct hc)) <| s_y y_fa <| s_y y_fa <| s_y (y_ld (b := b1) (v := I i.kd) (hv := it_kd hc)) <| s_pure (fun w' hw => (by have h9 := numbers_ok w' i.fo i.dv i.ct i.kd; rw [hn] at h9; exact h9)) <| s_y y_mv <| s_y y_mv <| s_kt (y_eql (p := lnE i.sz) (q := 0)) hl <| s_y y_pk <| s_y y_mv <| s_y y_fa <| s_y y_fa <| s_y (y_ldin (b := b1) (off := 37) (cs := (itC i (.slice a i.bd.length c)).toArray) (ys := (I i.cA :: I i.cB :: bs i.pd)) (hl := (by simp [bs_length, hp])) (hv := it_cap hc)) <| s_pure (fun w' hw => capCheck_ok w' i.cA i.cB i.pd hp) <| s_kt (y_eql (p := ckE i.cA i.cB) (q := 0)) hk <| s_y y_pk <| s_y y_mv <| s_y y_fa <| s_y y_fa <| s_y (y_ld (b := b1) (v := .slice a i.bd.length c) (hv := it_bd hc hp)) <| s_y y_len <| s_y y_mv <| s_y (y_add (p := lnV i.sz) (q := 16)) <| s_y (y_eql (p := i.bd.length) (q := (lnV i.sz) + 16)) <| s_y y_pk <| s_y y_as <| s_nil <| q_then <| c_ret <| ?_
  exact ret1 Tryz.results55 rv_t fun w' hw => ⟨by rw [It.vld, hn, decide_eq_true hl, decide_eq_true hk]; rfl, hw.sub (List.nil_sublist _)⟩
theorem valid_ok (w : World) (i : It) (a : Option Addr) (c : Nat) (hc : i.cm.length = 32) (hp : i.pd.length = 32) (hg : LD w) (hb : i.bd.length ≤ 70000) : Pure Tryz.prog 55 [itV i (.slice a i.bd.length c)] w (.bool i.vld) := by
  cases hn : numB i.fo i.dv i.ct i.kd with
  | false => exact valid_A w i a c hc hp hg hn
  | true =>
    by_cases hl : lnE i.sz = 0
    · by_cases hk : ckE i.cA i.cB = 0
      · exact valid_D w i a c hc hp hg hn hl hk hb
      · exact valid_C w i a c hc hp hg hn hl hk
    · exact valid_B w i a c hc hp hg hn hl
theorem fields_ok (w : World) (i : It) (a : Option Addr) (c : Nat) (hc : i.cm.length = 32) (hp : i.pd.length = 32) : Gives Tryz.prog 65 [itV i (.slice a i.bd.length c)] w [] (fun y : Option Addr × Nat => .agg #[I 3, I 0, .string (sb []), .slice y.1 9 y.2]) (fun y => [.row y.1 y.2 76 4 9 (fcells i.hl)]) (fun _ => True) := by
  refine enter Tryz.func65 Tryz.ntmps65 ?_
  refine c_seq <| c_reg <| s_box rfl fun b1 => s_alloc fun b2 => s_nil <| q_then <| c_seq <| c_regL [.blk b1 (.cells (itC i (.slice a i.bd.length c)).toArray 83 (0, 0))] <| r_y 0 rfl y_fa <| r_y 1 rfl y_fa <| r_y 2 rfl (y_ld (b := b1) (v := I i.fo) (hv := it_fo)) <| r_y 3 rfl y_mki <| r_y 4 rfl y_fa <| r_y 5 rfl y_fa <| r_y 6 rfl (y_ld (b := b1) (v := I i.dv) (hv := it_dv hc)) <| r_y 7 rfl y_mki <| r_y 8 rfl y_fa <| r_y 9 rfl y_fa <| r_y 10 rfl (y_ld (b := b1) (v := I i.ct) (hv := it_ct hc)) <| r_y 11 rfl y_mki <| r_y 12 rfl y_fa <| r_y 13 rfl y_fa <| r_y 14 rfl (y_ld (b := b1) (v := I i.kd) (hv := it_kd hc)) <| r_y 15 rfl y_mki <| r_y 16 rfl y_fa <| r_y 17 rfl y_fa <| r_y 18 rfl (y_ld (b := b1) (v := I i.sz) (hv := it_sz hc)) <| r_y 19 rfl y_mki <| r_y 20 rfl y_fa <| r_y 21 rfl y_fa <| r_y 22 rfl y_sla <| r_y 23 rfl y_mki <| r_y 24 rfl y_fa <| r_y 25 rfl y_fa <| r_y 26 rfl y_fa <| r_y 27 rfl (y_ld (b := b1) (v := I i.cA) (hv := it_cA hc)) <| r_y 28 rfl y_mki <| r_y 29 rfl y_fa <| r_y 30 rfl y_fa <| r_y 31 rfl y_fa <| r_y 32 rfl (y_ld (b := b1) (v := I i.cB) (hv := it_cB hc)) <| r_y 33 rfl y_mki <| r_y 34 rfl y_fa <| r_y 35 rfl y_fa <| r_y 36 rfl y_fa <| r_y 37 rfl y_sla <| r_y 38 rfl y_mki <| r_W 39 rfl <| s_bslr (cs := [.iface 3 (I i.fo), .iface 3 (I i.dv), .iface 3 (I i.ct), .iface 3 (I i.kd), .iface 3 (I i.sz), .iface 27 (.slice (some ⟨b1, 1, none⟩) 32 32), .iface 3 (I i.cA), .iface 3 (I i.cB), .iface 27 (.slice (some ⟨b1, 39, none⟩) 32 32)]) (hf := by kernel_rfl) fun b42 => r_K <| r_W 40 rfl <| s_gives (fun w' hw => list_ok w' (some ⟨b42, 0, none⟩) 9 [.inl i.fo, .inl i.dv, .inl i.ct, .inl i.kd, .inl i.sz, .inr (some ⟨b1, 0 + 1, none⟩, 32, 32, i.cm), .inl i.cA, .inl i.cB, .inr (some ⟨b1, 0 + 37 + 2, none⟩, 32, 32, i.pd)] (rdR (.head _) w' hw) ⟨hc, rdB (.tail _ (.tail _ (.head _))) it_cm w' hw, hp, rdB (.tail _ (.tail _ (.head _))) (it_pd hc) w' hw, trivial⟩ (by simp)) fun x43 _ => r_K <| r_W 41 rfl <| s_sta (b := b2) (vs := #[I 3, I 0, .string (sb []), .slice x43.1 9 x43.2]) (cs := #[I 0, I 0, .string .empty, .slice none 0 0]) (h1 := by intro u hu; simp at hu; rcases hu with rfl | rfl | rfl | rfl <;> rfl) (hl := rfl) (hs1 := rfl) ?_
  refine r_K <| r_E <| q_then <| c_ret <| ?_
  exact ret1 Tryz.results65 (rv_ca (b := b2) (cs := #[I 3, I 0, .string (sb []), .slice x43.1 9 x43.2]) (hl := rfl)) fun w' hw => ⟨x43, trivial, rfl, hw.sub (.cons_cons _ (List.nil_sublist _))⟩
theorem head_ok (w : World) (i : It) (a : Option Addr) (c : Nat) (h : i.Wf) : GivesB Tryz.prog 106 [itV i (.slice a i.bd.length c)] w i.head := by
  obtain ⟨hc, hp⟩ : i.cm.length = 32 ∧ i.pd.length = 32 := ⟨h.cm, h.pd⟩
  refine enter Tryz.func106 Tryz.ntmps106 ?_
  refine c_seq <| c_reg <| s_box rfl fun b1 => s_y y_as <| s_nil <| q_then <| c_seq <| c_reg <| s_y (y_lda (b := b1) (cs := (itC i (.slice a i.bd.length c)).toArray) (hl := it_size hc hp)) <| s_gives (fun w' hw => fields_ok w' i a c hc hp) fun x7 _ => s_gives (fun w' hw => codec_Encode_ok w' (vL i.hl) (.agg #[I 3, I 0, .string (sb []), .slice x7.1 9 x7.2]) (vL_vv (rdR (.head _) w' hw) (hl_flat h) (show (9 : Nat) < 1152921504606846976 by decide)) (by rw [vL_dep (hl_k i)]; decide) (Nat.le_trans (head_len h) (by decide))) fun x8 _ => ?_
  rw [vL_encd (hl_k i), vL_chk (hl_k i), show (vL i.hl).enc = i.head from rfl]
  refine s_y y_mv <| s_y y_ext <| s_y y_ext <| s_y y_as <| s_y y_as <| s_nil <| q_then <| c_seq <| c_reg <| s_y y_mv <| s_y y_as <| s_nil <| q_then <| c_ret <| ?_
  exact ret1 Tryz.results106 rv_t fun w' hw => ⟨x8, trivial, rfl, hw.sub (.cons_cons _ (List.nil_sublist _))⟩
theorem isgd_ok (w : World) (i : It) (a : Option Addr) (c : Nat) (h : i.Wf) (hr : Rd w a (bs i.bd)) (hb : i.bd.length ≤ 70000) : GivesB Tryz.prog 63 [itV i (.slice a i.bd.length c)] w i.sg := by
  obtain ⟨hc, hp⟩ : i.cm.length = 32 ∧ i.pd.length = 32 := ⟨h.cm, h.pd⟩
  have hhl := head_len h
  refine enter Tryz.func63 Tryz.ntmps63 ?_
  refine c_seq <| c_reg <| s_box rfl fun b1 => s_y y_as <| s_nil <| q_then <| c_seq <| c_regL [.blk b1 (.cells (itC i (.slice a i.bd.length c)).toArray 83 (0, 0))] <| r_y 0 rfl (y_lda (b := b1) (cs := (itC i (.slice a i.bd.length c)).toArray) (hl := it_size hc hp)) <| r_y 2 rfl y_fa <| r_y 3 rfl y_fa <| r_y 4 rfl (y_ld (b := b1) (v := .slice a i.bd.length c) (hv := it_bd hc hp)) <| r_W 1 rfl <| s_gives (fun w' hw => head_ok w' i a c h) fun x4 _ => r_K <| r_W 5 rfl <| s_app (m := i.bd.length) (srcB (q := i.bd) (rdW0 hr) rfl) (h1 := fun v hv => bs_one hv) (hm := .head _) (hrep := fun _ _ => .head _) fun a8 c8 h8 => ?_
  rw [← bs_append]
  rw [show i.head.length + i.bd.length = (i.head ++ i.bd).length by first | omega | (simp only [List.length_append]; done) | (simp only [List.length_append]; omega)]
  refine r_K <| r_y 6 rfl y_as <| r_E <| q_then <| c_ret <| ?_
  exact ret1 Tryz.results63 rv_t fun w' hw => ⟨(a8, c8), trivial, rfl, hw.sub (.cons_cons _ (List.nil_sublist _))⟩
end Go.Proofs.YtejdjnkilikehaaGreatDoor
end
section
namespace Cod
open Go Eng
def rdNum : Nat → Nat → List UInt8 → Option (Nat × List UInt8)
  | _, _, [] => none
  | i, u, c :: q => if (i = 0 ∨ c.toNat ≠ 0) ∧ (i < 9 ∨ c.toNat ≤ 1) then (if c.toNat < 128 then some (u + c.toNat * 2 ^ (7 * i), q) else rdNum (i + 1) (u + (c.toNat - 128) * 2 ^ (7 * i)) q) else none
def rdLen (q : List UInt8) : Option (Nat × List UInt8) :=
  match rdNum 0 0 q with
  | some (n, q') => if n ≤ q'.length then some (n, q') else none
  | none => none
def sgn (u : Nat) : Int := if u % 2 = 0 then ((u / 2 : Nat) : Int) else -((u / 2 : Nat) : Int) - 1
def rdL (g : List UInt8 → Option (V × List UInt8)) : Nat → List UInt8 → Option (List V × List UInt8)
  | 0, q => some ([], q)
  | n + 1, q => match g q with
    | none => none
    | some (v, q') => match rdL g n q' with
      | none => none
      | some (l, q'') => some (v :: l, q'')
def rdVal : Nat → List UInt8 → Option (V × List UInt8)
  | _, [] => none
  | 0, c :: q => if c.toNat = 1 then (match rdNum 0 0 q with | some (u, q') => some (V.mk 1 (sgn u) [] [], q') | none => none)
      else if c.toNat = 2 then (match rdLen q with | some (n, q') => some (V.mk 2 0 (q'.take n) [], q'.drop n) | none => none)
      else none
  | f + 1, c :: q => if c.toNat = 1 then (match rdNum 0 0 q with | some (u, q') => some (V.mk 1 (sgn u) [] [], q') | none => none)
      else if c.toNat = 2 then (match rdLen q with | some (n, q') => some (V.mk 2 0 (q'.take n) [], q'.drop n) | none => none)
      else if c.toNat = 3 then (match rdLen q with | some (n, q') => (match rdL (rdVal f) n q' with | some (l, q'') => some (V.mk 3 0 [] l, q'') | none => none) | none => none)
      else none
theorem sgn_uns (n : Int) : sgn (uns n) = n := by
  unfold sgn uns
  split <;> split <;> omega
theorem pw7 (i : Nat) : 2 ^ (7 * (i + 1)) = 128 * 2 ^ (7 * i) := by rw [Nat.mul_add, Nat.pow_add, Nat.mul_comm]
theorem rdNum_num (q : List UInt8) : ∀ (x i u : Nat), x < 2 ^ (64 - 7 * i) → i ≤ 9 → (i = 0 ∨ 0 < x) → rdNum i u (num x ++ q) = some (u + x * 2 ^ (7 * i), q) := by
  intro x
  induction x using Nat.strongRecOn with
  | ind x ih =>
    intro i u hx hi h0
    rw [num]
    by_cases h : x < 128
    · rw [if_pos h]
      have e : (UInt8.ofNat x).toNat = x := by rw [UInt8.toNat_ofNat']; omega
      show rdNum i u (UInt8.ofNat x :: q) = _
      have h9 : i < 9 ∨ x ≤ 1 := by
        rcases Nat.lt_or_ge i 9 with h | h
        · exact .inl h
        · have : i = 9 := by omega
          subst this
          have : x < 2 := hx
          exact .inr (by omega)
      have h8 : i = 0 ∨ x ≠ 0 := by omega
      rw [rdNum, e, if_pos ⟨h8, h9⟩, if_pos h]
    · rw [if_neg h]
      have e : (UInt8.ofNat (x % 128 + 128)).toNat = x % 128 + 128 := by rw [UInt8.toNat_ofNat']; omega
      show rdNum i u (UInt8.ofNat (x % 128 + 128) :: (num (x / 128) ++ q)) = _
      have h9 : i < 9 := by
        rcases Nat.lt_or_ge i 9 with h' | h'
        · exact h'
        · have : i = 9 := by omega
          subst this
          have : x < 2 := hx
          omega
      rw [rdNum, e, if_pos ⟨by omega, .inl h9⟩, if_neg (by omega), Nat.add_sub_cancel, ih (x / 128) (by omega) (i + 1) _ ?_ (by omega) (by omega), pw7]
      · congr 2
        have : x = x % 128 + 128 * (x / 128) := (Nat.mod_add_div x 128).symm
        calc u + x % 128 * 2 ^ (7 * i) + x / 128 * (128 * 2 ^ (7 * i)) = u + (x % 128 + 128 * (x / 128)) * 2 ^ (7 * i) := by rw [Nat.add_mul, Nat.add_assoc, ← Nat.mul_assoc, Nat.mul_comm (x / 128) 128]
          _ = u + x * 2 ^ (7 * i) := by rw [← this]
      · have h5 : 2 ^ (64 - 7 * i) = 128 * 2 ^ (64 - 7 * (i + 1)) := by
          rw [show 64 - 7 * i = 7 + (64 - 7 * (i + 1)) by omega, Nat.pow_add]
        rw [h5] at hx
        exact Nat.div_lt_of_lt_mul hx
theorem rdNum_enc {x : Nat} (h : x < 18446744073709551616) (q : List UInt8) : rdNum 0 0 (num x ++ q) = some (x, q) := by
  have := rdNum_num q x 0 0 h (by decide) (.inl rfl)
  simpa using this
theorem rdLen_enc {x : Nat} (h : x < 18446744073709551616) {q : List UInt8} (hq : x ≤ q.length) : rdLen (num x ++ q) = some (x, q) := by
  rw [rdLen, rdNum_enc h]; exact if_pos hq
theorem enc_pos (v : V) : 0 < v.enc.length := by
  obtain ⟨k, n, s, l⟩ := v
  rw [V.enc]; split
  · simp
  · split <;> simp
theorem encL_long (l : List V) : l.length ≤ (encL l).length := by
  induction l with
  | nil => simp
  | cons x r ih => rw [encL, List.length_append, List.length_cons]; have := enc_pos x; omega
end Cod
end
