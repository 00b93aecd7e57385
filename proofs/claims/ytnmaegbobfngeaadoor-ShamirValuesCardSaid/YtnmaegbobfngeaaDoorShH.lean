/- Shares of secrets: Join of the reference, few shares, equal lists. -/
import Derived.Test.YtnmaegbobfngeaaDoorShG
import Derived.Test.YtnmaegbobfngeaaDoorEqS
namespace Eng
open Go Go.RowKit
section
variable {P : Program}
theorem run_eqF2 {k : Nat} {X : Array Value} {f1 f2 : Field} {v1 v2 : Value} {w : World} (n1 : f1.name ≠ "_") (n2 : f2.name ≠ "_")
    (c1 : (part f1.type X f1.offset).run P w = .ok v1 w) (c2 : (part f2.type X f2.offset).run P w = .ok v2 w)
    (e1 : (Op.equalIn k f1.type v1 v1).run P w = .ok true w) (e2 : (Op.equalIn k f2.type v2 v2).run P w = .ok true w) :
    (Op.eqFields k X X [f1, f2]).run P w = .ok true w := by
  simp only [Op.eqFields, if_pos n1, if_pos n2, Sem.run_bind, c1, c2, Result.andThen_ok, e1, e2, Bool.not_true, Bool.false_eq_true, if_false, Sem.run_pure]
end
end Eng
namespace Go.Proofs.YtnmaegbobfngeaaDoor
open Go Eng Gf
set_option maxRecDepth 100000
theorem hgShr : (Tryd.prog).eqGuardType (Tryd.prog).depth 42 = false := by kernel_rfl
theorem hsShr : (Tryd.prog).stoodInHeld 42 = false := by kernel_rfl
theorem hfShr : (Tryd.prog).underlying 42 = some (.struct ((Tryd.prog).fieldsOf 42)) := by kernel_rfl
theorem hlShr : ∃ f1 f2 : Field, ((Tryd.prog).fieldsOf 42).toList = [f1, f2] ∧ f1.name = "At" ∧ f2.name = "Y" ∧ f1.type = 3 ∧ f2.type = 3 ∧ f1.offset = 0 ∧ f2.offset = 1 := by
  simp only [Program.fieldsOf, Tryd.underlying42]
  exact ⟨_, _, rfl, rfl, rfl, rfl, rfl, rfl, rfl⟩
theorem eqShrIn (k : Nat) {a b : Int} (w : World) : (Op.equalIn (k + 3) 42 (.agg #[I a, I b]) (.agg #[I a, I b])).run Tryd.prog w = .ok true w := by
  obtain ⟨f1, f2, hl, n1, n2, t1, t2, o1, o2⟩ := hlShr
  have c1 : (part 3 #[I a, I b] 0).run Tryd.prog w = .ok (I a) w := run_part1 (by rfl) w
  have c2 : (part 3 #[I a, I b] 1).run Tryd.prog w = .ok (I b) w := run_part1 (by rfl) w
  have e1 : (Op.equalIn (k + 2) 3 (I a) (I a)).run Tryd.prog w = .ok true w := run_eqI (k + 1) a w
  have e2 : (Op.equalIn (k + 2) 3 (I b) (I b)).run Tryd.prog w = .ok true w := run_eqI (k + 1) b w
  rw [← t1, ← o1] at c1
  rw [← t2, ← o2] at c2
  rw [← t1] at e1
  rw [← t2] at e2
  rw [run_equalIn_struct w (k + 2) _ _ _ hfShr hsShr, hl]
  exact run_eqF2 (n1 ▸ by decide) (n2 ▸ by decide) c1 c2 e1 e2
theorem run_eqShr {a b : Int} (w : World) : (Op.equalIn 10000 42 (.agg #[I a, I b]) (.agg #[I a, I b])).run Tryd.prog w = .ok true w := eqShrIn 9997 w
theorem y_neqShr {n : Nat} {D : List Deferred} {W : World} {Bo : List Nat} {F : List (Nat × Value)} {l : SH} {d : Option Tmp} {ty : TypeId} {ps : String} {af : Array Edge} {g : Option (Nat × Bool)} {x y : Operand} {tb : TypeId} {a b : Int}
    (hx : evO F x = some (.agg #[I a, I b]) := by rfl) (hy : evO F y = some (.agg #[I a, I b]) := by rfl) : Y Tryd.prog n D W Bo ⟨d, .binOp .neq 42 x y tb, ty, ps, af, g⟩ F l (.bool false) :=
  .mk (by simp) fun ac w ha _ => by
    simp only [execOp, ha.eval hx, ha.eval hy, Sem.run_bind, run_eqGuard_agg w .neq 42 x y _ _ hgShr, Result.andThen_ok, run_neq_struct, run_eqShr, Sem.run_pure, Bool.not_true]
def fewS (n : Nat) : Bool := decide (n ≤ 12) || (decide (64 < n) && decide (n ≤ 100))
theorem Few_ok (w : World) (a : Option Addr) (c n : Nat) : Pure Tryd.prog 10 [.slice a n c] w (.bool (fewS n)) := by
  refine enter Tryd.func10 Tryd.ntmps10 ?_
  refine c_seq <| c_reg <| s_y y_as <| s_nil <| q_then <| c_seq <| c_reg <| s_y y_mv <| s_y y_len <| ?_
  by_cases h1 : n ≤ 12
  · refine s_kt (y_leq (p := ((n : Nat) : Int)) (q := 12)) (by omega) <| s_y y_mv <| s_no <| s_no <| s_no <| s_no <| s_nu <| s_nu <| s_nu <| s_no <| s_y y_pk <| s_y y_as <| s_nil <| q_then <| c_ret <| ?_
    exact ret1 Tryd.results10 rv_t fun w' hw => ⟨by rw [fewS, decide_eq_true h1]; rfl, hw⟩
  by_cases h2 : 64 < n
  · refine s_kf (y_leq (p := ((n : Nat) : Int)) (q := 12)) (by omega) <| s_y y_mv <| s_y y_mv <| s_y y_len <| s_kt (y_gtr (p := ((n : Nat) : Int)) (q := 64)) (by omega) <| s_y y_mv <| s_y y_mv <| s_y y_len <| s_y (y_leq (p := ((n : Nat) : Int)) (q := 100)) <| s_y y_pk <| s_y y_pk <| s_y y_as <| s_nil <| q_then <| c_ret <| ?_
    exact ret1 Tryd.results10 rv_t fun w' hw => ⟨by rw [fewS, decide_eq_false h1, decide_eq_true h2, show decide ((n : Int) ≤ 100) = decide (n ≤ 100) from decide_eq_decide.2 ⟨fun h => by omega, fun h => by omega⟩]; rfl, hw⟩
  · refine s_kf (y_leq (p := ((n : Nat) : Int)) (q := 12)) (by omega) <| s_y y_mv <| s_y y_mv <| s_y y_len <| s_kf (y_gtr (p := ((n : Nat) : Int)) (q := 64)) (by omega) <| s_y y_mv <| s_no <| s_no <| s_no <| s_y y_pk <| s_y y_pk <| s_y y_as <| s_nil <| q_then <| c_ret <| ?_
    exact ret1 Tryd.results10 rv_t fun w' hw => ⟨by rw [fewS, decide_eq_false h1, decide_eq_false h2]; rfl, hw⟩
theorem SameS_ok (w : World) (a a' : Option Addr) (c c' : Nat) (l : List (Int × Int)) (hr : Rd w a (shc l)) (hr' : Rd w a' (shc l)) (hl : l.length < 1000000000000000000) : Pure Tryd.prog 15 [.slice a l.length c, .slice a' l.length c'] w (.bool true) := by
  have hcl : l.length ≤ (shc l).length := by rw [shc_length]; omega
  refine enter Tryd.func15 Tryd.ntmps15 ?_
  refine c_seq <| c_reg <| s_y y_as <| s_nil <| q_then <| c_seq <| c_seq <| c_reg <| s_y y_mv <| s_y y_len <| s_y y_mv <| s_y y_len <| s_nf (y_neq (p := ((l.length : Nat) : Int)) (q := ((l.length : Nat) : Int))) rfl <| s_nil <| q_then <| c_f <| c_skip <| q_then <| c_seq <| c_seq <| c_reg <| s_y y_as <| s_nil <| q_then <| c_block <| ?_
  refine c_loop2 (fun (d _ : List (Int × Int)) => [(0, .slice a l.length c), (1, .slice a' l.length c'), (5, I d.length)]) (fun _ _ => []) (fun d r => l = d ++ r) (fun _ r => r.length) [] l rfl ⟨rfl, rfl, rfl, trivial⟩ (List.nil_sublist _) ?_
  intro d r e1
  have hlen : l.length = d.length + r.length := by rw [e1, List.length_append]
  cases r with
  | nil =>
    rw [List.length_nil, Nat.add_zero] at hlen
    refine c_seq <| c_seq <| c_reg <| s_y y_mv <| s_y y_mv <| s_y y_len <| s_kf (y_lss (p := ((d.length : Nat) : Int)) (q := ((l.length : Nat) : Int))) (by omega) <| s_nil <| q_then <| c_f <| c_exit <| q_ex <| q_ex <| q_exb <| q_then <| c_seq <| c_reg <| s_y y_as <| s_nil <| q_then <| c_ret <| ?_
    exact ret1 Tryd.results15 rv_t fun w' hw => ⟨rfl, hw⟩
  | cons s r =>
    rw [List.length_cons] at hlen
    have hm := fun j v h => by have := shc_mid d s r j v h; rw [← e1] at this; exact this
    refine c_seq <| c_seq <| c_reg <| s_y y_mv <| s_y y_mv <| s_y y_len <| s_kt (y_lss (p := ((d.length : Nat) : Int)) (q := ((l.length : Nat) : Int))) (by omega) <| s_nil <| q_then <| c_t <| c_skip <| q_then <| c_seq <| c_block <| c_seq <| c_regd <| d_y y_mv <| d_y y_mv <| d_y (y_ixs (xs := shc l) (i := ((d.length : Nat) : Int)) (hl := hcl)) <| d_y (y_ldra (i := d.length * 2) (cs := [I s.1, I s.2]) (rdW0 hr) rfl hm) <| d_y y_mv <| d_y y_mv <| d_y (y_ixs (xs := shc l) (i := ((d.length : Nat) : Int)) (hr := rdW0 hr') (hl := hcl)) <| d_y (y_ldra (i := d.length * 2) (cs := [I s.1, I s.2]) (rdW0 hr') rfl hm) <| d_y (y_neqShr (a := s.1) (b := s.2)) <| d_nil <| q_then <| c_f <| c_skip <| q_nb <| q_then <| c_reg <| s_y y_mv <| s_y (y_add (p := ((d.length : Nat) : Int)) (q := 1)) <| s_y y_as <| s_nil <| ?_
    rw [show ((d.length : Nat) : Int) + 1 = (((d ++ [s]).length : Nat) : Int) by simp]
    exact q_round2 (x := d) (y := s :: r) (d ++ [s]) r (by rw [e1]; simp) (Nat.lt_succ_self _) ⟨rfl, rfl, rfl, trivial⟩ (List.nil_sublist _)
end Go.Proofs.YtnmaegbobfngeaaDoor
