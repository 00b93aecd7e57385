/- The proxy: capsules, in the program and in the reference. -/
import Derived.Test.YtbbfagnbmofgnaaGreatDoorMask
import Derived.Stop.Asserts
namespace Gf
/-- is it a private number? -/
def prv (a : Int) : Bool := decide (1 ≤ a) && decide (a < 2305843009213688669)
theorem El.r64 {x : Nat} (h : El x) : Eng.R64 (x : Int) := by have h9 := h.lt; unfold Eng.R64; omega
theorem prv_lo {a : Int} (h : a < 1) : prv a = false := by unfold prv; rw [decide_eq_false (show ¬ 1 ≤ a by omega), Bool.false_and]
theorem prv_hi {a : Int} (h : 2305843009213688669 ≤ a) : prv a = false := by unfold prv; rw [decide_eq_false (show ¬ a < 2305843009213688669 by omega), Bool.and_false]
theorem prv_of {x : Nat} (h0 : 0 < x) (h : x < 2305843009213688669) : prv (x : Int) = true := by
  unfold prv
  rw [decide_eq_true (show (1 : Int) ≤ (x : Int) by omega), decide_eq_true (show (x : Int) < 2305843009213688669 by omega)]; rfl
theorem prv_nat {a : Int} (h : prv a = true) : ∃ x : Nat, a = (x : Int) ∧ 0 < x ∧ x < 2305843009213688669 := by
  unfold prv at h
  simp only [Bool.and_eq_true, decide_eq_true_eq] at h
  exact ⟨a.toNat, by omega, by omega, by omega⟩
theorem base_V {k : Nat} (h : k < 2305843009213688669) : expV 4 ((k : Nat) : Int) = ((pp 4 k : Nat) : Int) := by
  rw [expV, show el 4 = true from El.four.el, sc_of h, Int.toNat_natCast]; rfl
theorem base_E {k : Nat} (h : k < 2305843009213688669) : expE 4 ((k : Nat) : Int) = 0 := by rw [expE, show el 4 = true from El.four.el, sc_of h]; rfl
theorem mul_V {x y : Nat} (hx : El x) (hy : El y) : mulV (x : Int) (y : Int) = ((x * y % 4611686018427377339 : Nat) : Int) := by rw [mulV, hx.el, hy.el, Int.toNat_natCast, Int.toNat_natCast]; rfl
theorem mul_E {x y : Nat} (hx : El x) (hy : El y) : mulE (x : Int) (y : Int) = 0 := by rw [mulE, hx.el, hy.el]; rfl
theorem inv_V {x : Nat} (hx : El x) : expV (x : Int) 2305843009213688668 = ((pp x 2305843009213688668 : Nat) : Int) := by
  rw [expV, hx.el, show sc 2305843009213688668 = true from rfl, Int.toNat_natCast, show (2305843009213688668 : Int).toNat = 2305843009213688668 from rfl]; rfl
theorem inv_E {x : Nat} (hx : El x) : expE (x : Int) 2305843009213688668 = 0 := by rw [expE, hx.el, show sc 2305843009213688668 = true from rfl]; rfl
end Gf
namespace Go.Proofs.YtbbfagnbmofgnaaGreatDoor
open Go Eng Gf Sha Cod
abbrev lbLock : List UInt8 := [108, 111, 99, 107]
abbrev lbMask : List UInt8 := [109, 97, 115, 107]
theorem y_bfail {n : Nat} {D : List Deferred} {W : World} {Bo : List Nat} {F : List (Nat × Value)} {l : SH} {d : Option Tmp} {ty : TypeId} {ps : String} {af : Array Edge} {g : Option (Nat × Bool)} {parts : Array (Nat × Operand)} {vs : List (Nat × Value)} {cs : List Value}
    (hp : evP F parts.toList = some vs := by rfl) (hf : fillL (fun i => (#[(0, 1)] : Array (Nat × Nat))[i]?) [I 0] vs = some cs := by rfl) :
    Y Tryz.prog n D W Bo ⟨d, .build 53 parts, ty, ps, af, g⟩ F l (.agg cs.toArray) :=
  y_blds Tryz.underlying53 (fun w => by kernel_rfl) hp hf
theorem y_bdir {n : Nat} {D : List Deferred} {W : World} {Bo : List Nat} {F : List (Nat × Value)} {l : SH} {d : Option Tmp} {ty : TypeId} {ps : String} {af : Array Edge} {g : Option (Nat × Bool)} {parts : Array (Nat × Operand)} {vs : List (Nat × Value)} {cs : List Value}
    (hp : evP F parts.toList = some vs := by rfl) (hf : fillL (fun i => (#[(0, 1), (1, 1)] : Array (Nat × Nat))[i]?) [.nilFunc, .nilFunc] vs = some cs := by rfl) :
    Y Tryz.prog n D W Bo ⟨d, .build 46 parts, ty, ps, af, g⟩ F l (.agg cs.toArray) :=
  y_blds Tryz.underlying46 (fun w => by kernel_rfl) hp hf
theorem y_bcap {n : Nat} {D : List Deferred} {W : World} {Bo : List Nat} {F : List (Nat × Value)} {l : SH} {d : Option Tmp} {ty : TypeId} {ps : String} {af : Array Edge} {g : Option (Nat × Bool)} {parts : Array (Nat × Operand)} {vs : List (Nat × Value)} {cs : List Value}
    (hp : evP F parts.toList = some vs := by rfl) (hf : fillL (fun i => (#[(0, 1), (1, 1), (2, 32)] : Array (Nat × Nat))[i]?) (I 0 :: I 0 :: bs (List.replicate 32 0)) vs = some cs := by rfl) :
    Y Tryz.prog n D W Bo ⟨d, .build 25 parts, ty, ps, af, g⟩ F l (.agg cs.toArray) :=
  y_blds Tryz.underlying25 (fun w => by kernel_rfl) hp hf
theorem fillC {a b : Int} {p : List UInt8} (h : p.length = 32) : fillL (fun i => (#[(0, 1), (1, 1), (2, 32)] : Array (Nat × Nat))[i]?) (I 0 :: I 0 :: bs (List.replicate 32 0)) [(0, I a), (1, I b), (2, .agg (bs p).toArray)] = some (I a :: I b :: bs p) := by
  have e1 : fillL (fun i => (#[(0, 1), (1, 1), (2, 32)] : Array (Nat × Nat))[i]?) (I 0 :: I 0 :: bs (List.replicate 32 0)) [(0, I a), (1, I b), (2, .agg (bs p).toArray)] = fillL (fun i => (#[(0, 1), (1, 1), (2, 32)] : Array (Nat × Nat))[i]?) (I a :: I b :: bs (List.replicate 32 0)) [(2, .agg (bs p).toArray)] := rfl
  rw [e1]
  unfold fillL
  have e2 : (Value.cells (.agg (bs p).toArray)).toList = bs p := rfl
  simp only [e2, bs_length, h, show (#[(0, 1), (1, 1), (2, 32)] : Array (Nat × Nat))[2]? = some (2, 32) from rfl, List.length_cons, List.length_replicate]
  rw [show (Nat.beq 32 32 && Nat.ble (2 + 32) (32 + 1 + 1)) = true from rfl]
  simp only [cond_true]
  have e3 : List.drop (2 + 32) (I a :: I b :: bs (List.replicate 32 0)) = [] := List.drop_eq_nil_of_le (by simp [bs_length])
  rw [e3, List.append_nil]
  rfl
theorem one_cap {a b : Int} {p : List UInt8} : ∀ u ∈ (I a :: I b :: bs p).toArray.toList, u.oneCell' = true := by
  intro u hu
  have hu' : u ∈ I a :: I b :: bs p := hu
  rcases List.mem_cons.1 hu' with rfl | h
  · rfl
  · rcases List.mem_cons.1 h with rfl | h
    · rfl
    · exact bs_one h
theorem y_eqni {n : Nat} {D : List Deferred} {W : World} {Bo : List Nat} {F : List (Nat × Value)} {l : SH} {d : Option Tmp} {ty : TypeId} {ps : String} {af : Array Edge} {g : Option (Nat × Bool)} {x : Operand} {c : Value} {tb : TypeId}
    (hx : evO F x = some .nilIface := by rfl) (hy : evO F (.const c) = some .nilIface := by rfl) : Y Tryz.prog n D W Bo ⟨d, .binOp .eql 20 x (.const c) tb, ty, ps, af, g⟩ F l (.bool true) :=
  .mk (by simp) fun a w ha _ => by
    have e1 : eqGuard .eql 20 x (.const c) .nilIface .nilIface = pure () := by simp [eqGuard]
    have e2 : (binOp .eql 20 .nilIface .nilIface).run Tryz.prog w = .ok (.bool true) w := by kernel_rfl
    have h1 := ha.eval hx
    have h2 := ha.eval hy
    simp only [execOp, h1, h2, e1, Sem.run_bind, Sem.run_pure, e2, Result.andThen_ok]
theorem y_eqnf {n : Nat} {D : List Deferred} {W : World} {Bo : List Nat} {F : List (Nat × Value)} {l : SH} {d : Option Tmp} {ty : TypeId} {ps : String} {af : Array Edge} {g : Option (Nat × Bool)} {x y : Operand} {tb : TypeId} {T : TypeId} {v : Value}
    (hx : evO F x = some (.iface T v) := by rfl) (hy : evO F y = some .nilIface := by rfl) : Y Tryz.prog n D W Bo ⟨d, .binOp .eql 20 x y tb, ty, ps, af, g⟩ F l (.bool false) :=
  .mk (by simp) fun a w ha _ => by simp only [execOp, ha.eval hx, ha.eval hy]; kernel_rfl
theorem y_tafail {n : Nat} {D : List Deferred} {W : World} {Bo : List Nat} {F : List (Nat × Value)} {l : SH} {d : Option Tmp} {ty : TypeId} {ps : String} {af : Array Edge} {g : Option (Nat × Bool)} {x : Operand} {v : Value}
    (hx : evO F x = some (.iface 53 v) := by rfl) : Y Tryz.prog n D W Bo ⟨d, .typeAssert x 20 53 true, ty, ps, af, g⟩ F l (.tuple #[v, .bool true]) :=
  .mk (by simp) fun a w ha _ => by simp only [execOp, ha.eval hx]; kernel_rfl
theorem caught_nil (w : World) (b : Nat) : Pure Tryz.prog 16 [.nilIface, .pointer (some ⟨b, 0, none⟩)] w (.tuple #[]) := by
  refine enter Tryz.func16 Tryz.ntmps16 ?_
  refine c_seq <| c_reg <| s_y y_mv <| s_nil <| q_then <| c_block <| c_seq <| c_reg <| s_y y_eqni <| s_nil <| q_then <| c_t <| c_reg <| s_y y_as <| s_nil <| q_nb <| ?_
  exact ret0 Tryz.results16 (fun w' hw => ⟨rfl, hw⟩) _ (.inr rfl)
theorem caught_fail (w : World) (b : Nat) (z c : Int) (hp : (Res.blk b (.cells #[I z] 27 (0, 0))).holds w) :
    Gives Tryz.prog 16 [.iface 53 (.agg #[I c]), .pointer (some ⟨b, 0, none⟩)] w (keys [.blk b (.cells #[I z] 27 (0, 0))]) (fun _ : Unit => .tuple #[]) (fun _ => [.blk b (.cells #[I c] 27 (0, 0))]) (fun _ => True) := by
  refine enterR Tryz.func16 Tryz.ntmps16 hp ?_
  refine c_seq <| c_reg <| s_y y_mv <| s_nil <| q_then <| c_block <| c_seq <| c_reg <| s_y y_eqnf <| s_nil <| q_then <| c_f <| c_seq <| c_reg <| s_y y_tafail <| s_y y_ext <| s_y y_ext <| s_nil <| q_then <| c_t <| c_seq <| c_reg <| s_alloc fun b5 => s_sta (b := b5) (vs := #[I c]) (cs := #[I 0]) (h1 := by intro u hu; simp at hu; subst hu; rfl) (hl := rfl) (hs1 := rfl) ?_
  refine s_nil <| q_then <| c_reg <| s_y y_mv <| s_y y_fa <| s_y (y_ld (b := b5) (v := I c)) <| s_y y_nc <| s_st (b := b) (v := I c) (cs := #[I z]) (hl := Nat.zero_lt_one) ?_
  refine s_nil <| q_nb <| ?_
  exact ret0 Tryz.results16 (fun w' hw => ⟨(), trivial, rfl, hw.sub (.cons _ (.refl _))⟩) _ (.inr rfl)
theorem isPrivate_yes (w : World) (x : Nat) (h0 : 0 < x) (h : x < 2305843009213688669) : Pure Tryz.prog 32 [I x] w (.bool true) := by
  refine enter Tryz.func32 Tryz.ntmps32 ?_
  refine c_seq <| c_reg <| s_y y_as <| s_nil <| q_then <| c_seq <| c_reg <| s_y y_mv <| s_kt (y_geq (p := (x : Int)) (q := 1)) (by omega) <| s_y y_mv <| s_y y_mv <| s_kt (y_lss (p := (x : Int)) (q := 2305843009213688669)) (by omega) <| s_y y_pk <| s_y y_as <| s_nil <| q_then <| c_ret <| ?_
  exact ret1 Tryz.results32 rv_t fun w' hw => ⟨rfl, hw.sub (List.nil_sublist _)⟩

theorem isPrivate_lo (w : World) (a : Int) (h : a < 1) : Pure Tryz.prog 32 [I a] w (.bool false) := by
  refine enter Tryz.func32 Tryz.ntmps32 ?_
  refine c_seq <| c_reg <| s_y y_as <| s_nil <| q_then <| c_seq <| c_reg <| s_y y_mv <| s_kf (y_geq (p := a) (q := 1)) (by omega) <| s_y y_mv <| s_no <| s_no <| s_y y_pk <| s_y y_as <| s_nil <| q_then <| c_ret <| ?_
  exact ret1 Tryz.results32 rv_t fun w' hw => ⟨rfl, hw.sub (List.nil_sublist _)⟩

theorem isPrivate_hi (w : World) (a : Int) (h : 2305843009213688669 ≤ a) : Pure Tryz.prog 32 [I a] w (.bool false) := by
  refine enter Tryz.func32 Tryz.ntmps32 ?_
  refine c_seq <| c_reg <| s_y y_as <| s_nil <| q_then <| c_seq <| c_reg <| s_y y_mv <| s_kt (y_geq (p := a) (q := 1)) (by omega) <| s_y y_mv <| s_y y_mv <| s_kf (y_lss (p := a) (q := 2305843009213688669)) (by omega) <| s_y y_pk <| s_y y_as <| s_nil <| q_then <| c_ret <| ?_
  exact ret1 Tryz.results32 rv_t fun w' hw => ⟨rfl, hw.sub (List.nil_sublist _)⟩

theorem isPrivate_ok (w : World) (a : Int) : Pure Tryz.prog 32 [I a] w (.bool (prv a)) := by
  by_cases h1 : a < 1
  · rw [prv_lo h1]; exact isPrivate_lo w a h1
  by_cases h2 : 2305843009213688669 ≤ a
  · rw [prv_hi h2]; exact isPrivate_hi w a h2
  obtain ⟨x, rfl⟩ : ∃ x : Nat, a = (x : Int) := ⟨a.toNat, by omega⟩
  rw [prv_of (by omega) (by omega)]
  exact isPrivate_yes w x (by omega) (by omega)

theorem r11_Private_yes (w : World) (x : Nat) (h0 : 0 < x) (h : x < 2305843009213688669) : Pure Tryz.prog 37 [I x] w (.bool true) := by
  refine enter Tryz.func37 Tryz.ntmps37 ?_
  refine c_seq <| c_reg <| s_y y_as <| s_nil <| q_then <| c_seq <| c_reg <| s_y y_mv <| s_kt (y_geq (p := (x : Int)) (q := 1)) (by omega) <| s_y y_mv <| s_y y_mv <| s_kt (y_lss (p := (x : Int)) (q := 2305843009213688669)) (by omega) <| s_y y_pk <| s_y y_as <| s_nil <| q_then <| c_ret <| ?_
  exact ret1 Tryz.results37 rv_t fun w' hw => ⟨rfl, hw.sub (List.nil_sublist _)⟩

theorem r11_Private_lo (w : World) (a : Int) (h : a < 1) : Pure Tryz.prog 37 [I a] w (.bool false) := by
  refine enter Tryz.func37 Tryz.ntmps37 ?_
  refine c_seq <| c_reg <| s_y y_as <| s_nil <| q_then <| c_seq <| c_reg <| s_y y_mv <| s_kf (y_geq (p := a) (q := 1)) (by omega) <| s_y y_mv <| s_no <| s_no <| s_y y_pk <| s_y y_as <| s_nil <| q_then <| c_ret <| ?_
  exact ret1 Tryz.results37 rv_t fun w' hw => ⟨rfl, hw.sub (List.nil_sublist _)⟩

theorem r11_Private_hi (w : World) (a : Int) (h : 2305843009213688669 ≤ a) : Pure Tryz.prog 37 [I a] w (.bool false) := by
  refine enter Tryz.func37 Tryz.ntmps37 ?_
  refine c_seq <| c_reg <| s_y y_as <| s_nil <| q_then <| c_seq <| c_reg <| s_y y_mv <| s_kt (y_geq (p := a) (q := 1)) (by omega) <| s_y y_mv <| s_y y_mv <| s_kf (y_lss (p := a) (q := 2305843009213688669)) (by omega) <| s_y y_pk <| s_y y_as <| s_nil <| q_then <| c_ret <| ?_
  exact ret1 Tryz.results37 rv_t fun w' hw => ⟨rfl, hw.sub (List.nil_sublist _)⟩

theorem r11_Private_ok (w : World) (a : Int) : Pure Tryz.prog 37 [I a] w (.bool (prv a)) := by
  by_cases h1 : a < 1
  · rw [prv_lo h1]; exact r11_Private_lo w a h1
  by_cases h2 : 2305843009213688669 ≤ a
  · rw [prv_hi h2]; exact r11_Private_hi w a h2
  obtain ⟨x, rfl⟩ : ∃ x : Nat, a = (x : Int) := ⟨a.toNat, by omega⟩
  rw [prv_of (by omega) (by omega)]
  exact r11_Private_yes w x (by omega) (by omega)

theorem demand_ok (w : World) (c : Int) : Pure Tryz.prog 31 [.bool true, I c] w (.tuple #[]) := by
  refine enter Tryz.func31 Tryz.ntmps31 ?_
  refine c_seq <| c_reg <| s_y y_mv <| s_y (v := .bool false) (y_not (b := true)) <| s_nil <| q_then <| c_f <| c_skip <| ?_
  exact ret0 Tryz.results31 (fun w' hw => ⟨rfl, hw⟩) _ (.inr rfl)

theorem demand_dies (w : World) (c : Int) : Dies Tryz.prog 31 [.bool false, I c] w (.iface 53 (.agg #[I c])) := by
  refine enter Tryz.func31 Tryz.ntmps31 ?_
  refine c_seq <| c_reg <| s_y y_mv <| s_y (v := .bool true) (y_not (b := false)) <| s_nil <| q_then <| c_t <| c_reg <| s_y y_mv <| s_y (y_bfail (cs := [I c])) <| s_y y_mki <| s_panic <| ?_
  exact Eng.die fun w' hw => ⟨rfl, hw⟩

theorem must_ok (w : World) (n : Int) : Pure Tryz.prog 19 [I n, I 0] w (I n) := by
  refine enter Tryz.func19 Tryz.ntmps19 ?_
  refine c_seq <| c_reg <| s_y y_as <| s_nil <| q_then <| c_seq <| c_seq <| c_reg <| s_y y_mv <| s_nf (y_neq (p := 0) (q := 0)) (by omega) <| s_nil <| q_then <| c_f <| c_skip <| q_then <| c_seq <| c_reg <| s_y y_mv <| s_y y_as <| s_nil <| q_then <| c_ret <| ?_
  exact ret1 Tryz.results19 rv_t fun w' hw => ⟨rfl, hw.sub (List.nil_sublist _)⟩
theorem rcLock_R (w : World) (b : Nat) : GivesD Tryz.prog 15 [.pointer (some ⟨b, 0, none⟩)] .returning w [] .returning [] :=
  recov (kc := 16) Tryz.func15 rfl Tryz.ntmps15 Tryz.results15 (.inl ⟨rfl, rfl, rfl⟩) ((caught_nil w b).mono fun _ _ h => ⟨(), trivial, h.1, h.2⟩)
theorem rcLock_P (w : World) (b : Nat) (z c : Int) (hp : (Res.blk b (.cells #[I z] 27 (0, 0))).holds w) : GivesD Tryz.prog 15 [.pointer (some ⟨b, 0, none⟩)] (.panicking [{ v := .iface 53 (.agg #[I c]), recovered := false }]) w (keys [.blk b (.cells #[I z] 27 (0, 0))]) (.panicking [{ v := .iface 53 (.agg #[I c]), recovered := true }]) [.blk b (.cells #[I c] 27 (0, 0))] :=
  recov (kc := 16) Tryz.func15 rfl Tryz.ntmps15 Tryz.results15 (.inr ⟨_, rfl, rfl, rfl⟩) (caught_fail w b z c hp)
theorem rcOpen_R (w : World) (b : Nat) : GivesD Tryz.prog 30 [.pointer (some ⟨b, 0, none⟩)] .returning w [] .returning [] :=
  recov (kc := 16) Tryz.func30 rfl Tryz.ntmps30 Tryz.results30 (.inl ⟨rfl, rfl, rfl⟩) ((caught_nil w b).mono fun _ _ h => ⟨(), trivial, h.1, h.2⟩)
theorem rcOpen_P (w : World) (b : Nat) (z c : Int) (hp : (Res.blk b (.cells #[I z] 27 (0, 0))).holds w) : GivesD Tryz.prog 30 [.pointer (some ⟨b, 0, none⟩)] (.panicking [{ v := .iface 53 (.agg #[I c]), recovered := false }]) w (keys [.blk b (.cells #[I z] 27 (0, 0))]) (.panicking [{ v := .iface 53 (.agg #[I c]), recovered := true }]) [.blk b (.cells #[I c] 27 (0, 0))] :=
  recov (kc := 16) Tryz.func30 rfl Tryz.ntmps30 Tryz.results30 (.inr ⟨_, rfl, rfl, rfl⟩) (caught_fail w b z c hp)
theorem rcFactor_R (w : World) (b : Nat) : GivesD Tryz.prog 40 [.pointer (some ⟨b, 0, none⟩)] .returning w [] .returning [] :=
  recov (kc := 16) Tryz.func40 rfl Tryz.ntmps40 Tryz.results40 (.inl ⟨rfl, rfl, rfl⟩) ((caught_nil w b).mono fun _ _ h => ⟨(), trivial, h.1, h.2⟩)
theorem rcFactor_P (w : World) (b : Nat) (z c : Int) (hp : (Res.blk b (.cells #[I z] 27 (0, 0))).holds w) : GivesD Tryz.prog 40 [.pointer (some ⟨b, 0, none⟩)] (.panicking [{ v := .iface 53 (.agg #[I c]), recovered := false }]) w (keys [.blk b (.cells #[I z] 27 (0, 0))]) (.panicking [{ v := .iface 53 (.agg #[I c]), recovered := true }]) [.blk b (.cells #[I c] 27 (0, 0))] :=
  recov (kc := 16) Tryz.func40 rfl Tryz.ntmps40 Tryz.results40 (.inr ⟨_, rfl, rfl, rfl⟩) (caught_fail w b z c hp)
theorem rcTurn_R (w : World) (b : Nat) : GivesD Tryz.prog 42 [.pointer (some ⟨b, 0, none⟩)] .returning w [] .returning [] :=
  recov (kc := 16) Tryz.func42 rfl Tryz.ntmps42 Tryz.results42 (.inl ⟨rfl, rfl, rfl⟩) ((caught_nil w b).mono fun _ _ h => ⟨(), trivial, h.1, h.2⟩)
theorem rcTurn_P (w : World) (b : Nat) (z c : Int) (hp : (Res.blk b (.cells #[I z] 27 (0, 0))).holds w) : GivesD Tryz.prog 42 [.pointer (some ⟨b, 0, none⟩)] (.panicking [{ v := .iface 53 (.agg #[I c]), recovered := false }]) w (keys [.blk b (.cells #[I z] 27 (0, 0))]) (.panicking [{ v := .iface 53 (.agg #[I c]), recovered := true }]) [.blk b (.cells #[I c] 27 (0, 0))] :=
  recov (kc := 16) Tryz.func42 rfl Tryz.ntmps42 Tryz.results42 (.inr ⟨_, rfl, rfl, rfl⟩) (caught_fail w b z c hp)
theorem capCheck_yes (w : World) (x y : Nat) (p : List UInt8) (hx : El x) (hy : El y) (hp : p.length = 32) : Pure Tryz.prog 9 [.agg (I x :: I y :: bs p).toArray] w (I 0) := by
  refine enter Tryz.func9 Tryz.ntmps9 ?_
  refine c_seq <| c_reg <| s_box rfl fun b1 => s_y y_as <| s_nil <| q_then <| c_seq <| c_seq <| c_reg <| s_y y_fa <| s_y (y_ld (b := b1) (v := I (x : Int))) <| s_pure (fun w' hw => gCheck_yes w' x hx) <| s_nf (y_neq (p := 0) (q := 0)) (by omega) <| s_y y_mv <| s_y y_fa <| s_y (y_ld (b := b1) (v := I (y : Int))) <| s_pure (fun w' hw => gCheck_yes w' y hy) <| s_nf (y_neq (p := 0) (q := 0)) (by omega) <| s_y y_pk <| s_nil <| q_then <| c_f <| c_skip <| q_then <| c_seq <| c_reg <| s_y y_as <| s_nil <| q_then <| c_ret <| ?_
  exact ret1 Tryz.results9 rv_t fun w' hw => ⟨rfl, hw.sub (List.nil_sublist _)⟩

theorem capCheck_no1 (w : World) (a b : Int) (p : List UInt8) (ha : el a = false) (hp : p.length = 32) : Pure Tryz.prog 9 [.agg (I a :: I b :: bs p).toArray] w (I 110) := by
  refine enter Tryz.func9 Tryz.ntmps9 ?_
  refine c_seq <| c_reg <| s_box rfl fun b1 => s_y y_as <| s_nil <| q_then <| c_seq <| c_seq <| c_reg <| s_y y_fa <| s_y (y_ld (b := b1) (v := I a)) <| s_pure (fun w' hw => gCheck_no w' a ha) <| s_nt (y_neq (p := 40) (q := 0)) (by omega) <| s_y y_mv <| s_no <| s_no <| s_no <| s_no <| s_y y_pk <| s_nil <| q_then <| c_t <| c_seq <| c_reg <| s_y y_as <| s_nil <| q_then <| c_ret <| q_ret <| ?_
  exact ret1 Tryz.results9 rv_t fun w' hw => ⟨rfl, hw.sub (List.nil_sublist _)⟩

theorem capCheck_no2 (w : World) (x : Nat) (b : Int) (p : List UInt8) (hx : El x) (hb : el b = false) (hp : p.length = 32) : Pure Tryz.prog 9 [.agg (I x :: I b :: bs p).toArray] w (I 110) := by
  refine enter Tryz.func9 Tryz.ntmps9 ?_
  refine c_seq <| c_reg <| s_box rfl fun b1 => s_y y_as <| s_nil <| q_then <| c_seq <| c_seq <| c_reg <| s_y y_fa <| s_y (y_ld (b := b1) (v := I (x : Int))) <| s_pure (fun w' hw => gCheck_yes w' x hx) <| s_nf (y_neq (p := 0) (q := 0)) (by omega) <| s_y y_mv <| s_y y_fa <| s_y (y_ld (b := b1) (v := I b)) <| s_pure (fun w' hw => gCheck_no w' b hb) <| s_nt (y_neq (p := 40) (q := 0)) (by omega) <| s_y y_pk <| s_nil <| q_then <| c_t <| c_seq <| c_reg <| s_y y_as <| s_nil <| q_then <| c_ret <| q_ret <| ?_
  exact ret1 Tryz.results9 rv_t fun w' hw => ⟨rfl, hw.sub (List.nil_sublist _)⟩

theorem capCheck_no (w : World) (a b : Int) (p : List UInt8) (hp : p.length = 32) (h : (el a && el b) = false) : Pure Tryz.prog 9 [.agg (I a :: I b :: bs p).toArray] w (I 110) := by
  cases ha : el a with
  | false => exact capCheck_no1 w a b p ha hp
  | true =>
    rw [ha, Bool.true_and] at h
    obtain ⟨x, rfl, h0, h1, h2⟩ := el_nat ha
    exact capCheck_no2 w x b p ⟨h0, h1, h2⟩ h hp

theorem r11_Check_yes (w : World) (x y : Nat) (p : List UInt8) (hx : El x) (hy : El y) (hp : p.length = 32) : Pure Tryz.prog 10 [.agg (I x :: I y :: bs p).toArray] w (I 0) := by
  refine enter Tryz.func10 Tryz.ntmps10 ?_
  refine c_seq <| c_reg <| s_box rfl fun b1 => s_y y_as <| s_nil <| q_then <| c_seq <| c_seq <| c_reg <| s_y y_fa <| s_y (y_ld (b := b1) (v := I (x : Int))) <| s_pure (fun w' hw => rCheck_yes w' x hx) <| s_nf (y_neq (p := 0) (q := 0)) (by omega) <| s_y y_mv <| s_y y_fa <| s_y (y_ld (b := b1) (v := I (y : Int))) <| s_pure (fun w' hw => rCheck_yes w' y hy) <| s_nf (y_neq (p := 0) (q := 0)) (by omega) <| s_y y_pk <| s_nil <| q_then <| c_f <| c_skip <| q_then <| c_seq <| c_reg <| s_y y_as <| s_nil <| q_then <| c_ret <| ?_
  exact ret1 Tryz.results10 rv_t fun w' hw => ⟨rfl, hw.sub (List.nil_sublist _)⟩

theorem r11_Check_no1 (w : World) (a b : Int) (p : List UInt8) (ha : el a = false) (hp : p.length = 32) : Pure Tryz.prog 10 [.agg (I a :: I b :: bs p).toArray] w (I 110) := by
  refine enter Tryz.func10 Tryz.ntmps10 ?_
  refine c_seq <| c_reg <| s_box rfl fun b1 => s_y y_as <| s_nil <| q_then <| c_seq <| c_seq <| c_reg <| s_y y_fa <| s_y (y_ld (b := b1) (v := I a)) <| s_pure (fun w' hw => rCheck_no w' a ha) <| s_nt (y_neq (p := 40) (q := 0)) (by omega) <| s_y y_mv <| s_no <| s_no <| s_no <| s_no <| s_y y_pk <| s_nil <| q_then <| c_t <| c_seq <| c_reg <| s_y y_as <| s_nil <| q_then <| c_ret <| q_ret <| ?_
  exact ret1 Tryz.results10 rv_t fun w' hw => ⟨rfl, hw.sub (List.nil_sublist _)⟩

theorem r11_Check_no2 (w : World) (x : Nat) (b : Int) (p : List UInt8) (hx : El x) (hb : el b = false) (hp : p.length = 32) : Pure Tryz.prog 10 [.agg (I x :: I b :: bs p).toArray] w (I 110) := by
  refine enter Tryz.func10 Tryz.ntmps10 ?_
  refine c_seq <| c_reg <| s_box rfl fun b1 => s_y y_as <| s_nil <| q_then <| c_seq <| c_seq <| c_reg <| s_y y_fa <| s_y (y_ld (b := b1) (v := I (x : Int))) <| s_pure (fun w' hw => rCheck_yes w' x hx) <| s_nf (y_neq (p := 0) (q := 0)) (by omega) <| s_y y_mv <| s_y y_fa <| s_y (y_ld (b := b1) (v := I b)) <| s_pure (fun w' hw => rCheck_no w' b hb) <| s_nt (y_neq (p := 40) (q := 0)) (by omega) <| s_y y_pk <| s_nil <| q_then <| c_t <| c_seq <| c_reg <| s_y y_as <| s_nil <| q_then <| c_ret <| q_ret <| ?_
  exact ret1 Tryz.results10 rv_t fun w' hw => ⟨rfl, hw.sub (List.nil_sublist _)⟩

theorem r11_Check_no (w : World) (a b : Int) (p : List UInt8) (hp : p.length = 32) (h : (el a && el b) = false) : Pure Tryz.prog 10 [.agg (I a :: I b :: bs p).toArray] w (I 110) := by
  cases ha : el a with
  | false => exact r11_Check_no1 w a b p ha hp
  | true =>
    rw [ha, Bool.true_and] at h
    obtain ⟨x, rfl, h0, h1, h2⟩ := el_nat ha
    exact r11_Check_no2 w x b p ⟨h0, h1, h2⟩ h hp

theorem Factor_no1 (w : World) (a b : Int) (hn : prv a = false) : Pure Tryz.prog 12 [I a, I b] w (.tuple #[I 0, I 50]) := by
  refine enterD Tryz.func12 Tryz.ntmps12 ?_
  refine c_seq <| c_reg <| s_y y_as <| s_alloc fun b5 => s_nil <| q_then <| c_seq <| c_reg <| s_y y_func <| s_deferC <| s_nil <| q_then <| c_seq <| c_reg <| s_y y_mv <| s_pure (fun w' hw => (by have h9 := isPrivate_ok w' a; rw [hn] at h9; exact h9)) <| s_y y_mv <| s_no <| s_no <| s_y y_pk <| s_dies (fun w' hw => demand_dies w' 50) <| q_pt <| ?_
  exact leave_P (fun w' hw => rcFactor_P w' b5 0 50 (hw.own _ (.head _)).1) Tryz.results12 (.refl _) (.cons rv_t (.cons (rv_cf (b := b5) (v := I 50)) .nil)) fun w' hw => ⟨rfl, hw.sub (List.nil_sublist _)⟩

theorem Factor_no2 (w : World) (x : Nat) (a : Int) (hx0 : 0 < x) (hx : x < 2305843009213688669) (hn : prv a = false) : Pure Tryz.prog 12 [I x, I a] w (.tuple #[I 0, I 50]) := by
  refine enterD Tryz.func12 Tryz.ntmps12 ?_
  refine c_seq <| c_reg <| s_y y_as <| s_alloc fun b5 => s_nil <| q_then <| c_seq <| c_reg <| s_y y_func <| s_deferC <| s_nil <| q_then <| c_seq <| c_reg <| s_y y_mv <| s_pure (fun w' hw => isPrivate_yes w' x hx0 hx) <| s_y y_mv <| s_y y_mv <| s_pure (fun w' hw => (by have h9 := isPrivate_ok w' a; rw [hn] at h9; exact h9)) <| s_y y_pk <| s_dies (fun w' hw => demand_dies w' 50) <| q_pt <| ?_
  exact leave_P (fun w' hw => rcFactor_P w' b5 0 50 (hw.own _ (.head _)).1) Tryz.results12 (.refl _) (.cons rv_t (.cons (rv_cf (b := b5) (v := I 50)) .nil)) fun w' hw => ⟨rfl, hw.sub (List.nil_sublist _)⟩

theorem Factor_yes (w : World) (x y : Nat) (hx0 : 0 < x) (hx : x < 2305843009213688669) (hy0 : 0 < y) (hy : y < 2305843009213688669) : Pure Tryz.prog 12 [I x, I y] w (.tuple #[I (y * qq x 2305843009213688667 % 2305843009213688669 : Nat), I 0]) := by
  refine enterD Tryz.func12 Tryz.ntmps12 ?_
  refine c_seq <| c_reg <| s_y y_as <| s_alloc fun b5 => s_nil <| q_then <| c_seq <| c_reg <| s_y y_func <| s_deferC <| s_nil <| q_then <| c_seq <| c_reg <| s_y y_mv <| s_pure (fun w' hw => isPrivate_yes w' x hx0 hx) <| s_y y_mv <| s_y y_mv <| s_pure (fun w' hw => isPrivate_yes w' y hy0 hy) <| s_y y_pk <| s_pure (fun w' hw => demand_ok w' 50) <| s_nil <| q_then <| c_seq <| c_reg <| s_y y_mv <| s_y y_mv <| s_pure (fun w' hw => f_Inv_yes w' x hx0 hx) <| s_y y_ext <| s_y y_ext <| s_pure (fun w' hw => must_ok w' ((qq x 2305843009213688667 : Nat) : Int)) <| s_pure (fun w' hw => f_Mul_yes w' y (qq x 2305843009213688667) hy (qq_lt _ _)) <| s_y y_ext <| s_y y_ext <| s_pure (fun w' hw => must_ok w' ((y * (qq x 2305843009213688667) % 2305843009213688669 : Nat) : Int)) <| s_y y_as <| s_st (b := b5) (v := I 0) (cs := #[I 0]) (hl := by decide) ?_
  refine s_nil <| q_then <| c_ret <| ?_
  exact leave_R (cs := [.pointer (some ⟨b5, 0, none⟩)]) (fun w' hw => rcFactor_R w' b5) Tryz.results12 (.cons rv_t (.cons (rv_cf (v := I 0)) .nil)) fun w' hw => ⟨rfl, hw.sub (List.nil_sublist _)⟩

theorem Turn_no1 (w : World) (a : Int) (b c : Int) (p : List UInt8) (hp : p.length = 32) (hn : prv a = false) : Pure Tryz.prog 13 [I a, .agg (I b :: I c :: bs p).toArray] w (.tuple #[.agg (I 0 :: I 0 :: bs (List.replicate 32 0)).toArray, I 50]) := by
  refine enterD Tryz.func13 Tryz.ntmps13 ?_
  refine c_seq <| c_reg <| s_box rfl fun b3 => s_alloc fun b4 => s_alloc fun b5 => s_nil <| q_then <| c_seq <| c_reg <| s_y y_func <| s_deferC <| s_nil <| q_then <| c_seq <| c_reg <| s_y y_mv <| s_pure (fun w' hw => (by have h9 := isPrivate_ok w' a; rw [hn] at h9; exact h9)) <| s_dies (fun w' hw => demand_dies w' 50) <| q_pt <| ?_
  exact leave_P (fun w' hw => rcTurn_P w' b5 0 50 (hw.own _ (.head _)).1) Tryz.results13 (.refl _) (.cons (rv_ca (b := b4) (cs := (I 0 :: I 0 :: bs (List.replicate 32 0)).toArray) (hl := (by simp [bs_length, List.length_replicate]))) (.cons (rv_cf (b := b5) (v := I 50)) .nil)) fun w' hw => ⟨rfl, hw.sub (List.nil_sublist _)⟩

theorem Turn_no2 (w : World) (x : Nat) (b c : Int) (p : List UInt8) (hp : p.length = 32) (hx0 : 0 < x) (hx : x < 2305843009213688669) (hc : (el b && el c) = false) : Pure Tryz.prog 13 [I x, .agg (I b :: I c :: bs p).toArray] w (.tuple #[.agg (I 0 :: I 0 :: bs (List.replicate 32 0)).toArray, I 110]) := by
  refine enterD Tryz.func13 Tryz.ntmps13 ?_
  refine c_seq <| c_reg <| s_box rfl fun b3 => s_alloc fun b4 => s_alloc fun b5 => s_nil <| q_then <| c_seq <| c_reg <| s_y y_func <| s_deferC <| s_nil <| q_then <| c_seq <| c_reg <| s_y y_mv <| s_pure (fun w' hw => isPrivate_yes w' x hx0 hx) <| s_pure (fun w' hw => demand_ok w' 50) <| s_nil <| q_then <| c_seq <| c_reg <| s_y (y_lda (b := b3) (cs := (I b :: I c :: bs p).toArray) (hl := (by simp [bs_length, hp]))) <| s_pure (fun w' hw => capCheck_no w' b c p hp hc) <| s_kf (y_eql (p := 110) (q := 0)) (by omega) <| s_dies (fun w' hw => demand_dies w' 110) <| q_pt <| ?_
  exact leave_P (fun w' hw => rcTurn_P w' b5 0 110 (hw.own _ (.head _)).1) Tryz.results13 (.refl _) (.cons (rv_ca (b := b4) (cs := (I 0 :: I 0 :: bs (List.replicate 32 0)).toArray) (hl := (by simp [bs_length, List.length_replicate]))) (.cons (rv_cf (b := b5) (v := I 110)) .nil)) fun w' hw => ⟨rfl, hw.sub (List.nil_sublist _)⟩

theorem Turn_yes (w : World) (x : Nat) (u v : Nat) (p : List UInt8) (hu : El u) (hv : El v) (hp : p.length = 32) (hx0 : 0 < x) (hx : x < 2305843009213688669) : Pure Tryz.prog 13 [I x, .agg (I u :: I v :: bs p).toArray] w (.tuple #[.agg (I (pp u x : Nat) :: I v :: bs p).toArray, I 0]) := by
  refine enterD Tryz.func13 Tryz.ntmps13 ?_
  refine c_seq <| c_reg <| s_box rfl fun b3 => s_alloc fun b4 => s_alloc fun b5 => s_nil <| q_then <| c_seq <| c_reg <| s_y y_func <| s_deferC <| s_nil <| q_then <| c_seq <| c_reg <| s_y y_mv <| s_pure (fun w' hw => isPrivate_yes w' x hx0 hx) <| s_pure (fun w' hw => demand_ok w' 50) <| s_nil <| q_then <| c_seq <| c_reg <| s_y (y_lda (b := b3) (cs := (I (u : Int) :: I (v : Int) :: bs p).toArray) (hl := (by simp [bs_length, hp]))) <| s_pure (fun w' hw => capCheck_yes w' u v p hu hv hp) <| s_kt (y_eql (p := 0) (q := 0)) (by omega) <| s_pure (fun w' hw => demand_ok w' 110) <| s_nil <| q_then <| c_seq <| c_reg <| s_y y_fa <| s_y (y_ld (b := b3) (v := I (u : Int))) <| s_y y_mv <| s_pure (fun w' hw => gExp_yes w' u x hu hx) <| s_y y_ext <| s_y y_ext <| s_pure (fun w' hw => must_ok w' ((pp u x : Nat) : Int)) <| s_y y_fa <| s_st (b := b3) (v := I ((pp u x : Nat) : Int)) (cs := (I (u : Int) :: I (v : Int) :: bs p).toArray) (hl := by simp) ?_
  rw [show ((I (u : Int) :: I (v : Int) :: bs p).toArray).setIfInBounds 0 (I ((pp u x : Nat) : Int)) = (I ((pp u x : Nat) : Int) :: I (v : Int) :: bs p).toArray by simp]
  refine s_nil <| q_then <| c_seq <| c_reg <| s_y (y_lda (b := b3) (cs := (I ((pp u x : Nat) : Int) :: I (v : Int) :: bs p).toArray) (hl := (by simp [bs_length, hp]))) <| s_sta (b := b4) (vs := (I ((pp u x : Nat) : Int) :: I (v : Int) :: bs p).toArray) (cs := (I 0 :: I 0 :: bs (List.replicate 32 0)).toArray) (h1 := one_cap) (hl := by simp [bs_length, List.length_replicate, hp]) (hs1 := (by simp [bs_length, hp])) ?_
  refine s_st (b := b5) (v := I 0) (cs := #[I 0]) (hl := by decide) ?_
  refine s_nil <| q_then <| c_ret <| ?_
  exact leave_R (cs := [.pointer (some ⟨b5, 0, none⟩)]) (fun w' hw => rcTurn_R w' b5) Tryz.results13 (.cons (rv_ca (hl := (by simp [bs_length, hp]))) (.cons (rv_cf (v := I 0)) .nil)) fun w' hw => ⟨rfl, hw.sub (List.nil_sublist _)⟩

theorem Open2_ok (w : World) (b3 b2 x u : Nat) (B : Int) (p : List UInt8) (hu : El u) (hx0 : 0 < x) (hx : x < 2305843009213688669) (hc : Rd w (some ⟨b3, 0, none⟩) (I u :: I B :: bs p)) (h2 : Rd w (some ⟨b2, 0, none⟩) [I x]) : Pure Tryz.prog 33 [.pointer (some ⟨b3, 0, none⟩), .pointer (some ⟨b2, 0, none⟩)] w (I (pp u (qq x 2305843009213688667) : Nat)) := by
  refine enter Tryz.func33 Tryz.ntmps33 ?_
  refine c_seq <| c_reg <| s_y y_as <| s_nil <| q_then <| c_seq <| c_regd <| d_y y_fa <| d_y (y_ldr (a := some ⟨b3, 0, none⟩) (i := 0) (xs := (I (u : Int) :: I B :: bs p)) (v := I (u : Int)) rfl (hr := rdW0 hc)) <| d_y (y_ldr (a := some ⟨b2, 0, none⟩) (i := 0) (xs := [I (x : Int)]) (v := I (x : Int)) rfl (hr := rdW0 h2)) <| d_pure (fun w' hw => f_Inv_yes w' x hx0 hx) <| d_y y_ext <| d_y y_ext <| d_pure (fun w' hw => must_ok w' ((qq x 2305843009213688667 : Nat) : Int)) <| d_pure (fun w' hw => gExp_yes w' u (qq x 2305843009213688667) hu (qq_lt _ _)) <| d_y y_ext <| d_y y_ext <| d_pure (fun w' hw => must_ok w' ((pp u (qq x 2305843009213688667) : Nat) : Int)) <| d_y y_as <| d_nil <| q_then <| c_ret <| ?_
  exact ret1 Tryz.results33 rv_t fun w' hw => ⟨rfl, hw.sub (List.nil_sublist _)⟩

theorem Open3_ok (w : World) (b3 z v : Nat) (A : Int) (p : List UInt8) (hz : El z) (hv : El v) (hc : Rd w (some ⟨b3, 0, none⟩) (I A :: I v :: bs p)) : Pure Tryz.prog 35 [I z, .pointer (some ⟨b3, 0, none⟩)] w (I (v * pp z 2305843009213688668 % 4611686018427377339 : Nat)) := by
  refine enter Tryz.func35 Tryz.ntmps35 ?_
  refine c_seq <| c_reg <| s_y y_as <| s_nil <| q_then <| c_seq <| c_regd <| d_y y_fa <| d_y (y_ldr (a := some ⟨b3, 0, none⟩) (i := 1) (xs := (I A :: I (v : Int) :: bs p)) (v := I (v : Int)) rfl (hr := rdW0 hc)) <| d_y y_mv <| d_pure (fun w' hw => (by have h9 := gInv_ok w' (z : Int); rw [inv_V hz, inv_E hz] at h9; exact h9)) <| d_y y_ext <| d_y y_ext <| d_pure (fun w' hw => must_ok w' ((pp z 2305843009213688668 : Nat) : Int)) <| d_pure (fun w' hw => (by have h9 := gMul_ok w' (v : Int) ((pp z 2305843009213688668 : Nat) : Int); rw [mul_V hv ((hz).pow _), mul_E hv ((hz).pow _)] at h9; exact h9)) <| d_y y_ext <| d_y y_ext <| d_pure (fun w' hw => must_ok w' ((v * (pp z 2305843009213688668) % 4611686018427377339 : Nat) : Int)) <| d_y y_as <| d_nil <| q_then <| c_ret <| ?_
  exact ret1 Tryz.results35 rv_t fun w' hw => ⟨rfl, hw.sub (List.nil_sublist _)⟩

theorem Open_no1 (w : World) (a : Int) (b c : Int) (p : List UInt8) (hp : p.length = 32) (hn : prv a = false) : Pure Tryz.prog 7 [I a, .agg (I b :: I c :: bs p).toArray] w (.tuple #[.agg (bs (List.replicate 32 0)).toArray, I 50]) := by
  refine enterD Tryz.func7 Tryz.ntmps7 ?_
  refine c_seq <| c_reg <| s_box rfl fun b2 => s_box rfl fun b3 => s_alloc fun b4 => s_alloc fun b5 => s_nil <| q_then <| c_seq <| c_reg <| s_y y_func <| s_deferC <| s_nil <| q_then <| c_seq <| c_reg <| s_y (y_ld (b := b2) (v := I a)) <| s_pure (fun w' hw => (by have h9 := isPrivate_ok w' a; rw [hn] at h9; exact h9)) <| s_dies (fun w' hw => demand_dies w' 50) <| q_pt <| ?_
  exact leave_P (fun w' hw => rcOpen_P w' b5 0 50 (hw.own _ (.head _)).1) Tryz.results7 (.refl _) (.cons (rv_ca (b := b4) (cs := (bs (List.replicate 32 0)).toArray) (hl := (hz32 List.length_replicate))) (.cons (rv_cf (b := b5) (v := I 50)) .nil)) fun w' hw => ⟨rfl, hw.sub (List.nil_sublist _)⟩

theorem Open_no2 (w : World) (x : Nat) (b c : Int) (p : List UInt8) (hp : p.length = 32) (hx0 : 0 < x) (hx : x < 2305843009213688669) (hc : (el b && el c) = false) : Pure Tryz.prog 7 [I x, .agg (I b :: I c :: bs p).toArray] w (.tuple #[.agg (bs (List.replicate 32 0)).toArray, I 110]) := by
  refine enterD Tryz.func7 Tryz.ntmps7 ?_
  refine c_seq <| c_reg <| s_box rfl fun b2 => s_box rfl fun b3 => s_alloc fun b4 => s_alloc fun b5 => s_nil <| q_then <| c_seq <| c_reg <| s_y y_func <| s_deferC <| s_nil <| q_then <| c_seq <| c_reg <| s_y (y_ld (b := b2) (v := I (x : Int))) <| s_pure (fun w' hw => isPrivate_yes w' x hx0 hx) <| s_pure (fun w' hw => demand_ok w' 50) <| s_nil <| q_then <| c_seq <| c_reg <| s_y (y_lda (b := b3) (cs := (I b :: I c :: bs p).toArray) (hl := (by simp [bs_length, hp]))) <| s_pure (fun w' hw => capCheck_no w' b c p hp hc) <| s_kf (y_eql (p := 110) (q := 0)) (by omega) <| s_dies (fun w' hw => demand_dies w' 110) <| q_pt <| ?_
  exact leave_P (fun w' hw => rcOpen_P w' b5 0 110 (hw.own _ (.head _)).1) Tryz.results7 (.refl _) (.cons (rv_ca (b := b4) (cs := (bs (List.replicate 32 0)).toArray) (hl := (hz32 List.length_replicate))) (.cons (rv_cf (b := b5) (v := I 110)) .nil)) fun w' hw => ⟨rfl, hw.sub (List.nil_sublist _)⟩

theorem Open_yes (w : World) (x : Nat) (u v : Nat) (p : List UInt8) (hu : El u) (hv : El v) (hp : p.length = 32) (hx0 : 0 < x) (hx : x < 2305843009213688669) (hg : LS w) : Pure Tryz.prog 7 [I x, .agg (I u :: I v :: bs p).toArray] w (.tuple #[.agg (bs (xr p (msk (v * pp (pp u (qq x 2305843009213688667)) 2305843009213688668 % 4611686018427377339 : Nat)))).toArray, I 0]) := by
  refine enterD Tryz.func7 Tryz.ntmps7 ?_
  refine c_seq <| c_reg <| s_box rfl fun b2 => s_box rfl fun b3 => s_alloc fun b4 => s_alloc fun b5 => s_nil <| q_then <| c_seq <| c_reg <| s_y y_func <| s_deferC <| s_nil <| q_then <| c_seq <| c_reg <| s_y (y_ld (b := b2) (v := I (x : Int))) <| s_pure (fun w' hw => isPrivate_yes w' x hx0 hx) <| s_pure (fun w' hw => demand_ok w' 50) <| s_nil <| q_then <| c_seq <| c_reg <| s_y (y_lda (b := b3) (cs := (I (u : Int) :: I (v : Int) :: bs p).toArray) (hl := (by simp [bs_length, hp]))) <| s_pure (fun w' hw => capCheck_yes w' u v p hu hv hp) <| s_kt (y_eql (p := 0) (q := 0)) (by omega) <| s_pure (fun w' hw => demand_ok w' 110) <| s_nil <| q_then <| c_seq <| c_reg <| s_y y_func <| s_y y_func <| s_y (y_bdir (cs := [.func (.func 33) #[] #[.pointer (some ⟨b3, 0, none⟩), .pointer (some ⟨b2, 0, none⟩)], .func (.func 35) #[] #[.pointer (some ⟨b3, 0, none⟩)]])) <| s_alloc fun b6 => s_sta (b := b6) (vs := #[.func (.func 33) #[] #[.pointer (some ⟨b3, 0, none⟩), .pointer (some ⟨b2, 0, none⟩)], .func (.func 35) #[] #[.pointer (some ⟨b3, 0, none⟩)]]) (cs := #[.nilFunc, .nilFunc]) (h1 := by intro u hu; simp at hu; rcases hu with rfl | rfl <;> rfl) (hl := rfl) (hs1 := rfl) ?_
  refine s_nil <| q_then <| c_seq <| c_regL [.blk b6 (.cells #[.func (.func 33) #[] #[.pointer (some ⟨b3, 0, none⟩), .pointer (some ⟨b2, 0, none⟩)], .func (.func 35) #[] #[.pointer (some ⟨b3, 0, none⟩)]] 46 (0, 0)), .blk b3 (.cells (I (u : Int) :: I (v : Int) :: bs p).toArray 25 (0, 0)), .blk b2 (.cells #[I (x : Int)] 3 (0, 0))] <| r_y 0 rfl y_fa <| r_y 1 rfl (y_ldin (b := b3) (off := 2) (cs := (I (u : Int) :: I (v : Int) :: bs p).toArray) (ys := bs p) (hl := (by rw [bs_length, hp])) (hv := fun j v h => by rw [List.getElem?_toArray, Nat.add_comm]; exact h)) <| r_y 2 rfl y_fa <| r_y 3 rfl (y_ld (b := b6) (v := .func (.func 35) #[] #[.pointer (some ⟨b3, 0, none⟩)])) <| r_y 4 rfl y_fa <| r_y 5 rfl (y_ld (b := b6) (v := .func (.func 33) #[] #[.pointer (some ⟨b3, 0, none⟩), .pointer (some ⟨b2, 0, none⟩)])) <| r_W 6 rfl <| s_pure (fun w' hw => Open2_ok w' b3 b2 x u (v : Int) p hu hx0 hx (rd_blk (b := b3) (cs := (I (u : Int) :: I (v : Int) :: bs p).toArray) (.tail _ (.tail _ (.tail _ (.head _)))) w' hw) (rd_blk (b := b2) (cs := #[I (x : Int)]) (.tail _ (.tail _ (.tail _ (.tail _ (.head _))))) w' hw)) <| r_K <| r_W 7 rfl <| s_pure (fun w' hw => Open3_ok w' b3 (pp u (qq x 2305843009213688667)) v (u : Int) p ((hu).pow _) hv (rd_blk (b := b3) (cs := (I (u : Int) :: I (v : Int) :: bs p).toArray) (.tail _ (.tail _ (.tail _ (.head _)))) w' hw)) <| r_K <| r_W 8 rfl <| s_pure (fun w' hw => combine_ok w' p ((v * pp (pp u (qq x 2305843009213688667)) 2305843009213688668 % 4611686018427377339 : Nat) : Int) (hg.st hw) hp (((hv).mul (((hu).pow _).pow _)).r64)) <| r_K <| r_W 9 rfl <| s_sta (b := b4) (vs := (bs (xr p (msk ((v * pp (pp u (qq x 2305843009213688667)) 2305843009213688668 % 4611686018427377339 : Nat) : Int)))).toArray) (cs := (bs (List.replicate 32 0)).toArray) (h1 := fun v hv => bs_one (by simpa using hv)) (hl := by rw [(hz32 (cmb_length hp _)), (hz32 List.length_replicate)]) (hs1 := (hz32 (cmb_length hp _))) ?_
  refine r_K <| r_W 10 rfl <| s_st (b := b5) (v := I 0) (cs := #[I 0]) (hl := by decide) ?_
  refine r_K <| r_E <| q_then <| c_ret <| ?_
  exact leave_R (cs := [.pointer (some ⟨b5, 0, none⟩)]) (fun w' hw => rcOpen_R w' b5) Tryz.results7 (.cons (rv_ca (hl := (hz32 (cmb_length hp _)))) (.cons (rv_cf (v := I 0)) .nil)) fun w' hw => ⟨rfl, hw.sub (List.nil_sublist _)⟩

theorem Lock2_ok (w : World) (b3 b8 y r : Nat) (hy : El y) (hr : r < 2305843009213688669) (h3 : Rd w (some ⟨b3, 0, none⟩) [I y]) (h8 : Rd w (some ⟨b8, 0, none⟩) [I r]) : Pure Tryz.prog 18 [.pointer (some ⟨b3, 0, none⟩), .pointer (some ⟨b8, 0, none⟩)] w (I (pp y r : Nat)) := by
  refine enter Tryz.func18 Tryz.ntmps18 ?_
  refine c_seq <| c_reg <| s_y y_as <| s_nil <| q_then <| c_seq <| c_reg <| s_y (y_ldr (a := some ⟨b3, 0, none⟩) (i := 0) (xs := [I (y : Int)]) (v := I (y : Int)) rfl (hr := rdW0 h3)) <| s_y (y_ldr (a := some ⟨b8, 0, none⟩) (i := 0) (xs := [I (r : Int)]) (v := I (r : Int)) rfl (hr := rdW0 h8)) <| s_pure (fun w' hw => gExp_yes w' y r hy hr) <| s_y y_ext <| s_y y_ext <| s_pure (fun w' hw => must_ok w' ((pp y r : Nat) : Int)) <| s_y y_as <| s_nil <| q_then <| c_ret <| ?_
  exact ret1 Tryz.results18 rv_t fun w' hw => ⟨rfl, hw.sub (List.nil_sublist _)⟩

theorem Lock3_ok (w : World) (b5 z : Nat) (s : List UInt8) (hz : El z) (hs : s.length = 32) (h5 : Rd w (some ⟨b5, 0, none⟩) (bs s)) (hg : LS w) : Pure Tryz.prog 21 [I z, .pointer (some ⟨b5, 0, none⟩)] w (I (pp 4 (dscal s lbMask) * z % 4611686018427377339 : Nat)) := by
  refine enter Tryz.func21 Tryz.ntmps21 ?_
  refine c_seq <| c_reg <| s_y y_as <| s_nil <| q_then <| c_seq <| c_reg <| s_y (y_ldra (a := some ⟨b5, 0, none⟩) (i := 0) (xs := bs s) (cs := bs s) (rdW0 h5) (by rw [bs_length, hs]) (fun j v h => by rw [Nat.add_comm]; exact h)) <| s_pure (fun w' hw => derive_Scalar_ok w' s lbMask (hg.st hw) hs (by decide)) <| s_pure (fun w' hw => (by have h9 := gBase_ok w' ((dscal s lbMask : Nat) : Int); rw [base_V (k := dscal s lbMask) ((scal_lt _ _).2), base_E (k := dscal s lbMask) ((scal_lt _ _).2)] at h9; exact h9)) <| s_y y_ext <| s_y y_ext <| s_pure (fun w' hw => must_ok w' ((pp 4 (dscal s lbMask) : Nat) : Int)) <| s_y y_mv <| s_pure (fun w' hw => (by have h9 := gMul_ok w' ((pp 4 (dscal s lbMask) : Nat) : Int) (z : Int); rw [mul_V (El.four.pow _) hz, mul_E (El.four.pow _) hz] at h9; exact h9)) <| s_y y_ext <| s_y y_ext <| s_pure (fun w' hw => must_ok w' (((pp 4 (dscal s lbMask)) * z % 4611686018427377339 : Nat) : Int)) <| s_y y_as <| s_nil <| q_then <| c_ret <| ?_
  exact ret1 Tryz.results21 rv_t fun w' hw => ⟨rfl, hw.sub (List.nil_sublist _)⟩

theorem Lock_no (w : World) (a : Int) (k s : List UInt8) (hk : k.length = 32) (hs : s.length = 32) (ha : el a = false) : Pure Tryz.prog 5 [I a, .agg (bs k).toArray, .agg (bs s).toArray] w (.tuple #[.agg (I 0 :: I 0 :: bs (List.replicate 32 0)).toArray, I 40]) := by
  refine enterD Tryz.func5 Tryz.ntmps5 ?_
  refine c_seq <| c_reg <| s_box rfl fun b3 => s_box rfl fun b4 => s_box rfl fun b5 => s_alloc fun b6 => s_alloc fun b7 => s_nil <| q_then <| c_seq <| c_seq <| c_reg <| s_y (y_ld (b := b3) (v := I a)) <| s_pure (fun w' hw => gCheck_no w' a ha) <| s_st (b := b7) (v := I 40) (cs := #[I 0]) (hl := by decide) ?_
  refine s_nil <| q_then <| c_seq <| c_reg <| s_y (y_ld (b := b7) (v := I 40)) <| s_nt (y_neq (p := 40) (q := 0)) (by omega) <| s_nil <| q_then <| c_t <| c_seq <| c_regL [.blk b7 (.cells #[I 40] 27 (0, 0)), .blk b6 (.cells (I 0 :: I 0 :: bs (List.replicate 32 0)).toArray 25 (0, 0)), .blk b5 (.cells (bs s).toArray 23 (0, 0)), .blk b4 (.cells (bs k).toArray 23 (0, 0)), .blk b3 (.cells #[I a] 3 (0, 0))] <| r_y 0 rfl (y_lda (b := b6) (cs := (I 0 :: I 0 :: bs (List.replicate 32 0)).toArray) (hl := (by simp [bs_length, List.length_replicate]))) <| r_y 1 rfl (y_ld (b := b7) (v := I 40)) <| r_W 2 rfl <| s_sta (b := b6) (vs := (I 0 :: I 0 :: bs (List.replicate 32 0)).toArray) (cs := (I 0 :: I 0 :: bs (List.replicate 32 0)).toArray) (h1 := one_cap) (hl := by simp [bs_length, List.length_replicate]) (hs1 := (by simp [bs_length, List.length_replicate])) ?_
  refine r_K <| r_W 3 rfl <| s_st (b := b7) (v := I 40) (cs := #[I 40]) (hl := by decide) ?_
  refine r_K <| r_E <| q_then <| c_ret <| q_ret <| ?_
  exact ret_0D Tryz.results5 (.cons (rv_ca (hl := (by simp [bs_length, List.length_replicate]))) (.cons (rv_cf (v := I 40)) .nil)) fun w' hw => ⟨rfl, hw.sub (List.nil_sublist _)⟩

theorem Lock_yes (w : World) (y : Nat) (k s : List UInt8) (hk : k.length = 32) (hs : s.length = 32) (hy : El y) (hg : LS w) : Pure Tryz.prog 5 [I y, .agg (bs k).toArray, .agg (bs s).toArray] w (.tuple #[.agg (I (pp y (dscal s lbLock) : Nat) :: I (pp 4 (dscal s lbMask) * pp 4 (dscal s lbLock) % 4611686018427377339 : Nat) :: bs (xr k (msk (pp 4 (dscal s lbMask) * 1 % 4611686018427377339 : Nat)))).toArray, I 0]) := by
  refine enterD Tryz.func5 Tryz.ntmps5 ?_
  refine c_seq <| c_reg <| s_box rfl fun b3 => s_box rfl fun b4 => s_box rfl fun b5 => s_alloc fun b6 => s_alloc fun b7 => s_nil <| q_then <| c_seq <| c_seq <| c_reg <| s_y (y_ld (b := b3) (v := I (y : Int))) <| s_pure (fun w' hw => gCheck_yes w' y hy) <| s_st (b := b7) (v := I 0) (cs := #[I 0]) (hl := by decide) ?_
  refine s_nil <| q_then <| c_seq <| c_reg <| s_y (y_ld (b := b7) (v := I 0)) <| s_nf (y_neq (p := 0) (q := 0)) (by omega) <| s_nil <| q_then <| c_f <| c_skip <| q_then <| c_seq <| c_reg <| s_y y_func <| s_deferC <| s_nil <| q_then <| c_seq <| c_reg <| s_y (y_lda (b := b5) (cs := (bs s).toArray) (hl := (hz32 hs))) <| s_pure (fun w' hw => derive_Scalar_ok w' s lbLock (hg.st hw) hs (by decide)) <| s_alloc fun b8 => s_st (b := b8) (v := I ((dscal s lbLock : Nat) : Int)) (cs := #[I 0]) (hl := by decide) ?_
  refine s_nil <| q_then <| c_seq <| c_reg <| s_y y_func <| s_y y_func <| s_y (y_bdir (cs := [.func (.func 18) #[] #[.pointer (some ⟨b3, 0, none⟩), .pointer (some ⟨b8, 0, none⟩)], .func (.func 21) #[] #[.pointer (some ⟨b5, 0, none⟩)]])) <| s_alloc fun b9 => s_sta (b := b9) (vs := #[.func (.func 18) #[] #[.pointer (some ⟨b3, 0, none⟩), .pointer (some ⟨b8, 0, none⟩)], .func (.func 21) #[] #[.pointer (some ⟨b5, 0, none⟩)]]) (cs := #[.nilFunc, .nilFunc]) (h1 := by intro u hu; simp at hu; rcases hu with rfl | rfl <;> rfl) (hl := rfl) (hs1 := rfl) ?_
  refine s_nil <| q_then <| c_seq <| c_regd <| d_y y_fa <| d_y (y_ld (b := b9) (v := .func (.func 21) #[] #[.pointer (some ⟨b5, 0, none⟩)])) <| d_y (y_ld (b := b8) (v := I ((dscal s lbLock : Nat) : Int))) <| d_pure (fun w' hw => (by have h9 := gBase_ok w' ((dscal s lbLock : Nat) : Int); rw [base_V (k := dscal s lbLock) ((scal_lt _ _).2), base_E (k := dscal s lbLock) ((scal_lt _ _).2)] at h9; exact h9)) <| d_y y_ext <| d_y y_ext <| d_pure (fun w' hw => must_ok w' ((pp 4 (dscal s lbLock) : Nat) : Int)) <| d_pure (fun w' hw => Lock3_ok w' b5 (pp 4 (dscal s lbLock)) s (El.four.pow _) hs (rd_blk (b := b5) (cs := (bs s).toArray) (.tail _ (.tail _ (.tail _ (.tail _ (.head _))))) w' hw) (hg.st hw)) <| d_y y_as <| d_nil <| q_then <| c_seq <| c_regL [.blk b9 (.cells #[.func (.func 18) #[] #[.pointer (some ⟨b3, 0, none⟩), .pointer (some ⟨b8, 0, none⟩)], .func (.func 21) #[] #[.pointer (some ⟨b5, 0, none⟩)]] 46 (0, 0)), .blk b8 (.cells #[I ((dscal s lbLock : Nat) : Int)] 3 (0, 0)), .blk b5 (.cells (bs s).toArray 23 (0, 0)), .blk b4 (.cells (bs k).toArray 23 (0, 0)), .blk b3 (.cells #[I (y : Int)] 3 (0, 0))] <| r_y 0 rfl y_fa <| r_y 1 rfl (y_ld (b := b9) (v := .func (.func 18) #[] #[.pointer (some ⟨b3, 0, none⟩), .pointer (some ⟨b8, 0, none⟩)])) <| r_y 3 rfl y_mv <| r_y 4 rfl (y_lda (b := b4) (cs := (bs k).toArray) (hl := (hz32 hk))) <| r_y 5 rfl y_fa <| r_y 6 rfl (y_ld (b := b9) (v := .func (.func 21) #[] #[.pointer (some ⟨b5, 0, none⟩)])) <| r_W 2 rfl <| s_pure (fun w' hw => Lock2_ok w' b3 b8 y (dscal s lbLock) hy ((scal_lt _ _).2) (rd_blk (b := b3) (cs := #[I (y : Int)]) (.tail _ (.tail _ (.tail _ (.tail _ (.tail _ (.tail _ (.head _))))))) w' hw) (rd_blk (b := b8) (cs := #[I ((dscal s lbLock : Nat) : Int)]) (.tail _ (.head _)) w' hw)) <| r_K <| r_W 7 rfl <| s_pure (fun w' hw => Lock3_ok w' b5 1 s (El.mk' (by decide) (pp_one _)) hs (rd_blk (b := b5) (cs := (bs s).toArray) (.tail _ (.tail _ (.tail _ (.tail _ (.head _))))) w' hw) (hg.st hw)) <| r_K <| r_W 8 rfl <| s_pure (fun w' hw => combine_ok w' k ((pp 4 (dscal s lbMask) * 1 % 4611686018427377339 : Nat) : Int) (hg.st hw) hk (((El.four.pow _).mul (El.mk' (by decide) (pp_one _))).r64)) <| r_K <| r_y 9 rfl (y_bcap (cs := I ((pp y (dscal s lbLock) : Nat) : Int) :: I ((pp 4 (dscal s lbMask) * (pp 4 (dscal s lbLock)) % 4611686018427377339 : Nat) : Int) :: bs (xr k (msk ((pp 4 (dscal s lbMask) * 1 % 4611686018427377339 : Nat) : Int)))) (hf := fillC (cmb_length hk _))) <| r_W 10 rfl <| s_sta (b := b6) (vs := (I ((pp y (dscal s lbLock) : Nat) : Int) :: I ((pp 4 (dscal s lbMask) * (pp 4 (dscal s lbLock)) % 4611686018427377339 : Nat) : Int) :: bs (xr k (msk ((pp 4 (dscal s lbMask) * 1 % 4611686018427377339 : Nat) : Int)))).toArray) (cs := (I 0 :: I 0 :: bs (List.replicate 32 0)).toArray) (h1 := one_cap) (hl := by simp [bs_length, List.length_replicate, cmb_length hk _]) (hs1 := (by simp [bs_length, cmb_length hk _])) ?_
  refine r_K <| r_W 11 rfl <| s_st (b := b7) (v := I 0) (cs := #[I 0]) (hl := by decide) ?_
  refine r_K <| r_E <| q_then <| c_ret <| ?_
  exact leave_R (cs := [.pointer (some ⟨b7, 0, none⟩)]) (fun w' hw => rcLock_R w' b7) Tryz.results5 (.cons (rv_ca (hl := (by simp [bs_length, cmb_length hk _]))) (.cons (rv_cf (v := I 0)) .nil)) fun w' hw => ⟨rfl, hw.sub (List.nil_sublist _)⟩
end Go.Proofs.YtbbfagnbmofgnaaGreatDoor
