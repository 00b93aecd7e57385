/- Joined texts. -/
import Derived.Test.YtchpcabehchfjaaDoorScalX
import Derived.Test.YtchpcabehchfjaaDoorRange
import Derived.Test.YtchpcabehchfjaaDoorNum
/- The product of two words as two words: numbers only. -/
namespace Dv
/-- a product of two halves -/
theorem half {a b : Nat} (ha : a < 4294967296) (hb : b < 4294967296) : a * b ≤ 18446744065119617025 := by
  have := Nat.mul_le_mul (show a ≤ 4294967295 by omega) (show b ≤ 4294967295 by omega)
  omega
/-- the upper word -/
theorem mul_hi {x0 x1 y0 y1 a b c d t w1 : Nat} (ha : x0 * y0 = a) (hb : x1 * y0 = b) (hc : x0 * y1 = c) (hd : x1 * y1 = d) (ht : t = b + a / 4294967296) (hw : w1 = t % 4294967296 + c) :
    (x1 * 4294967296 + x0) * (y1 * 4294967296 + y0) / 18446744073709551616 = d + t / 4294967296 + w1 / 4294967296 := by
  have e : (x1 * 4294967296 + x0) * (y1 * 4294967296 + y0) = d * 18446744073709551616 + (b + c) * 4294967296 + a := by
    rw [Nat.add_mul, Nat.mul_add, Nat.mul_add, ← ha, ← hb, ← hc, ← hd]
    have h1 : x1 * 4294967296 * (y1 * 4294967296) = x1 * y1 * 18446744073709551616 := by
      rw [Nat.mul_assoc, Nat.mul_left_comm 4294967296, Nat.mul_assoc]
    have h2 : x1 * 4294967296 * y0 = x1 * y0 * 4294967296 := Nat.mul_right_comm _ _ _
    have h3 : x0 * (y1 * 4294967296) = x0 * y1 * 4294967296 := (Nat.mul_assoc _ _ _).symm
    rw [h1, h2, h3]
    generalize x1 * y1 = d at *
    generalize x1 * y0 = b at *
    generalize x0 * y1 = c at *
    generalize x0 * y0 = a at *
    omega
  rw [e]
  clear e ha hb hc hd
  subst ht hw
  omega
theorem split2 (x : Nat) : x / 2 ^ 32 * 4294967296 + x % 2 ^ 32 = x := by omega
theorem pow_step (b e i m : Nat) : let a := b ^ (e / 2 ^ (i + 1)) % m
    b ^ (e / 2 ^ i) % m = if e / 2 ^ i % 2 = 1 then (a * a % m) * b % m else a * a % m := by
  intro a
  have h1 : e / 2 ^ (i + 1) = e / 2 ^ i / 2 := by rw [Nat.pow_succ, Nat.div_div_eq_div_mul]
  have ha : a * a % m = b ^ (2 * (e / 2 ^ i / 2)) % m := by
    show b ^ (e / 2 ^ (i + 1)) % m * (b ^ (e / 2 ^ (i + 1)) % m) % m = _
    rw [← Nat.mul_mod, ← Nat.pow_add, h1, Nat.two_mul]
  rw [ha]
  have h2 := Nat.div_add_mod (e / 2 ^ i) 2
  by_cases h : e / 2 ^ i % 2 = 1
  · rw [if_pos h]
    rw [h] at h2
    conv => lhs; rw [← h2]
    rw [Nat.pow_succ, Nat.mod_mul_mod]
  · rw [if_neg h]
    have h0 : e / 2 ^ i % 2 = 0 := by omega
    rw [h0, Nat.add_zero] at h2
    rw [h2]
end Dv
/- The group: products; loops over functions that come to their end. -/
namespace Dv
theorem prod_lt {x y p : Nat} (hx : x < p) (hy : y < p) (hp : p < 18446744073709551616) : x * y / 18446744073709551616 < p := by
  refine Nat.div_lt_of_lt_mul ?_
  rw [Nat.mul_comm]
  exact Nat.mul_lt_mul'' (Nat.lt_trans hy hp) hx
end Dv
namespace Eng
open Go Go.RowKit
section
variable {P : Program} {n : Nat} {D : List Deferred} {W : World} {Bo : List Nat} {F : List (Nat × Value)} {l : SH} {Q : Exit → Act → World → Prop}
/-- a loop that comes to its end -/
theorem c_rangeN {gf : FuncId} [hf : HF P gf] {go : Operand} {prs : Array Tmp} {assign body : Code} {fs cs : List Value} {σ : Type} (lx : σ → SH) (φ : σ → Prop)
    (hcall : ∀ (fn : FuncId) (tm : Array Value) (Dk L : Nat), (∀ D', Fr n F D' { tmps := tm, defers := D' }) → ∀ w, St W Bo w (.blk L (.loop { state := .ready, pending := none, fn, tmps := tm, params := prs, assign, body, defers := Dk }) :: .blk Dk (.deferred (some [])) :: l) →
      Calls P gf (fs ++ [Value.func (.yield L) #[] #[]] ++ cs).toArray w fun e w' => (∃ v, e = .returned v) ∧ ∃ x, φ x ∧ St W Bo w' (.blk L (.loop { state := .ready, pending := none, fn, tmps := tm, params := prs, assign, body, defers := Dk }) :: .blk Dk (.deferred (some [])) :: lx x))
    (hx : ∀ Dk x, φ x → QP n ({ target := .collected Dk, args := #[] } :: D) W Bo Q .normal F (.blk Dk (.deferred (some [])) :: lx x))
    (hgo : evO F go = some (.func (.func gf) fs.toArray cs.toArray) := by rfl) : CP none P n D W Bo (.rangeFunc go prs assign body) Q F l := by
  intro a w ha hw
  refine wpIn_rangeFunc ?_
  intro fn _
  obtain ⟨fnd, bc, h1, h2, h3⟩ := hf.h
  have hcf : ∀ w' : World, (callFunc gf (fs ++ [Value.func (.yield (w.heap.size + 1)) #[] #[]] ++ cs).toArray).run P w' = .ok (.enter gf (fs ++ [Value.func (.yield (w.heap.size + 1)) #[] #[]] ++ cs).toArray) w' := fun w' => by
    have h4 : fnd.name ≠ "runtime.NumGoroutine" := by simpa using h3
    simp [callFunc, h1, h4, h2]
  have hw1 : St W Bo ((w.alloc (.deferred (some []))).alloc (.loop { state := .ready, pending := none, fn, tmps := a.tmps, params := prs, assign, body, defers := w.heap.size })) (.blk (w.heap.size + 1) (.loop { state := .ready, pending := none, fn, tmps := a.tmps, params := prs, assign, body, defers := w.heap.size }) :: .blk w.heap.size (.deferred (some [])) :: l) := by
    have := (hw.alloc (.deferred (some []))).alloc (.loop { state := .ready, pending := none, fn, tmps := a.tmps, params := prs, assign, body, defers := w.heap.size })
    rwa [World.size_alloc] at this
  obtain ⟨W1, hW1⟩ : ∃ W1, W1 = (w.alloc (.deferred (some []))).alloc (.loop { state := .ready, pending := none, fn, tmps := a.tmps, params := prs, assign, body, defers := w.heap.size }) := ⟨_, rfl⟩
  rw [← hW1] at hw1
  refine ⟨w.heap.size + 1, [{ target := .collected w.heap.size, args := #[] }], W1, { target := .fn (.func gf) cs.toArray, args := fs.toArray ++ #[Value.func (.yield (w.heap.size + 1)) #[] #[]] }, W1, gf, (fs ++ [Value.func (.yield (w.heap.size + 1)) #[] #[]] ++ cs).toArray, W1,
    by rw [hW1]; exact run_enterLoop_outer _ _ _ _ _, ?_, fun f' _ => trivial, ?_, by simp [Fw, Fence.wide], ?_⟩
  · simp only [resolve, ha.eval hgo]
    simp [go_sem, Deferred.ofValue]
  · simp only [invoke]
    simpa using hcf _
  · refine callsFw ((hcall fn a.tmps w.heap.size (w.heap.size + 1) (fun D' => ⟨ha.size, rfl, ha.slot⟩) _ hw1).mono ?_)
    rintro e w' ⟨⟨v, rfl⟩, x, hx', hw'⟩
    refine ⟨_, _, run_endLoop (hw'.own _ (.head _)).1 (by simp), ?_⟩
    refine hx w.heap.size x hx' _ _ ⟨ha.size, by simp [ha.defers], ha.slot⟩ ?_
    have := hw'.putObj (Rep.head (p' := .blk (w.heap.size + 1) (.loop { state := .exhausted, pending := none, fn, tmps := a.tmps, params := prs, assign, body, defers := w.heap.size })) _)
    exact this.sub (.cons _ (.refl _))
theorem ret1E {fn : Func} {R : Ending → World → Prop} {a : ResultVar} {v : Value} {Dk : Nat} {l' : SH} (hf : fn.results = #[a]) (hL : Rep (.blk Dk (.deferred (some []))) (.blk Dk (.deferred none)) l l') (h : RV P n W Bo F l' a v) (hR : ∀ w, St W Bo w l' → R (.returned v) w) :
    QP n [{ target := .collected Dk, args := #[] }] W Bo (bodyPostM (Fw none) 0 P fn R) .ret F l := by
  intro ac w ha hw
  have h0 : QP n [] W Bo (bodyPost P fn R) .ret F l' := ret1 hf h hR
  have h3 := h0 { ac with defers := [] } _ ⟨ha.size, rfl, ha.slot⟩ (hw.putObj hL)
  obtain ⟨hd, h4⟩ := h3
  show LeavesInM _ _ _ _ _ _ ac.defers .returning w
  rw [ha.defers]
  exact ⟨by simp, .inl ⟨Dk, _, rfl, run_takeDeferred (hw.own _ hL.mem).1, h4⟩⟩
end
end Eng
namespace Go.Proofs.YtchpcabehchfjaaDoor
open Go Eng Dv
theorem bits_Mul64_ok (w : World) (x y : Nat) (hx : x < 18446744073709551616) (hy : y < 18446744073709551616) :
    Pure Tryd.prog 80 [U x, U y] w (.tuple #[U (x * y / 18446744073709551616), U (x * y % 18446744073709551616)]) := by
  obtain ⟨x0, hx0⟩ : ∃ x0, x0 = x % 2 ^ 32 := ⟨_, rfl⟩
  obtain ⟨x1, hx1⟩ : ∃ x1, x1 = x / 2 ^ 32 := ⟨_, rfl⟩
  obtain ⟨y0, hy0⟩ : ∃ y0, y0 = y % 2 ^ 32 := ⟨_, rfl⟩
  obtain ⟨y1, hy1⟩ : ∃ y1, y1 = y / 2 ^ 32 := ⟨_, rfl⟩
  have bx0 : x0 < 4294967296 := by omega
  have bx1 : x1 < 4294967296 := by omega
  have by0 : y0 < 4294967296 := by omega
  have by1 : y1 < 4294967296 := by omega
  have ex : x1 * 4294967296 + x0 = x := by rw [hx1, hx0]; exact split2 x
  have ey : y1 * 4294967296 + y0 = y := by rw [hy1, hy0]; exact split2 y
  have ba := half bx0 by0
  have bb := half bx1 by0
  have bc := half bx0 by1
  have bd := half bx1 by1
  obtain ⟨a, ha⟩ : ∃ a, x0 * y0 = a := ⟨_, rfl⟩
  obtain ⟨b, hb⟩ : ∃ b, x1 * y0 = b := ⟨_, rfl⟩
  obtain ⟨c, hc⟩ : ∃ c, x0 * y1 = c := ⟨_, rfl⟩
  obtain ⟨d, hd⟩ : ∃ d, x1 * y1 = d := ⟨_, rfl⟩
  rw [ha] at ba
  rw [hb] at bb
  rw [hc] at bc
  rw [hd] at bd
  obtain ⟨t, ht⟩ : ∃ t, t = b + a / 4294967296 := ⟨_, rfl⟩
  obtain ⟨w1, hw1⟩ : ∃ w1, w1 = t % 4294967296 + c := ⟨_, rfl⟩
  have hh := mul_hi ha hb hc hd ht hw1
  rw [ex, ey] at hh
  have hlt : x * y / 18446744073709551616 < 18446744073709551616 := Nat.div_lt_of_lt_mul (Nat.mul_lt_mul'' hx hy)
  rw [hh] at hlt
  refine enter Tryd.func80 Tryd.ntmps80 ?_
  refine c_seq <| c_reg <| s_y y_as <| s_y y_as <| s_nil <| q_then <| c_seq <| c_reg <| s_y y_mv <| s_y (y_mask (p := x) 32) <| ?_
  rw [← hx0]
  refine s_y y_as <| s_nil <| q_then <| c_seq <| c_reg <| s_y y_mv <| s_y (y_shrW 32) <| ?_
  rw [← hx1]
  refine s_y y_as <| s_nil <| q_then <| c_seq <| c_reg <| s_y y_mv <| s_y (y_mask (p := y) 32) <| ?_
  rw [← hy0]
  refine s_y y_as <| s_nil <| q_then <| c_seq <| c_reg <| s_y y_mv <| s_y (y_shrW 32) <| ?_
  rw [← hy1]
  refine s_y y_as <| s_nil <| q_then <| c_seq <| c_reg <| s_y y_mv <| s_y y_mv <| s_y (y_mul64 (p := x0) (q := y0)) <| ?_
  rw [ha]
  refine s_y y_as <| s_nil <| q_then <| c_seq <| c_reg <| s_y y_mv <| s_y y_mv <| s_y (y_mul64 (p := x1) (q := y0)) <| ?_
  rw [hb]
  refine s_y y_mv <| s_y (y_shrW 32) <| s_y (y_add64 (p := b) (q := a / 2 ^ 32)) <| ?_
  rw [show b + a / 2 ^ 32 = t from ht.symm]
  refine s_y y_as <| s_nil <| q_then <| c_seq <| c_reg <| s_y y_mv <| s_y (y_mask (p := t) 32) <| s_y y_as <| s_nil <| q_then <| c_seq <| c_reg <| s_y y_mv <| s_y (y_shrW 32) <| s_y y_as <| s_nil <| q_then <| c_seq <| c_reg <| s_y y_mv <| s_y y_mv <| s_y y_mv <| s_y (y_mul64 (p := x0) (q := y1)) <| ?_
  rw [hc]
  refine s_y (y_add64 (p := t % 2 ^ 32) (q := c)) <| ?_
  rw [show t % 2 ^ 32 + c = w1 from hw1.symm]
  refine s_y y_as <| s_nil <| q_then <| c_seq <| c_reg <| s_y y_mv <| s_y y_mv <| s_y (y_mul64 (p := x1) (q := y1)) <| ?_
  rw [hd]
  refine s_y y_mv <| s_y (y_add64 (p := d) (q := t / 2 ^ 32)) <| s_y y_mv <| s_y (y_shrW 32) <| s_y (y_add64 (p := d + t / 2 ^ 32) (q := w1 / 2 ^ 32)) <| ?_
  rw [show d + t / 2 ^ 32 + w1 / 2 ^ 32 = x * y / 18446744073709551616 from hh.symm]
  refine s_y y_as <| s_nil <| q_then <| c_seq <| c_reg <| s_y y_mv <| s_y y_mv <| s_y (y_mulW (p := x) (q := y)) <| s_y y_as <| s_nil <| q_then <| c_ret <| ?_
  exact ret2 Tryd.results80 rv_t rv_t fun w' hw => ⟨rfl, hw⟩
theorem group_times_ok (w : World) (x y : Nat) (hx : x < 4611686018427377339) (hy : y < 4611686018427377339) :
    Pure Tryd.prog 60 [U x, U y] w (U (x * y % 4611686018427377339)) := by
  have hd := Nat.div_add_mod (x * y) 18446744073709551616
  have hp := prod_lt hx hy (by decide)
  refine enter Tryd.func60 Tryd.ntmps60 ?_
  refine c_seq <| c_reg <| s_y y_as <| s_nil <| q_then <| c_seq <| c_reg <| s_y y_mv <| s_y y_mv <| s_pure (fun w' hw => bits_Mul64_ok w' x y (Nat.lt_trans hx (by decide)) (Nat.lt_trans hy (by decide))) <| s_y y_mv <| s_y y_ext <| s_y y_ext <| s_y y_as <| s_y y_as <| s_nil <| q_then <| c_seq <| c_reg <| s_y y_mv <| s_y y_mv <| s_pure (fun w' hw => bits_Div64_ok w' (x * y / 18446744073709551616) (x * y % 18446744073709551616) 4611686018427377339 hp (Nat.mod_lt _ (by decide)) (by decide)) <| ?_
  rw [Nat.mul_comm (x * y / 18446744073709551616), hd]
  refine s_y y_mv <| s_y y_ext <| s_y y_ext <| s_y y_as <| s_y y_as <| s_nil <| q_then <| c_seq <| c_reg <| s_y y_mv <| s_y y_as <| s_nil <| q_then <| c_ret <| ?_
  exact ret1 Tryd.results60 rv_t fun w' hw => ⟨rfl, hw⟩
end Go.Proofs.YtchpcabehchfjaaDoor
/- Powers in the group. -/
namespace Go.Proofs.YtchpcabehchfjaaDoor
open Go Eng Dv

theorem group_digits_ok (w : World) (e : Nat) : Gives Tryd.prog 59 [U e] w [] (fun b : Nat => .func (.func 78) #[] #[.pointer (some ⟨b, 0, none⟩)]) (fun b => [.blk b (.cells #[U e] 60 (0, 0))]) (fun _ => True) := by
  refine enter Tryd.func59 Tryd.ntmps59 ?_
  refine c_seq <| c_reg <| s_box rfl fun b1 => s_y y_as <| s_nil <| q_then <| c_seq <| c_reg <| s_y y_func <| s_y y_as <| s_nil <| q_then <| c_ret <| ?_
  exact ret1 Tryd.results59 rv_t fun w' hw => ⟨b1, trivial, rfl, hw⟩

def pwM (L Dk : Nat) (rc : Loop) (b5 b2 b1 e b acc : Nat) : SH :=
  [.blk L (.loop rc), .blk Dk (.deferred (some [])), .blk b1 (.cells #[U e] 60 (0, 0)), .blk b5 (.cells #[U acc] 60 (0, 0)), .blk b2 (.cells #[U b] 60 (0, 0))]

theorem digits1_ok (w' : World) (rc : Loop) (L Dk b5 b2 b1 e b p : Nat) (he : e < 18446744073709551616) (hp : 1 < p)
    (hs : ∀ q ∈ pwM L Dk rc b5 b2 b1 e b 1, q.holds w') (hnd : (keys (pwM L Dk rc b5 b2 b1 e b 1)).Nodup) (hpz : rc.params.size = 1)
    (hround : ∀ (i : Nat) (w2 : World), St w' (keys (pwM L Dk rc b5 b2 b1 e b 1)) w2 (pwM L Dk rc b5 b2 b1 e b (b ^ (e / 2 ^ (i + 1)) % p)) →
      RoundIn (Fw none) 0 Tryd.prog L rc.fn ((rc.params.zip #[.bool (decide (e / 2 ^ i % 2 = 1))]).foldl (fun tmps (t, a) => tmps.setIfInBounds t a) rc.tmps) rc.assign rc.body w2 fun e' w3 => ∃ _ : Unit, True ∧ e' = .returned (.bool true) ∧ St w' (keys (pwM L Dk rc b5 b2 b1 e b 1)) w3 (pwM L Dk { rc with state := .ready, pending := none } b5 b2 b1 e b (b ^ (e / 2 ^ i) % p)))
    (hrdy : rc = { rc with state := .ready, pending := none } := by rfl) :
    Calls Tryd.prog 78 #[.func (.yield L) #[] #[], .pointer (some ⟨b1, 0, none⟩)] w' fun e' w2 => (∃ v, e' = .returned v) ∧ St w' (keys (pwM L Dk rc b5 b2 b1 e b 1)) w2 (pwM L Dk rc b5 b2 b1 e b (b ^ e % p)) := by
  obtain ⟨len, hlen, hl1, _, hlz⟩ := bits_Len64_ok e he
  refine enterL (args := [.func (.yield L) #[] #[], .pointer (some ⟨b1, 0, none⟩)]) Tryd.func78 Tryd.ntmps78 hs hnd ?_
  obtain ⟨bo, hbo⟩ : ∃ bo, bo = keys (pwM L Dk rc b5 b2 b1 e b 1) := ⟨_, rfl⟩
  rw [← hbo] at hround ⊢
  have h1p : b ^ (e / 2 ^ len) % p = 1 := by rw [Nat.div_eq_of_lt hl1, Nat.pow_zero, Nat.mod_eq_of_lt hp]
  refine c_seq <| c_reg <| s_y (y_ld (v := U e)) <| s_pure (fun w2 _ => hlz w2) <| s_y (y_sub (p := len) (q := 1)) <| s_y y_as <| s_nil <| q_then <| c_block <| ?_
  refine c_loop (fun j : Nat => [(0, .func (.yield L) #[] #[]), (1, .pointer (some ⟨b1, 0, none⟩)), (3, I ((j : Int) - 1))]) (fun j => pwM L Dk rc b5 b2 b1 e b (b ^ (e / 2 ^ j) % p)) (fun j => j ≤ 64) (fun j => j) len hlen ⟨rfl, rfl, rfl, trivial⟩ (by rw [h1p]; exact .refl _) ?_
  intro j hj
  refine c_seq <| c_seq <| c_reg <| s_y y_mv <| s_y (y_geq (p := (j : Int) - 1) (q := 0)) <| s_nil <| q_then <| c_ifd (fun h8 => ?_) (fun h8 => ?_)
  · obtain ⟨i, rfl⟩ : ∃ i, j = i + 1 := ⟨j - 1, by omega⟩
    rw [show ((i + 1 : Nat) : Int) - 1 = (i : Int) by omega]
    refine c_skip <| q_then <| c_seq <| c_block <| c_seq <| c_reg <| s_y y_mv <| s_y (y_ld (v := U e)) <| s_y y_mv <| s_y (y_shrW i) <| s_y (y_mask (p := e / 2 ^ i) 1 (hp := by simp only [IntKind.bits]; exact Nat.lt_of_le_of_lt (Nat.div_le_self _ _) he)) <| s_y (y_eql (p := ((e / 2 ^ i % 2 ^ 1 : Nat) : Int)) (q := 1)) <| ?_
    rw [show decide (((e / 2 ^ i % 2 ^ 1 : Nat) : Int) = 1) = decide (e / 2 ^ i % 2 = 1) from decide_eq_decide.2 ⟨fun h => by omega, fun h => by omega⟩]
    refine s_yield (L := L) (rc := rc) (σ := Unit) (fun _ => .bool true) (fun _ => pwM L Dk { rc with state := .ready, pending := none } b5 b2 b1 e b (b ^ (e / 2 ^ i) % p)) (fun _ => True) (.head _) hpz (fun w2 h2 => hround i w2 h2) (fun _ _ => ?_)
    rw [← hrdy]
    refine s_y (v := .bool false) (y_not (b := true)) <| s_nil <| q_then <| c_f <| c_skip <| q_nb <| q_then <| c_reg <| s_y y_mv <| s_y (y_sub (p := (i : Int)) (q := 1)) <| s_y y_as <| s_nil <| q_round i (by omega) (by omega) ⟨rfl, rfl, rfl, trivial⟩ (.refl _)
  · obtain rfl : j = 0 := by omega
    rw [Nat.pow_zero, Nat.div_one]
    refine c_exit <| q_ex <| q_ex <| q_exb <| ?_
    exact ret0 Tryd.results78 (fun w2 h2 => ⟨⟨_, rfl⟩, h2⟩) _ (.inr rfl)

theorem group_power_ok (w : World) (b e : Nat) (hb : b < 4611686018427377339) (he : e < 18446744073709551616) :
    Pure Tryd.prog 40 [U b, U e] w (U (b ^ e % 4611686018427377339)) := by
  refine enterM Tryd.func40 Tryd.ntmps40 ?_
  refine c_seq <| c_reg <| s_box rfl fun b2 => s_y y_as <| s_nil <| q_then <| c_seq <| c_reg <| s_alloc fun b5 => s_st (b := b5) (v := U 1) (cs := #[U 0]) (hl := Nat.zero_lt_one) ?_
  refine s_nil <| q_then <| c_seq <| c_seq <| c_reg <| s_y y_mv <| s_gives (fun w' hw => group_digits_ok w' e) fun b1 _ => s_nil <| q_then <| c_block <| ?_
  refine c_rangeN (σ := Unit) (fun _ => [.blk b1 (.cells #[U e] 60 (0, 0)), .blk b5 (.cells #[U (b ^ e % 4611686018427377339)] 60 (0, 0)), .blk b2 (.cells #[U b] 60 (0, 0))]) (fun _ => True) (fun fn tm Dk L hfr w' hw' => ?_) (fun Dk _ _ => ?_)
  rotate_left
  · refine q_nb <| q_then <| c_seq <| c_reg <| s_y (y_ld (b := b5) (v := U (b ^ e % 4611686018427377339))) <| s_y y_as <| s_nil <| q_then <| c_ret <| ?_
    exact ret1E Tryd.results40 (.head _) rv_t fun w' hw => ⟨rfl, hw.sub (List.nil_sublist _)⟩
  · have hps := (show St w [] w' (pwM L Dk _ b5 b2 b1 e b 1 ++ []) by rw [List.append_nil]; exact hw').has
    refine (digits1_ok w' _ L Dk b5 b2 b1 e b 4611686018427377339 he (by decide) hps.1 hps.2 rfl (fun i w2 h2 => ?_)).mono fun e' w2 ⟨hv, h2⟩ => ⟨hv, (), trivial, by have h9 := hw'.transL (l2 := []) (by rw [List.append_nil]; exact .refl _) h2; rw [List.append_nil] at h9; exact h9⟩
    have hf9 := (hfr []).put 9 (.bool (decide (e / 2 ^ i % 2 = 1))) rfl
    have hst := pow_step b e i 4611686018427377339
    dsimp only at hst
    obtain ⟨a, ha⟩ : ∃ a, b ^ (e / 2 ^ (i + 1)) % 4611686018427377339 = a := ⟨_, rfl⟩
    have hal : a < 4611686018427377339 := by rw [← ha]; exact Nat.mod_lt _ (by decide)
    rw [ha] at hst h2
    refine round_ok (F1 := [(2, .pointer (some ⟨b2, 0, none⟩)), (5, .pointer (some ⟨b5, 0, none⟩)), (6, .bool (decide (e / 2 ^ i % 2 = 1)))]) h2 hf9 (by simp [Act.put]) (by rfl) (.head _) (l1 := pwM L Dk _ b5 b2 b1 e b a) ?_ ?_
    · refine c_reg <| s_y y_as <| s_nil <| q_join ⟨rfl, rfl, rfl, trivial⟩ (List.Sublist.refl _)
    · refine c_block <| c_seq <| c_reg <| s_y (y_ld (b := b5) (v := U a)) <| s_y (y_ld (b := b5) (v := U a)) <| s_pure (fun w3 h3 => group_times_ok w3 a a hal hal) <| s_st (b := b5) (v := U (a * a % 4611686018427377339)) (cs := #[U a]) (hl := Nat.zero_lt_one) ?_
      refine s_nil <| q_then <| c_seq <| c_reg <| s_y y_mv <| s_nil <| q_then <| c_ifd (fun h13 => ?_) (fun h13 => ?_)
      · rw [if_pos h13] at hst
        refine c_reg <| s_y (y_ld (b := b5) (v := U (a * a % 4611686018427377339))) <| s_y (y_ld (b := b2) (v := U b)) <| s_pure (fun w3 h3 => group_times_ok w3 (a * a % 4611686018427377339) b (Nat.mod_lt _ (by decide)) hb) <| s_st (b := b5) (v := U (a * a % 4611686018427377339 * b % 4611686018427377339)) (cs := #[U (a * a % 4611686018427377339)]) (hl := Nat.zero_lt_one) ?_
        refine s_nil <| q_nb <| q_rn (.head _) fun w3 h3 => ⟨(), trivial, rfl, ?_⟩
        rw [hst]; exact h3
      · rw [if_neg h13] at hst
        refine c_skip <| q_nb <| q_rn (.head _) fun w3 h3 => ⟨(), trivial, rfl, ?_⟩
        rw [hst]; exact h3
end Go.Proofs.YtchpcabehchfjaaDoor
/- The group: Check and Base of valid arguments. -/
namespace Go.Proofs.YtchpcabehchfjaaDoor
open Go Eng Sha Cod Dv

theorem four_Q : 4 ^ Num.Q % 4611686018427377339 = 1 := by
  have h := Num.four.1
  rw [show Num.P = 4611686018427377339 from rfl, show 1 % 4611686018427377339 = 1 from rfl] at h
  exact h
theorem four_ne (i : Nat) (h0 : 0 < i) (h1 : i < 2305843009213688669) : 4 ^ i % 4611686018427377339 ≠ 1 := fun h => by
  have h2 := Num.four.2 i h0 h1
  rw [show Num.P = 4611686018427377339 from rfl, show 1 % 4611686018427377339 = 1 from rfl] at h2
  exact h2 h
theorem pub_Q (s : Nat) : (4 ^ s % 4611686018427377339) ^ Num.Q % 4611686018427377339 = 1 := by
  rw [← Nat.pow_mod, ← Nat.pow_mul, Nat.mul_comm]
  exact (Num.pow_mul_one (g := 4) (o := Num.Q) (n := 4611686018427377339) four_Q s)
theorem pub_pos (s : Nat) : 0 < 4 ^ s % 4611686018427377339 := by
  rcases Nat.eq_zero_or_pos (4 ^ s % 4611686018427377339) with h | h
  · have h1 := pub_Q s
    have hq0 : 0 < Num.Q := (show 0 < 2305843009213688669 by decide)
    rw [h, Nat.zero_pow hq0] at h1
    exact absurd h1 (by decide)
  · exact h

theorem group_Check_ok (w : World) (x : Nat) (h0 : 0 < x) (hx : x < 4611686018427377339) (hp : x ^ Num.Q % 4611686018427377339 = 1) : Pure Tryd.prog 36 [I x] w (I 0) := by
  have hpw : ∀ w' : World, Pure Tryd.prog 40 [U x, U 2305843009213688669] w' (U 1) := fun w' => by
    have h := group_power_ok w' x Num.Q hx (show 2305843009213688669 < 18446744073709551616 by decide)
    rw [hp] at h
    exact h
  refine enter Tryd.func36 Tryd.ntmps36 ?_
  refine c_seq <| c_reg <| s_y y_as <| s_nil <| q_then <| c_seq <| c_seq <| c_reg <| s_y y_mv <| s_kf (y_lss (p := x) (q := 1)) (by omega) <| s_y y_mv <| s_y y_mv <| s_kf (y_geq (p := x) (q := 4611686018427377339)) (by omega) <| s_y y_pk <| s_y y_mv <| s_y y_mv <| s_y (y_cvn (k := .u64) (p := (x : Int))) <| s_pure (fun w' _ => hpw w') <| ?_
  refine s_nf (y_neq (p := 1) (q := 1)) (by omega) <| s_y y_pk <| s_nil <| q_then <| c_f <| c_skip <| q_then <| c_seq <| c_reg <| s_y y_as <| s_nil <| q_then <| c_ret <| ?_
  exact ret1 Tryd.results36 rv_t fun w' hw => ⟨rfl, hw⟩

theorem group_Base_ok (w : World) (s : Nat) (hs : s < 2305843009213688669) : Pure Tryd.prog 18 [I s] w (.tuple #[I (4 ^ s % 4611686018427377339 : Nat), I 0]) := by
  have hexp : ∀ w : World, Pure Tryd.prog 19 [I 4, I s] w (.tuple #[I (4 ^ s % 4611686018427377339 : Nat), I 0]) := fun w => by
    obtain ⟨r, hr⟩ : ∃ r, 4 ^ s % 4611686018427377339 = r := ⟨_, rfl⟩
    have hrl : r < 4611686018427377339 := by rw [← hr]; exact Nat.mod_lt _ (by decide)
    refine enter Tryd.func19 Tryd.ntmps19 ?_
    refine c_seq <| c_reg <| s_y y_as <| s_y y_as <| s_nil <| q_then <| c_seq <| c_seq <| c_reg <| s_y y_mv <| s_pure (fun w' hw => group_Check_ok w' 4 (by decide) (by decide) four_Q) <| s_y y_as <| s_nil <| q_then <| c_seq <| c_reg <| s_y y_mv <| s_nf (y_neq (p := 0) (q := 0)) (by omega) <| s_nil <| q_then <| c_f <| c_skip <| q_then <| c_seq <| c_seq <| c_reg <| s_y y_mv <| s_kf (y_lss (p := s) (q := 0)) (by omega) <| s_y y_mv <| s_y y_mv <| s_kf (y_geq (p := s) (q := 2305843009213688669)) (by omega) <| s_y y_pk <| s_nil <| q_then <| c_f <| c_skip <| q_then <| c_seq <| c_reg <| s_y y_mv <| s_y (y_cvn (k := .u64) (p := 4)) <| s_y y_mv <| s_y (y_cvn (k := .u64) (p := (s : Int))) <| s_pure (fun w' hw => group_power_ok w' 4 s (by decide) (by omega)) <| ?_
    rw [hr]
    refine s_y (y_cvn (k := .i64) (p := (r : Int))) <| s_y y_as <| s_y y_as <| s_nil <| q_then <| c_ret <| ?_
    exact ret2 Tryd.results19 rv_t rv_t fun w' hw => ⟨rfl, hw⟩
  refine enter Tryd.func18 Tryd.ntmps18 ?_
  refine c_seq <| c_reg <| s_y y_as <| s_y y_as <| s_nil <| q_then <| c_seq <| c_reg <| s_y y_mv <| s_pure (fun w' hw => hexp w') <| s_y y_ext <| s_y y_ext <| s_y y_as <| s_y y_as <| s_nil <| q_then <| c_ret <| ?_
  exact ret2 Tryd.results18 rv_t rv_t fun w' hw => ⟨rfl, hw⟩

end Go.Proofs.YtchpcabehchfjaaDoor
