/- Joined texts: PowX Gf SigP Slices Padding PadLaw Grp Fld Rec Step EqA Keys Mask Prx GfP MaskI PrxI Cha ChaA ChaB ChaC ChaD. -/
import Derived.WalkKit
import Derived.TacticsInMore
import Derived.OrdersIn
import Derived.RangeFuncCalls
import Derived.Deep.LoopGhost
import Derived.Deep.Quiet
import Derived.KernelRfl
import Derived.Laws.BytesString
import Derived.Laws.StructEq
import Derived.MapKept
import Derived.Laws.IdiomStrings
import Derived.Recover
import Derived.RangeFuncLeaves
import Derived.ChangeKeysEq
import Derived.Laws.Build
import Derived.Stop.Asserts
import Derived.Maps.RangeRun
import Derived.ProofKit
import Derived.LaidMore
import Derived.LaidHandle
import Derived.OpenShut
import Derived.FnData
import Derived.SizedLaws
import Derived.ChangeMaps5
import Derived.Deep.Slices
import Derived.JoinedOf
import Derived.SevenTiedAt
import Derived.Test.YtejdjnkilikehaaGreatDoorChecked
import Derived.Test.YtejdjnkilikehaaGreatDoorRows
import Derived.Test.YtejdjnkilikehaaGreatDoorCards
import Derived.Test.YtejdjnkilikehaaGreatDoorTie
import Derived.Test.YtejdjnkilikehaaGreatDoorLe2
set_option linter.all false
section
namespace Dv
theorem half {a b : Nat} (ha : a < 4294967296) (hb : b < 4294967296) : a * b ≤ 18446744065119617025 := by
  have := Nat.mul_le_mul (show a ≤ 4294967295 by omega) (show b ≤ 4294967295 by omega)
  omega
theorem mul_hi {x0 x1 y0 y1 a b c d t w1 : Nat} (ha : x0 * y0 = a) (hb : x1 * y0 = b) (hc : x0 * y1 = c) (hd : x1 * y1 = d) (ht : t = b + a / 4294967296) (hw : w1 = t % 4294967296 + c) :
    (x1 * 4294967296 + x0) * (y1 * 4294967296 + y0) / 18446744073709551616 = d + t / 4294967296 + w1 / 4294967296 := by
  have e : (x1 * 4294967296 + x0) * (y1 * 4294967296 + y0) = d * 18446744073709551616 + (b + c) * 4294967296 + a := by
    rw [Nat.add_mul, Nat.mul_add, Nat.mul_add, ← ha, ← hb, ← hc, ← hd]
    have h1 : x1 * 4294967296 * (y1 * 4294967296) = x1 * y1 * 18446744073709551616 := by
      rw [Nat.mul_assoc, Nat.mul_left_comm 4294967296, Nat.mul_assoc]
    have h2 : x1 * 4294967296 * y0 = x1 * y0 * 4294967296 := Nat.mul_right_comm _ _ _
    have h3 : x0 * (y1 * 4294967296) = x0 * y1 * 4294967296 := (Nat.mul_assoc _ _ _).symm
    rw [h1, h2, h3]
    generalize x1 * y1 = d at *
    generalize x1 * y0 = b at *
    generalize x0 * y1 = c at *
    generalize x0 * y0 = a at *
    omega
  rw [e]
  clear e ha hb hc hd
  subst ht hw
  omega
theorem split2 (x : Nat) : x / 2 ^ 32 * 4294967296 + x % 2 ^ 32 = x := by omega
theorem pow_step (b e i m : Nat) : let a := b ^ (e / 2 ^ (i + 1)) % m
    b ^ (e / 2 ^ i) % m = if e / 2 ^ i % 2 = 1 then (a * a % m) * b % m else a * a % m := by
  intro a
  have h1 : e / 2 ^ (i + 1) = e / 2 ^ i / 2 := by rw [Nat.pow_succ, Nat.div_div_eq_div_mul]
  have ha : a * a % m = b ^ (2 * (e / 2 ^ i / 2)) % m := by
    show b ^ (e / 2 ^ (i + 1)) % m * (b ^ (e / 2 ^ (i + 1)) % m) % m = _
    rw [← Nat.mul_mod, ← Nat.pow_add, h1, Nat.two_mul]
  rw [ha]
  have h2 := Nat.div_add_mod (e / 2 ^ i) 2
  by_cases h : e / 2 ^ i % 2 = 1
  · rw [if_pos h]
    rw [h] at h2
    conv => lhs; rw [← h2]
    rw [Nat.pow_succ, Nat.mod_mul_mod]
  · rw [if_neg h]
    have h0 : e / 2 ^ i % 2 = 0 := by omega
    rw [h0, Nat.add_zero] at h2
    rw [h2]
end Dv
namespace Dv
theorem prod_lt {x y p : Nat} (hx : x < p) (hy : y < p) (hp : p < 18446744073709551616) : x * y / 18446744073709551616 < p := by
  refine Nat.div_lt_of_lt_mul ?_
  rw [Nat.mul_comm]
  exact Nat.mul_lt_mul'' (Nat.lt_trans hy hp) hx
end Dv
namespace Eng
open Go Go.RowKit
section
variable {P : Program} {n : Nat} {D : List Deferred} {W : World} {Bo : List Nat} {F : List (Nat × Value)} {l : SH} {Q : Exit → Act → World → Prop}
theorem c_rangeN {gf : FuncId} [hf : HF P gf] {go : Operand} {prs : Array Tmp} {assign body : Code} {fs cs : List Value} {σ : Type} (lx : σ → SH) (φ : σ → Prop)
    (hcall : ∀ (fn : FuncId) (tm : Array Value) (Dk L : Nat), (∀ D', Fr n F D' { tmps := tm, defers := D' }) → ∀ w, St W Bo w (.blk L (.loop { state := .ready, pending := none, fn, tmps := tm, params := prs, assign, body, defers := Dk }) :: .blk Dk (.deferred (some [])) :: l) →
      Calls P gf (fs ++ [Value.func (.yield L) #[] #[]] ++ cs).toArray w fun e w' => (∃ v, e = .returned v) ∧ ∃ x, φ x ∧ St W Bo w' (.blk L (.loop { state := .ready, pending := none, fn, tmps := tm, params := prs, assign, body, defers := Dk }) :: .blk Dk (.deferred (some [])) :: lx x))
    (hx : ∀ Dk x, φ x → QP n ({ target := .collected Dk, args := #[] } :: D) W Bo Q .normal F (.blk Dk (.deferred (some [])) :: lx x))
    (hgo : evO F go = some (.func (.func gf) fs.toArray cs.toArray) := by rfl) : CP none P n D W Bo (.rangeFunc go prs assign body) Q F l := by
  intro a w ha hw
  refine wpIn_rangeFunc ?_
  intro fn _
  obtain ⟨fnd, bc, h1, h2, h3⟩ := hf.h
  have hcf : ∀ w' : World, (callFunc gf (fs ++ [Value.func (.yield (w.heap.size + 1)) #[] #[]] ++ cs).toArray).run P w' = .ok (.enter gf (fs ++ [Value.func (.yield (w.heap.size + 1)) #[] #[]] ++ cs).toArray) w' := fun w' => by
    have h4 : fnd.name ≠ "runtime.NumGoroutine" := by simpa using h3
    simp [callFunc, h1, h4, h2]
  have hw1 : St W Bo ((w.alloc (.deferred (some []))).alloc (.loop { state := .ready, pending := none, fn, tmps := a.tmps, params := prs, assign, body, defers := w.heap.size })) (.blk (w.heap.size + 1) (.loop { state := .ready, pending := none, fn, tmps := a.tmps, params := prs, assign, body, defers := w.heap.size }) :: .blk w.heap.size (.deferred (some [])) :: l) := by
    have := (hw.alloc (.deferred (some []))).alloc (.loop { state := .ready, pending := none, fn, tmps := a.tmps, params := prs, assign, body, defers := w.heap.size })
    rwa [World.size_alloc] at this
  obtain ⟨W1, hW1⟩ : ∃ W1, W1 = (w.alloc (.deferred (some []))).alloc (.loop { state := .ready, pending := none, fn, tmps := a.tmps, params := prs, assign, body, defers := w.heap.size }) := ⟨_, rfl⟩
  rw [← hW1] at hw1
  refine ⟨w.heap.size + 1, [{ target := .collected w.heap.size, args := #[] }], W1, { target := .fn (.func gf) cs.toArray, args := fs.toArray ++ #[Value.func (.yield (w.heap.size + 1)) #[] #[]] }, W1, gf, (fs ++ [Value.func (.yield (w.heap.size + 1)) #[] #[]] ++ cs).toArray, W1,
    by rw [hW1]; exact run_enterLoop_outer _ _ _ _ _, ?_, fun f' _ => trivial, ?_, by simp [Fw, Fence.wide], ?_⟩
  · simp only [resolve, ha.eval hgo]
    simp [go_sem, Deferred.ofValue]
  · simp only [invoke]
    simpa using hcf _
  · refine callsFw ((hcall fn a.tmps w.heap.size (w.heap.size + 1) (fun D' => ⟨ha.size, rfl, ha.slot⟩) _ hw1).mono ?_)
    rintro e w' ⟨⟨v, rfl⟩, x, hx', hw'⟩
    refine ⟨_, _, run_endLoop (hw'.own _ (.head _)).1 (by simp), ?_⟩
    refine hx w.heap.size x hx' _ _ ⟨ha.size, by simp [ha.defers], ha.slot⟩ ?_
    have := hw'.putObj (Rep.head (p' := .blk (w.heap.size + 1) (.loop { state := .exhausted, pending := none, fn, tmps := a.tmps, params := prs, assign, body, defers := w.heap.size })) _)
    exact this.sub (.cons _ (.refl _))
theorem ret1E {fn : Func} {R : Ending → World → Prop} {a : ResultVar} {v : Value} {Dk : Nat} {l' : SH} (hf : fn.results = #[a]) (hL : Rep (.blk Dk (.deferred (some []))) (.blk Dk (.deferred none)) l l') (h : RV P n W Bo F l' a v) (hR : ∀ w, St W Bo w l' → R (.returned v) w) :
    QP n [{ target := .collected Dk, args := #[] }] W Bo (bodyPostM (Fw none) 0 P fn R) .ret F l := by
  intro ac w ha hw
  have h0 : QP n [] W Bo (bodyPost P fn R) .ret F l' := ret1 hf h hR
  have h3 := h0 { ac with defers := [] } _ ⟨ha.size, rfl, ha.slot⟩ (hw.putObj hL)
  obtain ⟨hd, h4⟩ := h3
  show LeavesInM _ _ _ _ _ _ ac.defers .returning w
  rw [ha.defers]
  exact ⟨by simp, .inl ⟨Dk, _, rfl, run_takeDeferred (hw.own _ hL.mem).1, h4⟩⟩
end
end Eng
namespace Go.Proofs.YtejdjnkilikehaaGreatDoor
open Go Eng Dv
theorem bits_Mul64_ok (w : World) (x y : Nat) (hx : x < 18446744073709551616) (hy : y < 18446744073709551616) :
    Pure Tryz.prog 205 [U x, U y] w (.tuple #[U (x * y / 18446744073709551616), U (x * y % 18446744073709551616)]) := by
  obtain ⟨x0, hx0⟩ : ∃ x0, x0 = x % 2 ^ 32 := ⟨_, rfl⟩
  obtain ⟨x1, hx1⟩ : ∃ x1, x1 = x / 2 ^ 32 := ⟨_, rfl⟩
  obtain ⟨y0, hy0⟩ : ∃ y0, y0 = y % 2 ^ 32 := ⟨_, rfl⟩
  obtain ⟨y1, hy1⟩ : ∃ y1, y1 = y / 2 ^ 32 := ⟨_, rfl⟩
  have bx0 : x0 < 4294967296 := by omega
  have bx1 : x1 < 4294967296 := by omega
  have by0 : y0 < 4294967296 := by omega
  have by1 : y1 < 4294967296 := by omega
  have ex : x1 * 4294967296 + x0 = x := by rw [hx1, hx0]; exact split2 x
  have ey : y1 * 4294967296 + y0 = y := by rw [hy1, hy0]; exact split2 y
  have ba := half bx0 by0
  have bb := half bx1 by0
  have bc := half bx0 by1
  have bd := half bx1 by1
  obtain ⟨a, ha⟩ : ∃ a, x0 * y0 = a := ⟨_, rfl⟩
  obtain ⟨b, hb⟩ : ∃ b, x1 * y0 = b := ⟨_, rfl⟩
  obtain ⟨c, hc⟩ : ∃ c, x0 * y1 = c := ⟨_, rfl⟩
  obtain ⟨d, hd⟩ : ∃ d, x1 * y1 = d := ⟨_, rfl⟩
  rw [ha] at ba
  rw [hb] at bb
  rw [hc] at bc
  rw [hd] at bd
  obtain ⟨t, ht⟩ : ∃ t, t = b + a / 4294967296 := ⟨_, rfl⟩
  obtain ⟨w1, hw1⟩ : ∃ w1, w1 = t % 4294967296 + c := ⟨_, rfl⟩
  have hh := mul_hi ha hb hc hd ht hw1
  rw [ex, ey] at hh
  have hlt : x * y / 18446744073709551616 < 18446744073709551616 := Nat.div_lt_of_lt_mul (Nat.mul_lt_mul'' hx hy)
  rw [hh] at hlt
  refine enter Tryz.func205 Tryz.ntmps205 ?_
  refine c_seq <| c_reg <| s_y y_as <| s_y y_as <| s_nil <| q_then <| c_seq <| c_reg <| s_y y_mv <| s_y (y_mask (p := x) 32) <| ?_
  rw [← hx0]
  refine s_y y_as <| s_nil <| q_then <| c_seq <| c_reg <| s_y y_mv <| s_y (y_shrW 32) <| ?_
  rw [← hx1]
  refine s_y y_as <| s_nil <| q_then <| c_seq <| c_reg <| s_y y_mv <| s_y (y_mask (p := y) 32) <| ?_
  rw [← hy0]
  refine s_y y_as <| s_nil <| q_then <| c_seq <| c_reg <| s_y y_mv <| s_y (y_shrW 32) <| ?_
  rw [← hy1]
  refine s_y y_as <| s_nil <| q_then <| c_seq <| c_reg <| s_y y_mv <| s_y y_mv <| s_y (y_mul64 (p := x0) (q := y0)) <| ?_
  rw [ha]
  refine s_y y_as <| s_nil <| q_then <| c_seq <| c_reg <| s_y y_mv <| s_y y_mv <| s_y (y_mul64 (p := x1) (q := y0)) <| ?_
  rw [hb]
  refine s_y y_mv <| s_y (y_shrW 32) <| s_y (y_add64 (p := b) (q := a / 2 ^ 32)) <| ?_
  rw [show b + a / 2 ^ 32 = t from ht.symm]
  refine s_y y_as <| s_nil <| q_then <| c_seq <| c_reg <| s_y y_mv <| s_y (y_mask (p := t) 32) <| s_y y_as <| s_nil <| q_then <| c_seq <| c_reg <| s_y y_mv <| s_y (y_shrW 32) <| s_y y_as <| s_nil <| q_then <| c_seq <| c_reg <| s_y y_mv <| s_y y_mv <| s_y y_mv <| s_y (y_mul64 (p := x0) (q := y1)) <| ?_
  rw [hc]
  refine s_y (y_add64 (p := t % 2 ^ 32) (q := c)) <| ?_
  rw [show t % 2 ^ 32 + c = w1 from hw1.symm]
  refine s_y y_as <| s_nil <| q_then <| c_seq <| c_reg <| s_y y_mv <| s_y y_mv <| s_y (y_mul64 (p := x1) (q := y1)) <| ?_
  rw [hd]
  refine s_y y_mv <| s_y (y_add64 (p := d) (q := t / 2 ^ 32)) <| s_y y_mv <| s_y (y_shrW 32) <| s_y (y_add64 (p := d + t / 2 ^ 32) (q := w1 / 2 ^ 32)) <| ?_
  rw [show d + t / 2 ^ 32 + w1 / 2 ^ 32 = x * y / 18446744073709551616 from hh.symm]
  refine s_y y_as <| s_nil <| q_then <| c_seq <| c_reg <| s_y y_mv <| s_y y_mv <| s_y (y_mulW (p := x) (q := y)) <| s_y y_as <| s_nil <| q_then <| c_ret <| ?_
  exact ret2 Tryz.results205 rv_t rv_t fun w' hw => ⟨rfl, hw⟩
theorem group_times_ok (w : World) (x y : Nat) (hx : x < 4611686018427377339) (hy : y < 4611686018427377339) :
    Pure Tryz.prog 154 [U x, U y] w (U (x * y % 4611686018427377339)) := by
  have hd := Nat.div_add_mod (x * y) 18446744073709551616
  have hp := prod_lt hx hy (by decide)
  refine enter Tryz.func154 Tryz.ntmps154 ?_
  refine c_seq <| c_reg <| s_y y_as <| s_nil <| q_then <| c_seq <| c_reg <| s_y y_mv <| s_y y_mv <| s_pure (fun w' hw => bits_Mul64_ok w' x y (Nat.lt_trans hx (by decide)) (Nat.lt_trans hy (by decide))) <| s_y y_mv <| s_y y_ext <| s_y y_ext <| s_y y_as <| s_y y_as <| s_nil <| q_then <| c_seq <| c_reg <| s_y y_mv <| s_y y_mv <| s_pure (fun w' hw => bits_Div64_ok w' (x * y / 18446744073709551616) (x * y % 18446744073709551616) 4611686018427377339 hp (Nat.mod_lt _ (by decide)) (by decide)) <| ?_
  rw [Nat.mul_comm (x * y / 18446744073709551616), hd]
  refine s_y y_mv <| s_y y_ext <| s_y y_ext <| s_y y_as <| s_y y_as <| s_nil <| q_then <| c_seq <| c_reg <| s_y y_mv <| s_y y_as <| s_nil <| q_then <| c_ret <| ?_
  exact ret1 Tryz.results154 rv_t fun w' hw => ⟨rfl, hw⟩
end Go.Proofs.YtejdjnkilikehaaGreatDoor
namespace Go.Proofs.YtejdjnkilikehaaGreatDoor
open Go Eng Dv
theorem group_digits_ok (w : World) (e : Nat) : Gives Tryz.prog 202 [U e] w [] (fun b : Nat => .func (.func 225) #[] #[.pointer (some ⟨b, 0, none⟩)]) (fun b => [.blk b (.cells #[U e] 146 (0, 0))]) (fun _ => True) := by
  refine enter Tryz.func202 Tryz.ntmps202 ?_
  refine c_seq <| c_reg <| s_box rfl fun b1 => s_y y_as <| s_nil <| q_then <| c_seq <| c_reg <| s_y y_func <| s_y y_as <| s_nil <| q_then <| c_ret <| ?_
  exact ret1 Tryz.results202 rv_t fun w' hw => ⟨b1, trivial, rfl, hw⟩
def pwM (L Dk : Nat) (rc : Loop) (b5 b2 b1 e b acc : Nat) : SH :=
  [.blk L (.loop rc), .blk Dk (.deferred (some [])), .blk b1 (.cells #[U e] 146 (0, 0)), .blk b5 (.cells #[U acc] 146 (0, 0)), .blk b2 (.cells #[U b] 146 (0, 0))]
theorem digits1_ok (w' : World) (rc : Loop) (L Dk b5 b2 b1 e b p : Nat) (he : e < 18446744073709551616) (hp : 1 < p)
    (hs : ∀ q ∈ pwM L Dk rc b5 b2 b1 e b 1, q.holds w') (hnd : (keys (pwM L Dk rc b5 b2 b1 e b 1)).Nodup) (hpz : rc.params.size = 1)
    (hround : ∀ (i : Nat) (w2 : World), St w' (keys (pwM L Dk rc b5 b2 b1 e b 1)) w2 (pwM L Dk rc b5 b2 b1 e b (b ^ (e / 2 ^ (i + 1)) % p)) →
      RoundIn (Fw none) 0 Tryz.prog L rc.fn ((rc.params.zip #[.bool (decide (e / 2 ^ i % 2 = 1))]).foldl (fun tmps (t, a) => tmps.setIfInBounds t a) rc.tmps) rc.assign rc.body w2 fun e' w3 => ∃ _ : Unit, True ∧ e' = .returned (.bool true) ∧ St w' (keys (pwM L Dk rc b5 b2 b1 e b 1)) w3 (pwM L Dk { rc with state := .ready, pending := none } b5 b2 b1 e b (b ^ (e / 2 ^ i) % p)))
    (hrdy : rc = { rc with state := .ready, pending := none } := by rfl) :
    Calls Tryz.prog 225 #[.func (.yield L) #[] #[], .pointer (some ⟨b1, 0, none⟩)] w' fun e' w2 => (∃ v, e' = .returned v) ∧ St w' (keys (pwM L Dk rc b5 b2 b1 e b 1)) w2 (pwM L Dk rc b5 b2 b1 e b (b ^ e % p)) := by
  obtain ⟨len, hlen, hl1, _, hlz⟩ := bits_Len64_ok e he
  refine enterL (args := [.func (.yield L) #[] #[], .pointer (some ⟨b1, 0, none⟩)]) Tryz.func225 Tryz.ntmps225 hs hnd ?_
  obtain ⟨bo, hbo⟩ : ∃ bo, bo = keys (pwM L Dk rc b5 b2 b1 e b 1) := ⟨_, rfl⟩
  rw [← hbo] at hround ⊢
  have h1p : b ^ (e / 2 ^ len) % p = 1 := by rw [Nat.div_eq_of_lt hl1, Nat.pow_zero, Nat.mod_eq_of_lt hp]
  refine c_seq <| c_reg <| s_y (y_ld (v := U e)) <| s_pure (fun w2 _ => hlz w2) <| s_y (y_sub (p := len) (q := 1)) <| s_y y_as <| s_nil <| q_then <| c_block <| ?_
  refine c_loop (fun j : Nat => [(0, .func (.yield L) #[] #[]), (1, .pointer (some ⟨b1, 0, none⟩)), (3, I ((j : Int) - 1))]) (fun j => pwM L Dk rc b5 b2 b1 e b (b ^ (e / 2 ^ j) % p)) (fun j => j ≤ 64) (fun j => j) len hlen ⟨rfl, rfl, rfl, trivial⟩ (by rw [h1p]; exact .refl _) ?_
  intro j hj
  refine c_seq <| c_seq <| c_reg <| s_y y_mv <| s_y (y_geq (p := (j : Int) - 1) (q := 0)) <| s_nil <| q_then <| c_ifd (fun h8 => ?_) (fun h8 => ?_)
  · obtain ⟨i, rfl⟩ : ∃ i, j = i + 1 := ⟨j - 1, by omega⟩
    rw [show ((i + 1 : Nat) : Int) - 1 = (i : Int) by omega]
    refine c_skip <| q_then <| c_seq <| c_block <| c_seq <| c_reg <| s_y y_mv <| s_y (y_ld (v := U e)) <| s_y y_mv <| s_y (y_shrW i) <| s_y (y_mask (p := e / 2 ^ i) 1 (hp := by simp only [IntKind.bits]; exact Nat.lt_of_le_of_lt (Nat.div_le_self _ _) he)) <| s_y (y_eql (p := ((e / 2 ^ i % 2 ^ 1 : Nat) : Int)) (q := 1)) <| ?_
    rw [show decide (((e / 2 ^ i % 2 ^ 1 : Nat) : Int) = 1) = decide (e / 2 ^ i % 2 = 1) from decide_eq_decide.2 ⟨fun h => by omega, fun h => by omega⟩]
    refine s_yield (L := L) (rc := rc) (σ := Unit) (fun _ => .bool true) (fun _ => pwM L Dk { rc with state := .ready, pending := none } b5 b2 b1 e b (b ^ (e / 2 ^ i) % p)) (fun _ => True) (.head _) hpz (fun w2 h2 => hround i w2 h2) (fun _ _ => ?_)
    rw [← hrdy]
    refine s_y (v := .bool false) (y_not (b := true)) <| s_nil <| q_then <| c_f <| c_skip <| q_nb <| q_then <| c_reg <| s_y y_mv <| s_y (y_sub (p := (i : Int)) (q := 1)) <| s_y y_as <| s_nil <| q_round i (by omega) (by omega) ⟨rfl, rfl, rfl, trivial⟩ (.refl _)
  · obtain rfl : j = 0 := by omega
    rw [Nat.pow_zero, Nat.div_one]
    refine c_exit <| q_ex <| q_ex <| q_exb <| ?_
    exact ret0 Tryz.results225 (fun w2 h2 => ⟨⟨_, rfl⟩, h2⟩) _ (.inr rfl)
theorem group_power_ok (w : World) (b e : Nat) (hb : b < 4611686018427377339) (he : e < 18446744073709551616) :
    Pure Tryz.prog 152 [U b, U e] w (U (b ^ e % 4611686018427377339)) := by
  refine enterM Tryz.func152 Tryz.ntmps152 ?_
  refine c_seq <| c_reg <| s_box rfl fun b2 => s_y y_as <| s_nil <| q_then <| c_seq <| c_reg <| s_alloc fun b5 => s_st (b := b5) (v := U 1) (cs := #[U 0]) (hl := Nat.zero_lt_one) ?_
  refine s_nil <| q_then <| c_seq <| c_seq <| c_reg <| s_y y_mv <| s_gives (fun w' hw => group_digits_ok w' e) fun b1 _ => s_nil <| q_then <| c_block <| ?_
  refine c_rangeN (σ := Unit) (fun _ => [.blk b1 (.cells #[U e] 146 (0, 0)), .blk b5 (.cells #[U (b ^ e % 4611686018427377339)] 146 (0, 0)), .blk b2 (.cells #[U b] 146 (0, 0))]) (fun _ => True) (fun fn tm Dk L hfr w' hw' => ?_) (fun Dk _ _ => ?_)
  rotate_left
  · refine q_nb <| q_then <| c_seq <| c_reg <| s_y (y_ld (b := b5) (v := U (b ^ e % 4611686018427377339))) <| s_y y_as <| s_nil <| q_then <| c_ret <| ?_
    exact ret1E Tryz.results152 (.head _) rv_t fun w' hw => ⟨rfl, hw.sub (List.nil_sublist _)⟩
  · have hps := (show St w [] w' (pwM L Dk _ b5 b2 b1 e b 1 ++ []) by rw [List.append_nil]; exact hw').has
    refine (digits1_ok w' _ L Dk b5 b2 b1 e b 4611686018427377339 he (by decide) hps.1 hps.2 rfl (fun i w2 h2 => ?_)).mono fun e' w2 ⟨hv, h2⟩ => ⟨hv, (), trivial, by have h9 := hw'.transL (l2 := []) (by rw [List.append_nil]; exact .refl _) h2; rw [List.append_nil] at h9; exact h9⟩
    have hf9 := (hfr []).put 9 (.bool (decide (e / 2 ^ i % 2 = 1))) rfl
    have hst := pow_step b e i 4611686018427377339
    dsimp only at hst
    obtain ⟨a, ha⟩ : ∃ a, b ^ (e / 2 ^ (i + 1)) % 4611686018427377339 = a := ⟨_, rfl⟩
    have hal : a < 4611686018427377339 := by rw [← ha]; exact Nat.mod_lt _ (by decide)
    rw [ha] at hst h2
    refine round_ok (F1 := [(2, .pointer (some ⟨b2, 0, none⟩)), (5, .pointer (some ⟨b5, 0, none⟩)), (6, .bool (decide (e / 2 ^ i % 2 = 1)))]) h2 hf9 (by simp [Act.put]) (by rfl) (.head _) (l1 := pwM L Dk _ b5 b2 b1 e b a) ?_ ?_
    · refine c_reg <| s_y y_as <| s_nil <| q_join ⟨rfl, rfl, rfl, trivial⟩ (List.Sublist.refl _)
    · refine c_block <| c_seq <| c_reg <| s_y (y_ld (b := b5) (v := U a)) <| s_y (y_ld (b := b5) (v := U a)) <| s_pure (fun w3 h3 => group_times_ok w3 a a hal hal) <| s_st (b := b5) (v := U (a * a % 4611686018427377339)) (cs := #[U a]) (hl := Nat.zero_lt_one) ?_
      refine s_nil <| q_then <| c_seq <| c_reg <| s_y y_mv <| s_nil <| q_then <| c_ifd (fun h13 => ?_) (fun h13 => ?_)
      · rw [if_pos h13] at hst
        refine c_reg <| s_y (y_ld (b := b5) (v := U (a * a % 4611686018427377339))) <| s_y (y_ld (b := b2) (v := U b)) <| s_pure (fun w3 h3 => group_times_ok w3 (a * a % 4611686018427377339) b (Nat.mod_lt _ (by decide)) hb) <| s_st (b := b5) (v := U (a * a % 4611686018427377339 * b % 4611686018427377339)) (cs := #[U (a * a % 4611686018427377339)]) (hl := Nat.zero_lt_one) ?_
        refine s_nil <| q_nb <| q_rn (.head _) fun w3 h3 => ⟨(), trivial, rfl, ?_⟩
        rw [hst]; exact h3
      · rw [if_neg h13] at hst
        refine c_skip <| q_nb <| q_rn (.head _) fun w3 h3 => ⟨(), trivial, rfl, ?_⟩
        rw [hst]; exact h3
end Go.Proofs.YtejdjnkilikehaaGreatDoor
namespace Go.Proofs.YtejdjnkilikehaaGreatDoor
open Go Eng Sha Cod Dv
theorem four_Q : 4 ^ Num.Q % 4611686018427377339 = 1 := by
  have h := Num.four.1
  rw [show Num.P = 4611686018427377339 from rfl, show 1 % 4611686018427377339 = 1 from rfl] at h
  exact h
end Go.Proofs.YtejdjnkilikehaaGreatDoor
end
section
namespace Gf
open Eng
theorem pp_ex : ∃ f : Nat → Nat → Nat, ∀ a k, f a k = a ^ k % 4611686018427377339 := ⟨fun a k => a ^ k % 4611686018427377339, fun _ _ => rfl⟩
noncomputable def pp : Nat → Nat → Nat := Classical.choose pp_ex
theorem pp_def (a k : Nat) : pp a k = a ^ k % 4611686018427377339 := Classical.choose_spec pp_ex a k
theorem qq_ex : ∃ f : Nat → Nat → Nat, ∀ a k, f a k = a ^ k % 2305843009213688669 := ⟨fun a k => a ^ k % 2305843009213688669, fun _ _ => rfl⟩
noncomputable def qq : Nat → Nat → Nat := Classical.choose qq_ex
theorem qq_def (a k : Nat) : qq a k = a ^ k % 2305843009213688669 := Classical.choose_spec qq_ex a k
noncomputable def el (a : Int) : Bool := decide (1 ≤ a) && (decide (a < 4611686018427377339) && decide (pp a.toNat Num.Q = 1))
noncomputable def chk (a : Int) : Int := bif el a then 0 else 40
def sc (a : Int) : Bool := decide (0 ≤ a) && decide (a < 2305843009213688669)
noncomputable def expE (a k : Int) : Int := bif el a then (bif sc k then 0 else 1) else 40
noncomputable def expV (a k : Int) : Int := bif el a && sc k then ((pp a.toNat k.toNat : Nat) : Int) else 0
noncomputable def mulE (a b : Int) : Int := bif el a && el b then 0 else 40
noncomputable def mulV (a b : Int) : Int := bif el a && el b then ((a.toNat * b.toNat % 4611686018427377339 : Nat) : Int) else 0
theorem el_of {x : Nat} (h0 : 0 < x) (h1 : x < 4611686018427377339) : el (x : Int) = decide (pp x Num.Q = 1) := by
  unfold el
  rw [decide_eq_true (show (1 : Int) ≤ (x : Int) by omega), decide_eq_true (show (x : Int) < 4611686018427377339 by omega), Int.toNat_natCast, Bool.true_and, Bool.true_and]
theorem el_nat {a : Int} (h : el a = true) : ∃ x : Nat, a = (x : Int) ∧ 0 < x ∧ x < 4611686018427377339 ∧ pp x Num.Q = 1 := by
  unfold el at h
  simp only [Bool.and_eq_true, decide_eq_true_eq] at h
  exact ⟨a.toNat, by omega, by omega, by omega, h.2.2⟩
theorem sc_nat {a : Int} (h : sc a = true) : ∃ x : Nat, a = (x : Int) ∧ x < 2305843009213688669 := by
  unfold sc at h
  simp only [Bool.and_eq_true, decide_eq_true_eq] at h
  exact ⟨a.toNat, by omega, by omega⟩
theorem sc_of {x : Nat} (h : x < 2305843009213688669) : sc (x : Int) = true := by
  unfold sc
  rw [decide_eq_true (show (0 : Int) ≤ (x : Int) by omega), decide_eq_true (show (x : Int) < 2305843009213688669 by omega)]; rfl
theorem sc_lo {a : Int} (h : a < 0) : sc a = false := by unfold sc; rw [decide_eq_false (show ¬ 0 ≤ a by omega)]; rfl
theorem sc_hi {a : Int} (h : 2305843009213688669 ≤ a) : sc a = false := by unfold sc; rw [decide_eq_false (show ¬ a < 2305843009213688669 by omega)]; simp
theorem pp_lt (a k : Nat) : pp a k < 4611686018427377339 := by rw [pp_def]; exact Nat.mod_lt _ (by decide)
theorem qq_lt (a k : Nat) : qq a k < 2305843009213688669 := by rw [qq_def]; exact Nat.mod_lt _ (by decide)
/-- an element: a number -/
structure El (x : Nat) : Prop where
  pos : 0 < x
  lt : x < 4611686018427377339
  one : pp x Num.Q = 1
theorem El.el {x : Nat} (h : El x) : Gf.el (x : Int) = true := by rw [el_of h.pos h.lt, decide_eq_true h.one]
theorem pp_add (a m n : Nat) : pp a (m + n) = pp a m * pp a n % 4611686018427377339 := by rw [pp_def, pp_def, pp_def]; exact Num.pow_add_mod a m n _
theorem pp_pp (a m n : Nat) : pp (pp a m) n = pp a (m * n) := by rw [pp_def, pp_def, pp_def, ← Nat.pow_mod, ← Nat.pow_mul]
theorem pp_mul (a b k : Nat) : pp (a * b % 4611686018427377339) k = pp a k * pp b k % 4611686018427377339 := by
  rw [pp_def, pp_def, pp_def, ← Nat.pow_mod, Nat.mul_pow, Nat.mul_mod]
theorem pp_one (k : Nat) : pp 1 k = 1 := by rw [pp_def, Nat.one_pow]
theorem pp_self {x : Nat} (h : x < 4611686018427377339) : pp x 1 = x := by rw [pp_def]; rw [Nat.pow_one, Nat.mod_eq_of_lt h]
theorem El.pos' {y : Nat} (h : pp y Num.Q = 1) : 0 < y := by
  rcases Nat.eq_zero_or_pos y with h0 | h0
  · subst h0
    rw [pp_def, Nat.zero_pow (show 0 < Num.Q from (show 0 < 2305843009213688669 by decide))] at h
    exact absurd h (by decide)
  · exact h0
theorem El.mk' {y : Nat} (hl : y < 4611686018427377339) (h : pp y Num.Q = 1) : El y := ⟨El.pos' h, hl, h⟩
theorem El.pow {x : Nat} (h : El x) (k : Nat) : El (pp x k) := El.mk' (pp_lt _ _) (by rw [pp_pp, Nat.mul_comm, ← pp_pp, h.one, pp_one])
theorem El.mul {x y : Nat} (hx : El x) (hy : El y) : El (x * y % 4611686018427377339) := El.mk' (Nat.mod_lt _ (by decide)) (by rw [pp_mul, hx.one, hy.one])
theorem El.four : El 4 := El.mk' (by decide) (by rw [pp_def]; exact Go.Proofs.YtejdjnkilikehaaGreatDoor.four_Q)
theorem El.pmod {x : Nat} (h : El x) (k : Nat) : pp x (k % Num.Q) = pp x k := by
  have e : k = Num.Q * (k / Num.Q) + k % Num.Q := (Nat.div_add_mod k Num.Q).symm
  have h1 : pp x (Num.Q * (k / Num.Q)) = 1 := by rw [← pp_pp, h.one, pp_one]
  have h2 := pp_add x (Num.Q * (k / Num.Q)) (k % Num.Q)
  rw [← e, h1, Nat.one_mul, Nat.mod_eq_of_lt (pp_lt _ _)] at h2
  exact h2.symm
theorem El.pcongr {x : Nat} (h : El x) {a b : Nat} (hab : a % Num.Q = b % Num.Q) : pp x a = pp x b := by rw [← h.pmod a, hab, h.pmod]
theorem Qeq : Num.Q = 2305843009213688669 := rfl
theorem El.inv {x : Nat} (h : El x) : x * pp x 2305843009213688668 % 4611686018427377339 = 1 := by
  have h1 := pp_add x 1 2305843009213688668
  rw [pp_self h.lt, show 1 + 2305843009213688668 = Num.Q from rfl, h.one] at h1
  exact h1.symm
theorem mulP_assoc (a b c : Nat) : a * (b * c % 4611686018427377339) % 4611686018427377339 = a * b % 4611686018427377339 * c % 4611686018427377339 := by
  rw [Nat.mul_mod, Nat.mod_mod, ← Nat.mul_mod, Nat.mul_mod (a * b % 4611686018427377339), Nat.mod_mod, ← Nat.mul_mod, Nat.mul_assoc]
theorem qq_inv {x : Nat} (h0 : 0 < x) (h1 : x < 2305843009213688669) : x * qq x 2305843009213688667 % 2305843009213688669 = 1 := by
  have h := Num.fermat_Q (a := x) (by rw [Qeq, Nat.mod_eq_of_lt h1]; omega)
  rw [qq_def]
  have h2 := Num.pow_add_mod x 1 2305843009213688667 2305843009213688669
  rw [Nat.pow_one, Nat.mod_eq_of_lt h1] at h2
  rw [← h2, show 1 + 2305843009213688667 = Num.Q - 1 from rfl]
  exact h
end Gf
end
section
namespace Sig
open Go Eng Sha Gf Go.Proofs.YtejdjnkilikehaaGreatDoor
abbrev tSign : List UInt8 := [115, 105, 103, 110]
abbrev tNonce : List UInt8 := [110, 111, 110, 99, 101]
def chal (r p : Nat) (m : List UInt8) : Nat := scal tSign (be r 8 ++ be p 8 ++ m)
def nonce (x : Nat) (m : List UInt8) : Nat := scal tNonce (be x 8 ++ m)
noncomputable def sgR (x : Nat) (m : List UInt8) : Nat := pp 4 (nonce x m)
noncomputable def sgS (x : Nat) (m : List UInt8) : Nat := (nonce x m + chal (sgR x m) (pp 4 x) m * x % 2305843009213688669) % 2305843009213688669
noncomputable def vrf (p : Int) (m : List UInt8) (r s : Int) : Bool :=
  el p && (el r && (sc s && decide (pp 4 s.toNat = r.toNat * pp p.toNat (chal r.toNat p.toNat m) % 4611686018427377339)))
theorem chal_lt (r p : Nat) (m : List UInt8) : chal r p m < 2305843009213688669 := (scal_lt _ _).2
theorem nonce_lt (x : Nat) (m : List UInt8) : nonce x m < 2305843009213688669 := (scal_lt _ _).2
theorem sgR_el (x : Nat) (m : List UInt8) : El (sgR x m) := El.four.pow _
theorem sgS_lt (x : Nat) (m : List UInt8) : sgS x m < 2305843009213688669 := Nat.mod_lt _ (by decide)
theorem vrf_sign (x : Nat) (m : List UInt8) : vrf (pp 4 x : Nat) m (sgR x m : Nat) (sgS x m : Nat) = true := by
  unfold vrf
  rw [(El.four.pow x).el, (sgR_el x m).el, sc_of (sgS_lt x m), Bool.true_and, Bool.true_and, Bool.true_and, Int.toNat_natCast, Int.toNat_natCast, Int.toNat_natCast]
  refine decide_eq_true ?_
  have h1 : pp 4 (sgS x m) = pp 4 (nonce x m + chal (sgR x m) (pp 4 x) m * x) := El.four.pcongr (by
    unfold sgS
    rw [Qeq, Nat.mod_mod, Nat.add_mod_mod])
  rw [h1, pp_add, pp_pp, Nat.mul_comm x]
  rfl
end Sig
end
section
namespace Go.Proofs.YtejdjnkilikehaaGreatDoor
open Go Eng
theorem slices_Index_int_int_ok (w : World) (a : Option Addr) (q : List Int) (c : Nat) (v : Int) (hr : Rd w a (is q)) (hl : q.length < 9223372036854775807) :
    Pure Tryz.prog 162 [.slice a q.length c, I v] w (I (fidx (fun x => decide (v = x)) q)) := by
  refine enter Tryz.func162 Tryz.ntmps162 ?_
  refine c_seq <| c_reg <| s_y y_as <| s_nil <| q_then <| c_seq <| c_seq <| c_reg <| s_y y_mv <| s_y y_len <| s_y y_mv <| s_nil <| q_then <| c_block <| ?_
  refine c_loop (fun k : Nat => [(0, .slice a q.length c), (1, I v), (7, I q.length), (8, I k)]) (fun _ => []) (fun k => k ≤ q.length ∧ ∀ i, i < k → decide (v = q.getD i 0) = false) (fun k => q.length - k) 0 ⟨by omega, by omega⟩ ⟨rfl, rfl, rfl, rfl, trivial⟩ (List.Sublist.refl _) ?_
  intro k ⟨hk, hno⟩
  refine c_seq <| c_reg <| s_y y_lss <| s_nil <| q_then <| c_seq <| ?_
  refine c_ifd (fun h9 => ?_) (fun h9 => ?_)
  · refine c_skip <| q_then <| c_seq <| c_block <| c_seq <| c_reg <| s_y y_mv <| s_y y_as <| s_nil <| q_then <| c_seq <| c_reg <| s_y y_mv <| s_y y_mv <| s_y y_mv <| s_y y_ixs1 <| s_y y_ldi <| s_y y_eql <| s_nil <| q_then <| ?_
    rw [Int.toNat_natCast]
    refine c_ifd (fun h16 => ?_) (fun h16 => ?_)
    · refine c_seq <| c_reg <| s_y y_mv <| s_y y_as <| s_nil <| q_then <| ?_
      refine c_ret <| q_retb <| q_ret <| q_ret <| q_retb <| q_ret <| ?_
      exact ret1 Tryz.results162 rv_t fun w' hw => ⟨by rw [fidx_hit (d := 0) (by omega) hno (by simpa using h16)], hw⟩
    · refine c_skip <| q_nb <| q_then <| c_reg <| s_y y_add <| s_y y_mv <| s_nil <| q_round (k + 1) ⟨by omega, ?_⟩ (by omega) ⟨rfl, rfl, rfl, rfl, trivial⟩ (List.Sublist.refl _)
      intro i hi
      by_cases e : i = k
      · subst e; simpa using h16
      · exact hno i (by omega)
  · refine c_exit <| q_ex <| q_ex <| q_exb <| q_then <| c_seq <| c_reg <| s_y y_as <| s_nil <| q_then <| ?_
    refine c_ret <| ?_
    exact ret1 Tryz.results162 rv_t fun w' hw => ⟨by rw [fidx_none (d := 0) (fun i hi => hno i (by omega))], hw⟩
theorem slices_Contains_int_int_ok (w : World) (a : Option Addr) (q : List Int) (c : Nat) (v : Int) (hr : Rd w a (is q)) (hl : q.length < 9223372036854775807) :
    Pure Tryz.prog 90 [.slice a q.length c, I v] w (.bool (q.any (fun x => decide (v = x)))) := by
  refine enter Tryz.func90 Tryz.ntmps90 ?_
  refine c_seq <| c_reg <| s_y y_as <| s_nil <| q_then <| c_seq <| c_reg <| s_y y_mv <| s_y y_mv <| s_pure (fun w' hw => slices_Index_int_int_ok w' a q c v (hr.st hw) hl) <| s_y y_geq <| s_y y_as <| s_nil <| q_then <| ?_
  refine c_ret <| ?_
  exact ret1 Tryz.results90 rv_t fun w' hw => ⟨by rw [fidx_any], hw⟩
theorem slices_IndexFunc_byte_byte_ok (w : World) (a : Option Addr) (q : List UInt8) (c : Nat) (kf : FuncId) (fs cs : List Value) [HF Tryz.prog kf] (p : UInt8 → Bool) (hp : ∀ w' x, St w [] w' [] → Pure Tryz.prog kf (fs ++ [B x] ++ cs) w' (.bool (p x))) (hr : Rd w a (bs q)) (hl : q.length < 9223372036854775807) :
    Pure Tryz.prog 163 [.slice a q.length c, .func (.func kf) fs.toArray cs.toArray] w (I (fidx p q)) := by
  refine enter Tryz.func163 Tryz.ntmps163 ?_
  refine c_seq <| c_reg <| s_y y_as <| s_nil <| q_then <| c_seq <| c_seq <| c_reg <| s_y y_mv <| s_y y_len <| s_y y_mv <| s_nil <| q_then <| c_block <| ?_
  refine c_loop (fun k : Nat => [(0, .slice a q.length c), (1, .func (.func kf) fs.toArray cs.toArray), (7, I q.length), (8, I k)]) (fun _ => []) (fun k => k ≤ q.length ∧ ∀ i, i < k → p (q.getD i 0) = false) (fun k => q.length - k) 0 ⟨by omega, by omega⟩ ⟨rfl, rfl, rfl, rfl, trivial⟩ (List.Sublist.refl _) ?_
  intro k ⟨hk, hno⟩
  refine c_seq <| c_reg <| s_y y_lss <| s_nil <| q_then <| c_seq <| ?_
  refine c_ifd (fun h9 => ?_) (fun h9 => ?_)
  · refine c_skip <| q_then <| c_seq <| c_block <| c_seq <| c_reg <| s_y y_mv <| s_y y_as <| s_nil <| q_then <| c_seq <| c_reg <| s_y y_mv <| s_y y_mv <| s_y y_mv <| s_y y_ixs1 <| s_y y_ldb <| s_pure (fun w' hw => hp w' _ hw) <| s_nil <| q_then <| ?_
    rw [Int.toNat_natCast]
    refine c_if rfl (fun h16 => ?_) (fun h16 => ?_)
    · refine c_seq <| c_reg <| s_y y_mv <| s_y y_as <| s_nil <| q_then <| ?_
      refine c_ret <| q_retb <| q_ret <| q_ret <| q_retb <| q_ret <| ?_
      exact ret1 Tryz.results163 rv_t fun w' hw => ⟨by rw [fidx_hit (d := 0) (by omega) hno h16], hw⟩
    · refine c_skip <| q_nb <| q_then <| c_reg <| s_y y_add <| s_y y_mv <| s_nil <| q_round (k + 1) ⟨by omega, ?_⟩ (by omega) ⟨rfl, rfl, rfl, rfl, trivial⟩ (List.Sublist.refl _)
      intro i hi
      by_cases e : i = k
      · subst e; exact h16
      · exact hno i (by omega)
  · refine c_exit <| q_ex <| q_ex <| q_exb <| q_then <| c_seq <| c_reg <| s_y y_as <| s_nil <| q_then <| ?_
    refine c_ret <| ?_
    exact ret1 Tryz.results163 rv_t fun w' hw => ⟨by rw [fidx_none (d := 0) (fun i hi => hno i (by omega))], hw⟩
theorem slices_ContainsFunc_byte_byte_ok (w : World) (a : Option Addr) (q : List UInt8) (c : Nat) (kf : FuncId) (fs cs : List Value) [HF Tryz.prog kf] (p : UInt8 → Bool) (hp : ∀ w' x, St w [] w' [] → Pure Tryz.prog kf (fs ++ [B x] ++ cs) w' (.bool (p x))) (hr : Rd w a (bs q)) (hl : q.length < 9223372036854775807) :
    Pure Tryz.prog 91 [.slice a q.length c, .func (.func kf) fs.toArray cs.toArray] w (.bool (q.any p)) := by
  refine enter Tryz.func91 Tryz.ntmps91 ?_
  refine c_seq <| c_reg <| s_y y_as <| s_nil <| q_then <| c_seq <| c_reg <| s_y y_mv <| s_y y_mv <| s_pure (fun w' hw => slices_IndexFunc_byte_byte_ok w' a q c kf fs cs p (fun w2 x h2 => hp w2 x ((hw.trans h2).sub (by simp))) (hr.st hw) hl) <| s_y y_geq <| s_y y_as <| s_nil <| q_then <| ?_
  refine c_ret <| ?_
  exact ret1 Tryz.results91 rv_t fun w' hw => ⟨by rw [fidx_any], hw⟩
theorem sort_Search_ok (w : World) (nn m : Int) (kf : FuncId) (fs cs : List Value) [HF Tryz.prog kf] (p : Int → Bool) (hp : ∀ w' i, St w [] w' [] → 0 ≤ i → i < nn → Pure Tryz.prog kf (fs ++ [I i] ++ cs) w' (.bool (p i)))
    (h0 : 0 ≤ m) (hm : m ≤ nn) (hn : nn ≤ 4611686018427387903) (hlo : ∀ i, 0 ≤ i → i < m → p i = false) (hhi : ∀ i, m ≤ i → i < nn → p i = true) :
    Pure Tryz.prog 78 [I nn, .func (.func kf) fs.toArray cs.toArray] w (I m) := by
  refine enter Tryz.func78 Tryz.ntmps78 ?_
  refine c_seq <| c_reg <| s_y y_as <| s_nil <| q_then <| c_seq <| c_reg <| s_y y_mv <| s_y y_as <| s_y y_as <| s_nil <| q_then <| c_seq <| c_block <| ?_
  refine c_loop2 (fun i j : Int => [(1, .func (.func kf) fs.toArray cs.toArray), (5, I i), (6, I j)]) (fun _ _ => []) (fun i j => 0 ≤ i ∧ i ≤ m ∧ m ≤ j ∧ j ≤ nn) (fun i j => (j - i).toNat) 0 nn ⟨by omega, h0, hm, by omega⟩ ⟨rfl, rfl, rfl, trivial⟩ (List.Sublist.refl _) ?_
  rintro i j ⟨hi0, him, hmj, hjn⟩
  refine c_seq <| c_seq <| c_reg <| s_y y_mv <| s_y y_mv <| s_y y_lss <| s_nil <| q_then <| ?_
  refine c_ifd (fun h11 => ?_) (fun h11 => ?_)
  · refine c_skip <| q_then <| c_block <| c_seq <| c_reg <| s_y y_mv <| s_y y_mv <| s_y y_add <| s_y y_cvn <| s_y (y_shrc 1) <| s_y y_cvn <| s_y y_as <| s_nil <| q_then <| c_seq <| c_reg <| s_y y_mv <| s_y y_mv <| s_pure (fun w' hw => hp w' ((i + j) / 2 ^ 1) hw (by omega) (by omega)) <| s_y y_not <| s_nil <| q_then <| ?_
    have hh : ∀ x, x = (i + j) / 2 ^ 1 → (p x = false → x < m) ∧ (p x = true → m ≤ x) ∧ i ≤ x ∧ x < j := by
      intro x hx
      have e : x = (i + j) / 2 := by simpa using hx
      refine ⟨fun h => ?_, fun h => ?_, by omega, by omega⟩
      · rcases Int.lt_or_le x m with h1 | h1
        · exact h1
        · rw [hhi x h1 (by omega)] at h; cases h
      · rcases Int.lt_or_le x m with h1 | h1
        · rw [hlo x (by omega) h1] at h; cases h
        · exact h1
    obtain ⟨e1, e2, e3, e4⟩ := hh _ rfl
    refine c_if rfl (fun h21 => ?_) (fun h21 => ?_)
    · have h22 := e1 (by simpa using h21)
      refine c_reg <| s_y y_mv <| s_y y_add <| s_y y_as <| s_nil <| q_nb <| q_round2 ((i + j) / 2 ^ 1 + 1) j ⟨by omega, by omega, hmj, hjn⟩ (by omega) ⟨rfl, rfl, rfl, trivial⟩ (List.Sublist.refl _)
    · have h22 := e2 (by simpa using h21)
      refine c_reg <| s_y y_mv <| s_y y_as <| s_nil <| q_nb <| q_round2 i ((i + j) / 2 ^ 1) ⟨hi0, him, h22, by omega⟩ (by omega) ⟨rfl, rfl, rfl, trivial⟩ (List.Sublist.refl _)
  · have e : i = m := by omega
    subst e
    refine c_exit <| q_ex <| q_ex <| q_exb <| q_then <| c_seq <| c_reg <| s_y y_mv <| s_y y_as <| s_nil <| q_then <| ?_
    refine c_ret <| ?_
    exact ret1 Tryz.results78 rv_t fun w' hw => ⟨rfl, hw⟩
end Go.Proofs.YtejdjnkilikehaaGreatDoor
end
section
namespace Go.Proofs.YtejdjnkilikehaaGreatDoor
open Go Eng
def lens : List Int := [64, 256, 1024, 4096, 16384, 65536]
def pcl (n : Int) : Int := if n + 4 ≤ 64 then 0 else if n + 4 ≤ 256 then 1 else if n + 4 ≤ 1024 then 2 else if n + 4 ≤ 4096 then 3 else if n + 4 ≤ 16384 then 4 else 5
def plen (i : Int) : Int := if i = 0 then 64 else if i = 1 then 256 else if i = 2 then 1024 else if i = 3 then 4096 else if i = 4 then 16384 else 65536
theorem lens_cell {i : Int} (h0 : 0 ≤ i) (h1 : i < 6) : (is lens)[i.toNat]? = some (I (plen i)) := by
  have : i = 0 ∨ i = 1 ∨ i = 2 ∨ i = 3 ∨ i = 4 ∨ i = 5 := by omega
  rcases this with rfl | rfl | rfl | rfl | rfl | rfl <;> rfl
theorem plen_le (i : Int) : 64 ≤ plen i ∧ plen i ≤ 65536 := by unfold plen; repeat' split
                                                               all_goals omega
theorem pcl_bd (n : Int) : 0 ≤ pcl n ∧ pcl n < 6 := by unfold pcl; repeat' split
                                                       all_goals omega
def clV (n : Int) : Int := if n < 0 ∨ 65532 < n then 0 else pcl n
def clE (n : Int) : Int := if n < 0 ∨ 65532 < n then 280 else 0
def lnV (i : Int) : Int := if i < 0 ∨ 6 ≤ i then 0 else plen i
def lnE (i : Int) : Int := if i < 0 ∨ 6 ≤ i then 280 else 0
def LD (w : World) : Prop := Rd w (some ⟨0, 0, none⟩) (is lens)
theorem LD.st {W w : World} {l : SH} (h : LD W) (hs : St W [] w l) : LD w := Rd.st h hs
theorem padding_Class_1_ok (w : World) (n i : Int) (b : Nat) (hg : LD w) (hb : Rd w (some ⟨b, 0, none⟩) [I n]) (h0 : 0 ≤ i) (h1 : i < 6) (hn : 0 ≤ n) (hn2 : n ≤ 65532) :
    Pure Tryz.prog 79 [I i, .pointer (some ⟨b, 0, none⟩)] w (.bool (decide (n + 4 ≤ plen i))) := by
  refine enter Tryz.func79 Tryz.ntmps79 ?_
  refine c_seq <| c_reg <| s_y y_as <| s_nil <| q_then <| c_seq <| c_regd <| d_y y_mv <| d_y y_ixa1 <| d_y (y_ldr (a := some ⟨0, 0, none⟩) (lens_cell h0 h1) (hr := rdW0 hg)) <| d_y (y_ldr (a := some ⟨b, 0, none⟩) (i := 0) (xs := [I n]) rfl (hr := rdW0 hb)) <| d_y y_add <| d_y y_geq <| d_y y_as <| d_nil <| q_then <| ?_
  refine c_ret <| ?_
  exact ret1 Tryz.results79 rv_t fun w' hw => ⟨rfl, hw⟩
theorem padding_Class_ok (w : World) (n : Int) (hg : LD w) :
    Pure Tryz.prog 32 [I n] w (.tuple #[I (clV n), I (clE n)]) := by
  refine enter Tryz.func32 Tryz.ntmps32 ?_
  refine c_seq <| c_reg <| s_box rfl fun b1 => s_y y_as <| s_y y_as <| s_nil <| q_then <| c_seq <| c_seq <| c_reg <| s_y y_ld <| s_ifd y_lss (fun h1 => s_y y_mv <| s_no <| s_no <| s_no <| s_no <| s_no <| s_y y_pk <| s_nil <| q_then <| ?_) (fun h1 => s_y y_mv <| s_y y_ld <| s_y y_ixa1 <| s_y (y_ldr (a := some ⟨0, 0, none⟩) (xs := is lens) (v := I 65536) rfl (hr := rdW0 hg)) <| s_y y_sub <| s_y y_gtr <| s_y y_pk <| s_nil <| q_then <| ?_)
  · refine c_t <| c_seq <| c_reg <| s_y y_as <| s_y y_as <| s_nil <| q_then <| ?_
    refine c_ret <| q_ret <| ?_
    exact ret2 Tryz.results32 rv_t rv_t fun w' hw => ⟨by first | (simp [clV, clE, h1]; done) | (simp [lnV, lnE, h1]; done), hw.sub (by simp)⟩
  refine c_ifd (fun h12 => ?_) (fun h12 => ?_)
  · refine c_seq <| c_reg <| s_y y_as <| s_y y_as <| s_nil <| q_then <| ?_
    refine c_ret <| q_ret <| ?_
    exact ret2 Tryz.results32 rv_t rv_t fun w' hw => ⟨by have : n < 0 ∨ 65532 < n := .inr h12; simp [clV, clE, this], hw.sub (by simp)⟩
  · refine c_skip <| q_then <| c_seq <| c_reg <| s_y y_func <| ?_
    refine s_pure (fun w' hw => sort_Search_ok w' 6 (pcl n) 79 [] [.pointer (some ⟨b1, 0, none⟩)] (fun i => decide (n + 4 ≤ plen i)) (fun w2 i h2 hi0 hi1 => padding_Class_1_ok w2 n i b1 ((hg.st hw).st h2) (Rd.st (rdB (cs := #[I n]) (.head _) (fun i v h => by simpa using h) w' hw) h2) hi0 hi1 (by omega) (by omega)) (pcl_bd n).1 (by have := pcl_bd n; omega) (by omega) ?_ ?_) <| s_y y_as <| s_y y_as <| s_nil <| q_then <| ?_
    · intro i hi0 hi1
      have hlt : i < 6 := by have := pcl_bd n; omega
      have hno : ¬ n + 4 ≤ plen i := by
        have : i = 0 ∨ i = 1 ∨ i = 2 ∨ i = 3 ∨ i = 4 ∨ i = 5 := by omega
        unfold pcl at hi1
        rcases this with rfl | rfl | rfl | rfl | rfl | rfl <;> simp [plen] <;> (repeat' split at hi1) <;> omega
      simpa using hno
    · intro i hi0 hi1
      have h0 : 0 ≤ i := by have := pcl_bd n; omega
      have hyes : n + 4 ≤ plen i := by
        have : i = 0 ∨ i = 1 ∨ i = 2 ∨ i = 3 ∨ i = 4 ∨ i = 5 := by omega
        unfold pcl at hi0
        rcases this with rfl | rfl | rfl | rfl | rfl | rfl <;> simp [plen] <;> (repeat' split at hi0) <;> omega
      simpa using hyes
    refine c_ret <| ?_
    have h9 : ¬ (n < 0 ∨ 65532 < n) := by omega
    exact ret2 Tryz.results32 rv_t rv_t fun w' hw => ⟨by simp [clV, clE, h9], hw.sub (by simp)⟩
theorem padding_Length_ok (w : World) (i : Int) (hg : LD w) :
    Pure Tryz.prog 33 [I i] w (.tuple #[I (lnV i), I (lnE i)]) := by
  refine enter Tryz.func33 Tryz.ntmps33 ?_
  refine c_seq <| c_reg <| s_y y_as <| s_y y_as <| s_nil <| q_then <| c_seq <| c_seq <| c_reg <| s_y y_mv <| s_ifd y_lss (fun h1 => s_y y_mv <| s_no <| s_no <| s_y y_pk <| s_nil <| q_then <| c_t <| ?_) (fun h1 => s_y y_mv <| s_y y_mv <| s_y y_geq <| s_y y_pk <| s_nil <| q_then <| c_ifd (fun h9 => ?_) (fun h9 => ?_))
  · refine c_seq <| c_reg <| s_y y_as <| s_y y_as <| s_nil <| q_then <| ?_
    refine c_ret <| q_ret <| ?_
    exact ret2 Tryz.results33 rv_t rv_t fun w' hw => ⟨by first | (simp [clV, clE, h1]; done) | (simp [lnV, lnE, h1]; done), hw⟩
  · refine c_seq <| c_reg <| s_y y_as <| s_y y_as <| s_nil <| q_then <| ?_
    refine c_ret <| q_ret <| ?_
    exact ret2 Tryz.results33 rv_t rv_t fun w' hw => ⟨by have : i < 0 ∨ 6 ≤ i := .inr h9; simp [lnV, lnE, this], hw⟩
  · refine c_skip <| q_then <| c_seq <| c_reg <| s_y y_mv <| s_y y_ixa1 <| s_y (y_ldr (a := some ⟨0, 0, none⟩) (lens_cell (i := i) (by omega) (by omega)) (hr := rdW0 hg)) <| s_y y_as <| s_y y_as <| s_nil <| q_then <| ?_
    refine c_ret <| ?_
    have h8 : ¬ (i < 0 ∨ 6 ≤ i) := by omega
    exact ret2 Tryz.results33 rv_t rv_t fun w' hw => ⟨by simp [lnV, lnE, h8], hw⟩
def be4 (n : Nat) : List UInt8 := [UInt8.ofNat (n / 2 ^ 24), UInt8.ofNat (n / 2 ^ 16), UInt8.ofNat (n / 2 ^ 8), UInt8.ofNat n]
def pad (q : List UInt8) : List UInt8 := if 65532 < q.length then [] else be4 q.length ++ q ++ List.replicate ((plen (pcl q.length)).toNat - 4 - q.length) 0
def padE (q : List UInt8) : Int := if 65532 < q.length then 280 else 0
theorem plen_pcl {n : Int} (h0 : 0 ≤ n) (h : n ≤ 65532) : n + 4 ≤ plen (pcl n) := by
  unfold pcl
  repeat' split
  all_goals simp [plen]
  all_goals omega
theorem pad_length {q : List UInt8} (h : q.length ≤ 65532) : ((pad q).length : Int) = plen (pcl q.length) := by
  have h1 := plen_pcl (n := q.length) (by omega) (by omega)
  rw [pad, if_neg (by omega)]
  simp [be4]
  omega
theorem be4_get (n k : Nat) (hk : k < 4) : (be4 n).getD k 0 = UInt8.ofNat ((((n : Int) / 2 ^ (8 * (3 - (k : Int))).toNat) % 256).toNat) := by
  have : k = 0 ∨ k = 1 ∨ k = 2 ∨ k = 3 := by omega
  have key : ∀ m : Nat, UInt8.ofNat (((m : Int) % 256).toNat) = UInt8.ofNat m := by
    intro m
    apply UInt8.toNat_inj.1
    simp
    omega
  have key2 : ∀ m : Nat, UInt8.ofNat (n / 2 ^ m) = UInt8.ofNat (((n : Int) / 2 ^ m) % 256).toNat := by
    intro m
    rw [← key (n / 2 ^ m)]
    simp
  rcases this with rfl | rfl | rfl | rfl
  · exact key2 24
  · exact key2 16
  · exact key2 8
  · have := key2 0
    rw [Nat.pow_zero, Nat.div_one] at this
    exact this
theorem padding_Pad_ok (w : World) (a : Option Addr) (c : Nat) (q : List UInt8) (hg : LD w) (hr : Rd w a (bs q)) (hq : q.length < 9223372036854775807) :
    Gives Tryz.prog 103 [.slice a q.length c] w [] (fun x : Option Addr × Nat => .tuple #[.slice x.1 (pad q).length x.2, I (padE q)])
      (fun x => [.row x.1 x.2 5 1 (pad q).length (bs (pad q))]) (fun _ => True) := by
  refine enter Tryz.func103 Tryz.ntmps103 ?_
  refine c_seq <| c_reg <| s_y y_as <| s_y y_as <| s_nil <| q_then <| c_seq <| c_reg <| s_y y_mv <| s_y y_len <| s_pure (fun w' hw => padding_Class_ok w' q.length (hg.st hw)) <| s_y y_mv <| s_y y_ext <| s_y y_ext <| s_y y_as <| s_y y_as <| s_nil <| q_then <| c_seq <| c_seq <| c_reg <| s_y y_mv <| s_y y_neq <| s_nil <| q_then <| c_ifn (fun h13 => ?_) (fun h13 => ?_)
  · have hbig : 65532 < q.length := by
      by_cases hc : (q.length : Int) < 0 ∨ 65532 < (q.length : Int)
      · omega
      · exact absurd (by simp [clE, hc]) h13
    have e1 : clE q.length = padE q := by
      have : (q.length : Int) < 0 ∨ 65532 < (q.length : Int) := by omega
      simp [clE, padE, hbig, this]
    have e2 : pad q = [] := by simp [pad, hbig]
    refine c_seq <| c_reg <| s_y y_mv <| s_y y_as <| s_y y_as <| s_nil <| q_then <| c_ret <| q_ret <| ?_
    refine ret2 Tryz.results103 rv_t rv_t fun w' hw => ⟨(none, 0), trivial, ?_, ?_⟩
    · rw [e1, e2]; rfl
    · rw [e2]; exact hw.nilRow _ _
  · have hsm : q.length ≤ 65532 := by
      by_cases hc : (q.length : Int) < 0 ∨ 65532 < (q.length : Int)
      · exact absurd h13 (by simp [clE, hc])
      · omega
    have e1 : clV q.length = pcl q.length := by
      have : ¬ ((q.length : Int) < 0 ∨ 65532 < (q.length : Int)) := by omega
      simp [clV, this]
    have hpb := pcl_bd q.length
    have hpl := plen_le (pcl q.length)
    have hpp := plen_pcl (n := q.length) (by omega) (by omega)
    rw [e1]
    refine c_skip <| q_then <| c_seq <| c_reg <| s_y y_mv <| s_y y_ixa1 <| s_y (y_ldr (a := some ⟨0, 0, none⟩) (lens_cell hpb.1 hpb.2) (hr := rdW0 hg)) <| s_mkb fun b18 => s_y y_as <| s_nil <| q_then <| c_seq <| c_seq <| c_reg <| s_y y_mv <| s_nil <| q_then <| c_block <| ?_
    generalize hL : plen (pcl q.length) = L at *
    refine c_loop (fun k : Nat => [(0, .slice a q.length c), (2, .slice (some ⟨b18, 0, none⟩) L.toNat L.toNat), (19, I k)]) (fun k => [.blk b18 (.cells (bs ((be4 q.length).take k ++ List.replicate (L.toNat - k) 0)).toArray 5 (0, 0))]) (fun k => k ≤ 4) (fun k => 4 - k) 0 (by omega) ⟨rfl, rfl, rfl, trivial⟩ (List.Sublist.refl _) ?_
    intro k hk
    refine c_seq <| c_reg <| s_y y_lss <| s_nil <| q_then <| c_seq <| c_ifd (fun h20 => ?_) (fun h20 => ?_)
    · refine c_skip <| q_then <| c_seq <| c_block <| c_seq <| c_reg <| s_y y_mv <| s_y y_as <| s_nil <| q_then <| c_reg <| s_y y_mv <| s_y y_mv <| s_y y_mv <| s_y y_len <| s_y y_mv <| s_y y_sub <| s_y y_mul <| s_y y_sar <| s_y y_cv8 <| s_y y_ixb1 <| s_stb (?_) (hl := ?_) 
      · rw [Int.toNat_natCast, Nat.zero_add, set_fill (be4 q.length) k L.toNat 0 _ 0 (by simp [be4]; omega) (by omega) (be4_get _ _ (by omega))]
        refine s_nil <| q_nb <| q_then <| c_reg <| s_y y_add <| s_y y_mv <| s_nil <| q_round (k + 1) (by omega) (by omega) ⟨rfl, rfl, rfl, trivial⟩ (List.Sublist.refl _)
      · simp [be4]; omega
    · have hk4 : k = 4 := by omega
      subst hk4
      refine c_exit <| q_ex <| q_ex <| q_exb <| q_then <| c_seq <| c_reg <| s_y y_mv <| s_y y_sll <| s_y y_mv <| ?_
      rw [sa_lt (by omega)]
      refine s_cpb (ys := q) (hfit := ?fit) ?_
      case fit =>
        have := Nat.min_le_left q.length (L.toNat - (4 : Int).toNat)
        have e9 : (be4 q.length).length = 4 := rfl
        have e8 : (4 : Int).toNat = 4 := rfl
        rw [List.length_append, List.length_replicate, List.length_take, e9, e8]
        rw [e8] at this
        change 0 + 4 * 1 + min q.length (L.toNat - 4) ≤ _
        omega
      refine s_nil <| q_then <| c_seq <| c_reg <| s_y y_mv <| s_y y_as <| s_y y_as <| s_nil <| q_then <| c_ret <| ?_
      have e3 : Nat.min q.length (L.toNat - (4 : Int).toNat) = q.length := by
        exact Nat.min_eq_left (by show q.length ≤ L.toNat - 4; omega)
      have e4 : (be4 q.length).take 4 = be4 q.length := rfl
      have e5 : (be4 q.length ++ List.replicate (L.toNat - 4) 0).take (0 + (4 : Int).toNat * 1) ++ q.take q.length ++ (be4 q.length ++ List.replicate (L.toNat - 4) 0).drop (0 + (4 : Int).toNat * 1 + q.length) = pad q := by
        rw [pad, if_neg (by omega), hL]
        have e8 : (be4 q.length).length = 4 := rfl
        rw [show 0 + (4 : Int).toNat * 1 = 4 from rfl, List.take_left' e8, List.take_length, List.drop_append, e8, List.drop_eq_nil_of_le (by rw [e8]; omega), List.nil_append, List.drop_replicate, show L.toNat - 4 - (4 + q.length - 4) = L.toNat - 4 - q.length by omega]
      have e6 : (pad q).length = L.toNat := by have := pad_length hsm; omega
      have e7 : padE q = 0 := by rw [padE, if_neg (by omega)]
      rw [e3, e4, e5]
      refine ret2 Tryz.results103 rv_t rv_t fun w' hw => ⟨(some ⟨b18, 0, none⟩, L.toNat), trivial, ?_, ?_⟩
      · rw [e6, e7]
      · rw [e6]; exact hw.toRowB e6 (by unfold maxLen; omega)
def bek (p : List UInt8) (k : Nat) : Nat := (p.take k).foldl (fun n x => n * 256 + x.toNat) 0
theorem bek_succ (p : List UInt8) (k : Nat) (h : k < p.length) : bek p (k + 1) = bek p k * 256 + (p.getD k 0).toNat := by
  unfold bek
  rw [take_snoc p k 0 h, List.foldl_append]
  rfl
theorem bek_lt (p : List UInt8) : ∀ k, k ≤ p.length → bek p k < 256 ^ k
  | 0, _ => by simp [bek]
  | k + 1, h => by
    rw [bek_succ p k (by omega)]
    have h1 := bek_lt p k (by omega)
    have h2 := (p.getD k 0).toNat_lt
    rw [Nat.pow_succ]
    omega
def unpOK (p : List UInt8) : Bool := lens.any (fun x => decide ((p.length : Int) = x)) && decide (bek p 4 ≤ 65532) && decide (plen (pcl (bek p 4)) = p.length) && !(p.drop (4 + bek p 4)).any (fun x => x != 0)
def unpad (p : List UInt8) : List UInt8 := bif unpOK p then (p.drop 4).take (bek p 4) else []
def unpE (p : List UInt8) : Int := bif unpOK p then 0 else 280
def unpA (p : List UInt8) (a : Option Addr) : Option Addr := bif unpOK p then sa a 4 (4 + bek p 4) 1 else none
theorem lens_any {n : Int} (h : lens.any (fun x => decide (n = x)) = true) : n = 64 ∨ n = 256 ∨ n = 1024 ∨ n = 4096 ∨ n = 16384 ∨ n = 65536 := by
  simpa [lens] using h
theorem padding_Unpad_1_ok (w : World) (x : UInt8) : Pure Tryz.prog 92 [B x] w (.bool (x != 0)) := by
  refine enter Tryz.func92 Tryz.ntmps92 ?_
  refine c_seq <| c_reg <| s_y y_as <| s_nil <| q_then <| c_seq <| c_reg <| s_y y_mv <| s_y y_neq <| s_y y_as <| s_nil <| q_then <| ?_
  refine c_ret <| ?_
  have e : (!decide ((x.toNat : Int) = 0)) = (x != 0) := by
    by_cases h : x = 0
    · subst h; rfl
    · have : ¬ ((x.toNat : Int) = 0) := by
        intro hc
        apply h
        apply UInt8.toNat_inj.1
        simpa using hc
      rw [decide_eq_false this]
      simp [h]
  exact ret1 Tryz.results92 rv_t fun w' hw => ⟨by rw [← e], hw⟩
theorem padding_Unpad_ok (w : World) (a : Option Addr) (c : Nat) (p : List UInt8) (hg : LD w) (hr : Rd w a (bs p)) (hq : p.length < 9223372036854775807) (hc : p.length ≤ c) :
    Pure Tryz.prog 38 [.slice a p.length c] w (.tuple #[.slice (unpA p a) (unpad p).length (unpad p).length, I (unpE p)]) := by
  refine enter Tryz.func38 Tryz.ntmps38 ?_
  have hl6 : lens.length = 6 := rfl
  refine c_seq <| c_reg <| s_y y_as <| s_y y_as <| s_nil <| q_then <| c_seq <| c_seq <| c_reg <| s_y y_sla <| s_y y_mv <| s_y y_len <| s_pure (fun w' hw => slices_Contains_int_int_ok w' (some ⟨0, 0, none⟩) lens 6 p.length (hg.st hw) (by simp [lens])) <| s_y y_not <| s_nil <| q_then <| c_if rfl (fun h12 => ?_) (fun h12 => ?_)
  · refine c_seq <| c_reg <| s_y y_as <| s_y y_as <| s_nil <| q_then <| c_ret <| q_ret <| ?_
    have hb : unpOK p = false := by simp only [Bool.not_eq_true'] at h12; simp [unpOK, h12]
    exact ret2 Tryz.results38 rv_t rv_t fun w' hw => ⟨by simp [unpA, unpad, unpE, hb], hw⟩
  · have hany : lens.any (fun x => decide ((p.length : Int) = x)) = true := by simpa using h12
    have hlen := lens_any hany
    have hb4 := bek_lt p 4 (by omega)
    refine c_skip <| q_then <| c_seq <| c_reg <| s_y y_as <| s_nil <| q_then <| c_seq <| c_seq <| c_reg <| s_y y_mv <| s_y y_slh <| s_y y_len <| s_y y_mv <| s_nil <| q_then <| c_block <| ?_
    refine c_loop (fun k : Nat => [(0, .slice a p.length c), (2, .slice none 0 0), (4, I (bek p k)), (14, .slice a 4 c), (15, I 4), (16, I k)]) (fun _ => []) (fun k => k ≤ 4) (fun k => 4 - k) 0 (by omega) ⟨rfl, rfl, rfl, rfl, rfl, rfl, trivial⟩ (List.Sublist.refl _) ?_
    intro k hk
    refine c_seq <| c_reg <| s_y y_lss <| s_nil <| q_then <| c_seq <| c_ifd (fun h17 => ?_) (fun h17 => ?_)
    · have hbk := bek_lt p k (by omega)
      have hbk2 : 256 ^ k ≤ 256 ^ 4 := Nat.pow_le_pow_right (by decide) hk
      have hbk3 : bek p k < 4294967296 := Nat.lt_of_lt_of_le hbk hbk2
      refine c_skip <| q_then <| c_seq <| c_block <| c_seq <| c_reg <| s_y (y_ixs1 (xs := bs p) (hl := by rw [bs_length]; omega)) <| s_y (y_ldb (q := p)) <| s_y y_as <| s_nil <| q_then <| c_reg <| s_y y_mv <| s_y (y_shln 8) <| s_y y_mv <| s_y y_cvb <| s_y y_or8 <| s_y y_as <| s_nil <| q_nb <| q_then <| c_reg <| s_y y_add <| s_y y_mv <| s_nil <| ?_
      rw [Int.toNat_natCast, ← bek_succ p k (by omega)]
      exact q_round (k + 1) (by omega) (by omega) ⟨rfl, rfl, rfl, rfl, rfl, rfl, trivial⟩ (List.Sublist.refl _)
    · have hk4 : k = 4 := by omega
      subst hk4
      refine c_exit <| q_ex <| q_ex <| q_exb <| q_then <| c_seq <| c_reg <| s_y y_mv <| s_pure (fun w' hw => padding_Class_ok w' (bek p 4) (hg.st hw)) <| s_y y_mv <| s_y y_ext <| s_y y_ext <| s_y y_as <| s_y y_as <| s_nil <| q_then <| c_seq <| c_seq <| c_reg <| s_y y_mv <| s_ifn y_neq (fun h32 => ?_) (fun h32 => ?_)
      · have hb : unpOK p = false := by
          have : ¬ bek p 4 ≤ 65532 := by
            intro h9
            exact h32 (by simp [clE]; omega)
          simp [unpOK, this]
        refine s_y y_mv <| s_no <| s_no <| s_no <| s_no <| s_no <| s_no <| s_y y_pk <| s_y y_mv <| s_no <| s_no <| s_no <| s_no <| s_no <| s_y y_pk <| s_nil <| q_then <| c_t <| c_seq <| c_reg <| s_y y_as <| s_y y_as <| s_nil <| q_then <| c_ret <| q_ret <| ?_
        exact ret2 Tryz.results38 rv_t rv_t fun w' hw => ⟨by simp [unpA, unpad, unpE, hb], hw⟩
      · have hsm : bek p 4 ≤ 65532 := by
          by_cases h9 : bek p 4 ≤ 65532
          · exact h9
          · have : (bek p 4 : Int) < 0 ∨ 65532 < (bek p 4 : Int) := by omega
            simp [clE, this] at h32
        have e1 : clV (bek p 4) = pcl (bek p 4) := by
          have : ¬ ((bek p 4 : Int) < 0 ∨ 65532 < (bek p 4 : Int)) := by omega
          simp [clV, this]
        have hpb := pcl_bd (bek p 4)
        have hpl := plen_le (pcl (bek p 4))
        have hpp := plen_pcl (n := bek p 4) (by omega) (by omega)
        rw [e1]
        refine s_y y_mv <| s_y y_mv <| s_y y_ixa1 <| s_y (y_ldr (a := some ⟨0, 0, none⟩) (lens_cell hpb.1 hpb.2) (hr := rdW0 hg)) <| s_y y_mv <| s_y y_len <| s_ifn y_neq (fun h39 => ?_) (fun h39 => ?_)
        · have hb : unpOK p = false := by simp [unpOK, h39]
          refine s_y y_pk <| s_y y_mv <| s_no <| s_no <| s_no <| s_no <| s_no <| s_y y_pk <| s_nil <| q_then <| c_t <| c_seq <| c_reg <| s_y y_as <| s_y y_as <| s_nil <| q_then <| c_ret <| q_ret <| ?_
          exact ret2 Tryz.results38 rv_t rv_t fun w' hw => ⟨by simp [unpA, unpad, unpE, hb], hw⟩
        · have e5 : p.length - (4 + (bek p 4 : Int)).toNat = (p.drop (4 + bek p 4)).length := by rw [List.length_drop]; omega
          refine s_y y_pk <| s_y y_mv <| s_y y_mv <| s_y y_mv <| s_y y_add <| s_y y_sll <| ?_
          rw [e5]
          have hr2 : Rd w (sa a (4 + (bek p 4 : Int)).toNat c 1) (bs (p.drop (4 + bek p 4))) := by
            have h := (rdW0 (W := w) (l := []) hr).sa (i := (4 + (bek p 4 : Int)).toNat) (c := c) (s := 1) (by rw [bs_length]; omega) w (St.refl w)
            rw [Nat.mul_one, ← bs_drop, show (4 + (bek p 4 : Int)).toNat = 4 + bek p 4 by omega] at h
            rw [show (4 + (bek p 4 : Int)).toNat = 4 + bek p 4 by omega]
            exact h
          refine s_pure (fun w' hw => slices_ContainsFunc_byte_byte_ok w' (sa a (4 + (bek p 4 : Int)).toNat c 1) (p.drop (4 + bek p 4)) (c - (4 + (bek p 4 : Int)).toNat) 92 [] [] (fun x => x != 0) (fun w2 x h2 => padding_Unpad_1_ok w2 x) (hr2.st hw) (by rw [List.length_drop]; omega)) <| s_y y_pk <| s_nil <| q_then <| c_if rfl (fun h47 => ?_) (fun h47 => ?_)
          · have hb : unpOK p = false := by rw [unpOK, h47]; simp
            refine c_seq <| c_reg <| s_y y_as <| s_y y_as <| s_nil <| q_then <| c_ret <| q_ret <| ?_
            exact ret2 Tryz.results38 rv_t rv_t fun w' hw => ⟨by simp [unpA, unpad, unpE, hb], hw⟩
          · have hb : unpOK p = true := by rw [unpOK, h47, hany]; simp [hsm, h39]
            refine c_skip <| q_then <| c_seq <| c_reg <| s_y y_mv <| s_y y_mv <| s_y y_add <| s_y y_mv <| s_y y_add <| s_y y_sllhm <| s_y y_as <| s_y y_as <| s_nil <| q_then <| c_ret <| ?_
            refine ret2 Tryz.results38 rv_t rv_t fun w' hw => ⟨?_, hw⟩
            have e7 : (4 + (bek p 4 : Int)).toNat = 4 + bek p 4 := by omega
            have e8 : (unpad p).length = bek p 4 := by
              rw [unpad, hb]; simp; omega
            rw [e7, e8, show 4 + bek p 4 - (4 : Int).toNat = bek p 4 by have : (4 : Int).toNat = 4 := rfl
                                                                        omega]
            rw [unpA, unpE, hb]
            rfl
theorem unpad_rd {w : World} {a : Option Addr} {p : List UInt8} (h : Rd w a (bs p)) : Rd w (unpA p a) (bs (unpad p)) := by
  unfold unpA unpad
  cases hb : unpOK p with
  | false => exact Rd.nil _ _
  | true =>
    simp only [cond_true]
    by_cases h0 : bek p 4 = 0
    · rw [h0]; exact Rd.nil _ _
    · rw [sa, if_neg (by omega), bs_take, bs_drop]
      exact (h.drop 4).take _
end Go.Proofs.YtejdjnkilikehaaGreatDoor
end
section
namespace Go.Proofs.YtejdjnkilikehaaGreatDoor
open Go Eng
theorem bek4 (x0 x1 x2 x3 : UInt8) (r : List UInt8) : bek (x0 :: x1 :: x2 :: x3 :: r) 4 = ((x0.toNat * 256 + x1.toNat) * 256 + x2.toNat) * 256 + x3.toNat := by
  simp [bek]
theorem bek_be4 (n : Nat) (hn : n < 4294967296) (r : List UInt8) : bek (be4 n ++ r) 4 = n := by
  simp only [be4, List.cons_append, bek4, UInt8.toNat_ofNat']
  omega
theorem zeros_any (n : Nat) : (List.replicate n (0 : UInt8)).any (fun x => x != 0) = false := by
  rw [List.any_eq_false]
  intro x hx
  rw [List.eq_of_mem_replicate hx]
  simp
theorem plen_any (n : Int) : lens.any (fun x => decide (plen (pcl n) = x)) = true := by
  have := pcl_bd n
  have h : pcl n = 0 ∨ pcl n = 1 ∨ pcl n = 2 ∨ pcl n = 3 ∨ pcl n = 4 ∨ pcl n = 5 := by omega
  rcases h with h | h | h | h | h | h <;> rw [h] <;> decide
theorem pad_app {q : List UInt8} (h : q.length ≤ 65532) : pad q = be4 q.length ++ q ++ List.replicate ((plen (pcl q.length)).toNat - 4 - q.length) 0 := by
  rw [pad, if_neg (by omega)]
theorem unpOK_pad {q : List UInt8} (h : q.length ≤ 65532) : unpOK (pad q) = true ∧ bek (pad q) 4 = q.length ∧ unpad (pad q) = q := by
  have hl := pad_length h
  have hb : bek (pad q) 4 = q.length := by rw [pad_app h, List.append_assoc]; exact bek_be4 _ (by omega) _
  have hpp := plen_pcl (n := q.length) (by omega) (by omega)
  have hd : (pad q).drop 4 = q ++ List.replicate ((plen (pcl q.length)).toNat - 4 - q.length) 0 := by
    rw [pad_app h, List.append_assoc]; exact List.drop_left' rfl
  have ok : unpOK (pad q) = true := by
    rw [unpOK, hb, hl, plen_any]
    have hz : (pad q).drop (4 + q.length) = List.replicate ((plen (pcl q.length)).toNat - 4 - q.length) 0 := by
      rw [← List.drop_drop, hd]; exact List.drop_left' rfl
    rw [hz, zeros_any]
    simp [h]
  refine ⟨ok, hb, ?_⟩
  rw [unpad, ok, hb, hd]
  exact List.take_left' rfl
end Go.Proofs.YtejdjnkilikehaaGreatDoor
end
section
namespace Go.Proofs.YtejdjnkilikehaaGreatDoor
open Go Eng Gf
theorem gpow_ok (w : World) (b e : Nat) (hb : b < 4611686018427377339) (he : e < 18446744073709551616) : Pure Tryz.prog 152 [U b, U e] w (U (pp b e)) := by
  rw [pp_def]; exact group_power_ok w b e hb he
theorem gpowQ_ok (w : World) (b : Nat) (hb : b < 4611686018427377339) : Pure Tryz.prog 152 [U b, U 2305843009213688669] w (U (pp b Num.Q)) := gpow_ok w b Num.Q hb (show 2305843009213688669 < 18446744073709551616 by decide)
theorem gCheck_yes (w : World) (x : Nat) (h : El x) : Pure Tryz.prog 80 [I x] w (I 0) := by
  have hx0 := h.pos
  have hx1 := h.lt
  refine enter Tryz.func80 Tryz.ntmps80 ?_
  refine c_seq <| c_reg <| s_y y_as <| s_nil <| q_then <| c_seq <| c_seq <| c_reg <| s_y y_mv <| s_kf (y_lss (p := (x : Int)) (q := 1)) (by have := h.pos; omega) <| s_y y_mv <| s_y y_mv <| s_kf (y_geq (p := (x : Int)) (q := 4611686018427377339)) (by have := h.lt; omega) <| s_y y_pk <| s_y y_mv <| s_y y_mv <| s_y (y_cvn (k := .u64) (p := (x : Int)) (hw := wrap_u64 (by omega) (by omega))) <| s_pure (fun w' hw => gpowQ_ok w' x (by omega)) <| s_nf (y_neq) (by rw [h.one]; rfl) <| s_y y_pk <| s_nil <| q_then <| c_f <| c_skip <| q_then <| c_seq <| c_reg <| s_y y_as <| s_nil <| q_then <| c_ret <| ?_
  exact ret1 Tryz.results80 rv_t fun w' hw => ⟨rfl, hw.sub (List.nil_sublist _)⟩
theorem gCheck_in (w : World) (x : Nat) (hx0 : 0 < x) (hx1 : x < 4611686018427377339) (h : ¬ pp x Num.Q = 1) : Pure Tryz.prog 80 [I x] w (I 40) := by
  refine enter Tryz.func80 Tryz.ntmps80 ?_
  refine c_seq <| c_reg <| s_y y_as <| s_nil <| q_then <| c_seq <| c_seq <| c_reg <| s_y y_mv <| s_kf (y_lss (p := (x : Int)) (q := 1)) (by omega) <| s_y y_mv <| s_y y_mv <| s_kf (y_geq (p := (x : Int)) (q := 4611686018427377339)) (by omega) <| s_y y_pk <| s_y y_mv <| s_y y_mv <| s_y (y_cvn (k := .u64) (p := (x : Int)) (hw := wrap_u64 (by omega) (by omega))) <| s_pure (fun w' hw => gpowQ_ok w' x (by omega)) <| s_nt (y_neq) (by omega) <| s_y y_pk <| s_nil <| q_then <| c_t <| c_seq <| c_reg <| s_y y_as <| s_nil <| q_then <| c_ret <| q_ret <| ?_
  exact ret1 Tryz.results80 rv_t fun w' hw => ⟨rfl, hw.sub (List.nil_sublist _)⟩
theorem gCheck_lo (w : World) (a : Int) (h : a < 1) : Pure Tryz.prog 80 [I a] w (I 40) := by
  refine enter Tryz.func80 Tryz.ntmps80 ?_
  refine c_seq <| c_reg <| s_y y_as <| s_nil <| q_then <| c_seq <| c_seq <| c_reg <| s_y y_mv <| s_kt (y_lss (p := a) (q := 1)) h <| s_y y_mv <| s_no <| s_no <| s_y y_pk <| s_y y_mv <| s_no <| s_no <| s_no <| s_no <| s_y y_pk <| s_nil <| q_then <| c_t <| c_seq <| c_reg <| s_y y_as <| s_nil <| q_then <| c_ret <| q_ret <| ?_
  exact ret1 Tryz.results80 rv_t fun w' hw => ⟨rfl, hw.sub (List.nil_sublist _)⟩
theorem gCheck_hi (w : World) (a : Int) (h : 4611686018427377339 ≤ a) : Pure Tryz.prog 80 [I a] w (I 40) := by
  refine enter Tryz.func80 Tryz.ntmps80 ?_
  refine c_seq <| c_reg <| s_y y_as <| s_nil <| q_then <| c_seq <| c_seq <| c_reg <| s_y y_mv <| s_kf (y_lss (p := a) (q := 1)) (by omega) <| s_y y_mv <| s_y y_mv <| s_kt (y_geq (p := a) (q := 4611686018427377339)) h <| s_y y_pk <| s_y y_mv <| s_no <| s_no <| s_no <| s_no <| s_y y_pk <| s_nil <| q_then <| c_t <| c_seq <| c_reg <| s_y y_as <| s_nil <| q_then <| c_ret <| q_ret <| ?_
  exact ret1 Tryz.results80 rv_t fun w' hw => ⟨rfl, hw.sub (List.nil_sublist _)⟩
theorem gCheck_no (w : World) (a : Int) (h : el a = false) : Pure Tryz.prog 80 [I a] w (I 40) := by
  by_cases h1 : a < 1
  · exact gCheck_lo w a h1
  by_cases h2 : 4611686018427377339 ≤ a
  · exact gCheck_hi w a h2
  obtain ⟨x, rfl⟩ : ∃ x : Nat, a = (x : Int) := ⟨a.toNat, by omega⟩
  rw [el_of (by omega) (by omega)] at h
  exact gCheck_in w x (by omega) (by omega) (of_decide_eq_false h)
theorem gCheck_ok (w : World) (a : Int) : Pure Tryz.prog 80 [I a] w (I (chk a)) := by
  cases h : el a with
  | true =>
    obtain ⟨x, rfl, h0, h1, h2⟩ := el_nat h
    rw [chk, h]
    exact gCheck_yes w x ⟨h0, h1, h2⟩
  | false => rw [chk, h]; exact gCheck_no w a h
theorem gExp_bad (w : World) (a k : Int) (h : el a = false) : Pure Tryz.prog 83 [I a, I k] w (.tuple #[I 0, I 40]) := by
  refine enter Tryz.func83 Tryz.ntmps83 ?_
  refine c_seq <| c_reg <| s_y y_as <| s_y y_as <| s_nil <| q_then <| c_seq <| c_seq <| c_reg <| s_y y_mv <| s_pure (fun w' hw => gCheck_no w' a h) <| s_y y_as <| s_nil <| q_then <| c_seq <| c_reg <| s_y y_mv <| s_nt (y_neq (p := 40) (q := 0)) (by omega) <| s_nil <| q_then <| c_t <| c_seq <| c_reg <| s_y y_mv <| s_y y_as <| s_y y_as <| s_nil <| q_then <| c_ret <| q_ret <| ?_
  exact ret2 Tryz.results83 rv_t rv_t fun w' hw => ⟨rfl, hw.sub (List.nil_sublist _)⟩
theorem gExp_lo (w : World) (x : Nat) (k : Int) (h : El x) (hk : k < 0) : Pure Tryz.prog 83 [I x, I k] w (.tuple #[I 0, I 1]) := by
  refine enter Tryz.func83 Tryz.ntmps83 ?_
  refine c_seq <| c_reg <| s_y y_as <| s_y y_as <| s_nil <| q_then <| c_seq <| c_seq <| c_reg <| s_y y_mv <| s_pure (fun w' hw => gCheck_yes w' x h) <| s_y y_as <| s_nil <| q_then <| c_seq <| c_reg <| s_y y_mv <| s_nf (y_neq (p := 0) (q := 0)) (by omega) <| s_nil <| q_then <| c_f <| c_skip <| q_then <| c_seq <| c_seq <| c_reg <| s_y y_mv <| s_kt (y_lss (p := k) (q := 0)) (by omega) <| s_y y_mv <| s_no <| s_no <| s_y y_pk <| s_nil <| q_then <| c_t <| c_seq <| c_reg <| s_y y_as <| s_y y_as <| s_nil <| q_then <| c_ret <| q_ret <| ?_
  exact ret2 Tryz.results83 rv_t rv_t fun w' hw => ⟨rfl, hw.sub (List.nil_sublist _)⟩
theorem gExp_hi (w : World) (x : Nat) (k : Int) (h : El x) (hk : 2305843009213688669 ≤ k) : Pure Tryz.prog 83 [I x, I k] w (.tuple #[I 0, I 1]) := by
  refine enter Tryz.func83 Tryz.ntmps83 ?_
  refine c_seq <| c_reg <| s_y y_as <| s_y y_as <| s_nil <| q_then <| c_seq <| c_seq <| c_reg <| s_y y_mv <| s_pure (fun w' hw => gCheck_yes w' x h) <| s_y y_as <| s_nil <| q_then <| c_seq <| c_reg <| s_y y_mv <| s_nf (y_neq (p := 0) (q := 0)) (by omega) <| s_nil <| q_then <| c_f <| c_skip <| q_then <| c_seq <| c_seq <| c_reg <| s_y y_mv <| s_kf (y_lss (p := k) (q := 0)) (by omega) <| s_y y_mv <| s_y y_mv <| s_kt (y_geq (p := k) (q := 2305843009213688669)) (by omega) <| s_y y_pk <| s_nil <| q_then <| c_t <| c_seq <| c_reg <| s_y y_as <| s_y y_as <| s_nil <| q_then <| c_ret <| q_ret <| ?_
  exact ret2 Tryz.results83 rv_t rv_t fun w' hw => ⟨rfl, hw.sub (List.nil_sublist _)⟩
theorem gExp_yes (w : World) (x k : Nat) (h : El x) (hk : k < 2305843009213688669) : Pure Tryz.prog 83 [I x, I k] w (.tuple #[I (pp x k : Nat), I 0]) := by
  have hx0 := h.pos
  have hx1 := h.lt
  have hpl := pp_lt x k
  refine enter Tryz.func83 Tryz.ntmps83 ?_
  refine c_seq <| c_reg <| s_y y_as <| s_y y_as <| s_nil <| q_then <| c_seq <| c_seq <| c_reg <| s_y y_mv <| s_pure (fun w' hw => gCheck_yes w' x h) <| s_y y_as <| s_nil <| q_then <| c_seq <| c_reg <| s_y y_mv <| s_nf (y_neq (p := 0) (q := 0)) (by omega) <| s_nil <| q_then <| c_f <| c_skip <| q_then <| c_seq <| c_seq <| c_reg <| s_y y_mv <| s_kf (y_lss (p := (k : Int)) (q := 0)) (by omega) <| s_y y_mv <| s_y y_mv <| s_kf (y_geq (p := (k : Int)) (q := 2305843009213688669)) (by omega) <| s_y y_pk <| s_nil <| q_then <| c_f <| c_skip <| q_then <| c_seq <| c_reg <| s_y y_mv <| s_y (y_cvn (k := .u64) (p := (x : Int)) (hw := wrap_u64 (by omega) (by omega))) <| s_y y_mv <| s_y (y_cvn (k := .u64) (p := (k : Int)) (hw := wrap_u64 (by omega) (by omega))) <| s_pure (fun w' hw => gpow_ok w' x k (by omega) (by omega)) <| s_y (y_cvn (k := .i64) (p := ((pp x k : Nat) : Int)) (hw := wrap_i64 (by unfold R64; omega))) <| s_y y_as <| s_y y_as <| s_nil <| q_then <| c_ret <| ?_
  exact ret2 Tryz.results83 rv_t rv_t fun w' hw => ⟨rfl, hw.sub (List.nil_sublist _)⟩
theorem gExp_ok (w : World) (a k : Int) : Pure Tryz.prog 83 [I a, I k] w (.tuple #[I (expV a k), I (expE a k)]) := by
  cases h : el a with
  | false => rw [expV, expE, h]; exact gExp_bad w a k h
  | true =>
    obtain ⟨x, rfl, h0, h1, h2⟩ := el_nat h
    by_cases hk : k < 0
    · rw [expV, expE, h, sc_lo hk]; exact gExp_lo w x k ⟨h0, h1, h2⟩ hk
    by_cases hk2 : 2305843009213688669 ≤ k
    · rw [expV, expE, h, sc_hi hk2]; exact gExp_hi w x k ⟨h0, h1, h2⟩ hk2
    obtain ⟨m, rfl⟩ : ∃ m : Nat, k = (m : Int) := ⟨k.toNat, by omega⟩
    rw [expV, expE, h, sc_of (by omega), Int.toNat_natCast, Int.toNat_natCast]
    exact gExp_yes w x m ⟨h0, h1, h2⟩ (by omega)
theorem gBase_ok (w : World) (k : Int) : Pure Tryz.prog 82 [I k] w (.tuple #[I (expV 4 k), I (expE 4 k)]) := by
  refine enter Tryz.func82 Tryz.ntmps82 ?_
  refine c_seq <| c_reg <| s_y y_as <| s_y y_as <| s_nil <| q_then <| c_seq <| c_reg <| s_y y_mv <| s_pure (fun w' hw => gExp_ok w' 4 k) <| s_y y_ext <| s_y y_ext <| s_y y_as <| s_y y_as <| s_nil <| q_then <| c_ret <| ?_
  exact ret2 Tryz.results82 rv_t rv_t fun w' hw => ⟨rfl, hw.sub (List.nil_sublist _)⟩
theorem gInv_ok (w : World) (a : Int) : Pure Tryz.prog 134 [I a] w (.tuple #[I (expV a 2305843009213688668), I (expE a 2305843009213688668)]) := by
  refine enter Tryz.func134 Tryz.ntmps134 ?_
  refine c_seq <| c_reg <| s_y y_as <| s_y y_as <| s_nil <| q_then <| c_seq <| c_reg <| s_y y_mv <| s_pure (fun w' hw => gExp_ok w' a 2305843009213688668) <| s_y y_ext <| s_y y_ext <| s_y y_as <| s_y y_as <| s_nil <| q_then <| c_ret <| ?_
  exact ret2 Tryz.results134 rv_t rv_t fun w' hw => ⟨rfl, hw.sub (List.nil_sublist _)⟩
theorem gMul_ok (w : World) (a b : Int) : Pure Tryz.prog 85 [I a, I b] w (.tuple #[I (mulV a b), I (mulE a b)]) := by
  refine enter Tryz.func85 Tryz.ntmps85 ?_
  refine c_seq <| c_reg <| s_y y_as <| s_y y_as <| s_nil <| q_then <| c_seq <| c_seq <| c_reg <| s_y y_mv <| s_y y_mv <| s_y (y_blda (cs := [I a, I b])) <| s_y y_mv <| s_nil <| q_then <| c_block <| ?_
  refine c_loop (fun i : Nat => [(0, I a), (1, I b), (11, .agg #[I a, I b]), (12, I i)]) (fun _ => []) (fun i => i ≤ 2 ∧ (0 < i → el a = true) ∧ (1 < i → el b = true)) (fun i => 2 - i) 0 ⟨by omega, fun h => by omega, fun h => by omega⟩ ⟨rfl, rfl, rfl, rfl, trivial⟩ (List.Sublist.refl _) ?_
  intro i ⟨hi, hia, hib⟩
  refine c_seq <| c_reg <| s_y (y_lss (p := i) (q := 2)) <| s_nil <| q_then <| c_seq <| c_ifd (fun h13 => ?_) (fun h13 => ?_)
  · obtain ⟨z, hz, hz0, hz1⟩ : ∃ z : Int, (#[I a, I b] : Array Value)[i]? = some (I z) ∧ (i = 0 → z = a) ∧ (i = 1 → z = b) := by
      obtain rfl | rfl : i = 0 ∨ i = 1 := by omega
      · exact ⟨a, rfl, fun _ => rfl, fun h => by omega⟩
      · exact ⟨b, rfl, fun h => by omega, fun _ => rfl⟩
    refine c_skip <| q_then <| c_seq <| c_block <| c_seq <| c_reg <| s_y (y_ixv (v := I z) i hz) <| s_y y_as <| s_nil <| q_then <| c_seq <| c_reg <| s_y y_mv <| s_pure (fun w' hw => gCheck_ok w' z) <| s_y y_as <| s_nil <| q_then <| c_seq <| c_reg <| s_y y_mv <| s_y (y_neq (p := chk z) (q := 0)) <| s_nil <| q_then <| c_ifn (fun h18 => ?_) (fun h18 => ?_)
    · have hz9 : el z = false := by
        cases h9 : el z with
        | false => rfl
        | true => exact absurd (by rw [chk, h9]; rfl) h18
      have e1 : mulV a b = 0 ∧ mulE a b = 40 := by
        unfold mulV mulE
        obtain rfl | rfl : i = 0 ∨ i = 1 := by omega
        · rw [← hz0 rfl, hz9]; exact ⟨rfl, rfl⟩
        · rw [← hz1 rfl, hz9, Bool.and_false]; exact ⟨rfl, rfl⟩
      have e2 : chk z = 40 := by rw [chk, hz9]; rfl
      rw [e1.1, e1.2, e2]
      refine c_seq <| c_reg <| s_y y_mv <| s_y y_as <| s_y y_as <| s_nil <| q_then <| c_ret <| q_retb <| q_ret <| q_ret <| q_retb <| q_ret <| ?_
      exact ret2 Tryz.results85 rv_t rv_t fun w' hw => ⟨rfl, hw⟩
    · have hz9 : el z = true := by
        cases h9 : el z with
        | true => rfl
        | false => rw [chk, h9] at h18; exact absurd h18 (by decide)
      refine c_skip <| q_nb <| q_then <| c_reg <| s_y (y_add (p := i) (q := 1)) <| s_y y_mv <| s_nil <| q_round (i + 1) ⟨by omega, fun _ => ?_, fun h => ?_⟩ (by omega) ⟨rfl, rfl, rfl, rfl, trivial⟩ (List.Sublist.refl _)
      · rcases Nat.eq_zero_or_pos i with h0 | h0
        · rw [← hz0 h0]; exact hz9
        · exact hia h0
      · rw [← hz1 (by omega)]; exact hz9
  · obtain ⟨x, rfl, hx0, hx1, hx2⟩ := el_nat (hia (by omega))
    obtain ⟨y, rfl, hy0, hy1, hy2⟩ := el_nat (hib (by omega))
    have e1 : mulV (x : Int) (y : Int) = ((x * y % 4611686018427377339 : Nat) : Int) ∧ mulE (x : Int) (y : Int) = 0 := by
      unfold mulV mulE
      rw [hia (by omega), hib (by omega), Int.toNat_natCast, Int.toNat_natCast]; exact ⟨rfl, rfl⟩
    have hml : x * y % 4611686018427377339 < 4611686018427377339 := Nat.mod_lt _ (by decide)
    rw [e1.1, e1.2]
    refine c_exit <| q_ex <| q_ex <| q_exb <| q_then <| c_seq <| c_reg <| s_y y_mv <| s_y (y_cvn (k := .u64) (p := (x : Int)) (hw := wrap_u64 (by omega) (by omega))) <| s_y y_mv <| s_y (y_cvn (k := .u64) (p := (y : Int)) (hw := wrap_u64 (by omega) (by omega))) <| s_pure (fun w' hw => group_times_ok w' x y hx1 hy1) <| s_y (y_cvn (k := .i64) (p := ((x * y % 4611686018427377339 : Nat) : Int)) (hw := wrap_i64 (by unfold R64; omega))) <| s_y y_as <| s_y y_as <| s_nil <| q_then <| c_ret <| ?_
    exact ret2 Tryz.results85 rv_t rv_t fun w' hw => ⟨rfl, hw⟩
end Go.Proofs.YtejdjnkilikehaaGreatDoor
end
section
namespace Go.Proofs.YtejdjnkilikehaaGreatDoor
open Go Eng Gf Dv
theorem Qmod (a b : Nat) : a * b % 2305843009213688669 < 2305843009213688669 := Nat.mod_lt _ (by decide)
theorem f_product_ok (w : World) (x y : Nat) (hx : x < 2305843009213688669) (hy : y < 2305843009213688669) :
    Pure Tryz.prog 164 [I x, I y] w (I (x * y % 2305843009213688669 : Nat)) := by
  have hd := Nat.div_add_mod (x * y) 18446744073709551616
  have hp := prod_lt hx hy (by decide)
  have hml := Qmod x y
  refine enter Tryz.func164 Tryz.ntmps164 ?_
  refine c_seq <| c_reg <| s_y y_as <| s_nil <| q_then <| c_seq <| c_reg <| s_y y_mv <| s_y (y_cvn (k := .u64) (p := (x : Int)) (hw := wrap_u64 (by omega) (by omega))) <| s_y y_mv <| s_y (y_cvn (k := .u64) (p := (y : Int)) (hw := wrap_u64 (by omega) (by omega))) <| s_pure (fun w' hw => bits_Mul64_ok w' x y (Nat.lt_trans hx (by decide)) (Nat.lt_trans hy (by decide))) <| s_y y_mv <| s_y y_ext <| s_y y_ext <| s_y y_as <| s_y y_as <| s_nil <| q_then <| c_seq <| c_reg <| s_y y_mv <| s_y y_mv <| s_pure (fun w' hw => bits_Div64_ok w' (x * y / 18446744073709551616) (x * y % 18446744073709551616) 2305843009213688669 hp (Nat.mod_lt _ (by decide)) (by decide)) <| ?_
  rw [Nat.mul_comm (x * y / 18446744073709551616), hd]
  refine s_y y_mv <| s_y y_ext <| s_y y_ext <| s_y y_as <| s_y y_as <| s_nil <| q_then <| c_seq <| c_reg <| s_y y_mv <| s_y (y_cvn (k := .i64) (p := ((x * y % 2305843009213688669 : Nat) : Int)) (hw := wrap_i64 (by unfold R64; omega))) <| s_y y_as <| s_nil <| q_then <| c_ret <| ?_
  exact ret1 Tryz.results164 rv_t fun w' hw => ⟨rfl, hw⟩
theorem bits_Len_ok (p : Nat) (hp : p < 18446744073709551616) : ∃ len : Nat, len ≤ 64 ∧ p < 2 ^ len ∧ ∀ w : World, Pure Tryz.prog 234 [U p] w (I len) := by
  obtain ⟨len, h1, h2, _, hu⟩ := bits_Len64_ok p hp
  refine ⟨len, h1, h2, fun w => ?_⟩
  refine enter Tryz.func234 Tryz.ntmps234 ?_
  refine c_seq <| c_reg <| s_y y_as <| s_nil <| q_then <| c_seq <| c_f <| c_skip <| q_then <| c_seq <| c_reg <| s_y y_mv <| s_pure (fun w' _ => hu w') <| s_y y_as <| s_nil <| q_then <| c_ret <| ?_
  exact ret1 Tryz.results234 rv_t fun w' hw => ⟨rfl, hw⟩
theorem f_binary_ok (w : World) (e : Nat) : Gives Tryz.prog 214 [I e] w [] (fun b : Nat => .func (.func 233) #[] #[.pointer (some ⟨b, 0, none⟩)]) (fun b => [.blk b (.cells #[I e] 3 (0, 0))]) (fun _ => True) := by
  refine enter Tryz.func214 Tryz.ntmps214 ?_
  refine c_seq <| c_reg <| s_box rfl fun b1 => s_y y_as <| s_nil <| q_then <| c_seq <| c_reg <| s_y y_func <| s_y y_as <| s_nil <| q_then <| c_ret <| ?_
  exact ret1 Tryz.results214 rv_t fun w' hw => ⟨b1, trivial, rfl, hw⟩
theorem f_power1_ok (w : World) (b5 acc z : Nat) (hp : (Res.blk b5 (.cells #[I acc] 3 (0, 0))).holds w) (ha : acc < 2305843009213688669) (hz : z < 2305843009213688669) :
    Gives Tryz.prog 213 [I z, .pointer (some ⟨b5, 0, none⟩)] w (keys [.blk b5 (.cells #[I acc] 3 (0, 0))]) (fun _ : Unit => .tuple #[]) (fun _ => [.blk b5 (.cells #[I (acc * z % 2305843009213688669 : Nat)] 3 (0, 0))]) (fun _ => True) := by
  refine enterR Tryz.func213 Tryz.ntmps213 hp ?_
  refine c_reg <| s_y (y_ld (v := I acc)) <| s_y y_mv <| s_pure (fun w' hw => f_product_ok w' acc z ha hz) <| s_st (v := I (acc * z % 2305843009213688669 : Nat)) (cs := #[I acc]) (hl := Nat.zero_lt_one) ?_
  refine s_nil <| ?_
  exact ret0 Tryz.results213 (fun w' hw => ⟨(), trivial, rfl, hw⟩) _ (.inr rfl)
abbrev fpF (b5 : Nat) : Value := .func (.func 213) #[] #[.pointer (some ⟨b5, 0, none⟩)]
def fpM (L Dk : Nat) (rc : Loop) (b6 b5 b2 b1 e b acc : Nat) : SH :=
  [.blk L (.loop rc), .blk Dk (.deferred (some [])), .blk b1 (.cells #[I e] 3 (0, 0)), .blk b6 (.cells #[fpF b5] 213 (0, 0)), .blk b5 (.cells #[I acc] 3 (0, 0)), .blk b2 (.cells #[I b] 3 (0, 0))]
theorem binary1_ok (w' : World) (rc : Loop) (L Dk b6 b5 b2 b1 e b p : Nat) (he : e < 9223372036854775808) (hp : 1 < p)
    (hs : ∀ q ∈ fpM L Dk rc b6 b5 b2 b1 e b 1, q.holds w') (hnd : (keys (fpM L Dk rc b6 b5 b2 b1 e b 1)).Nodup) (hpz : rc.params.size = 1)
    (hround : ∀ (i : Nat) (w2 : World), St w' (keys (fpM L Dk rc b6 b5 b2 b1 e b 1)) w2 (fpM L Dk rc b6 b5 b2 b1 e b (b ^ (e / 2 ^ (i + 1)) % p)) →
      RoundIn (Fw none) 0 Tryz.prog L rc.fn ((rc.params.zip #[.bool (decide (e / 2 ^ i % 2 = 1))]).foldl (fun tmps (t, a) => tmps.setIfInBounds t a) rc.tmps) rc.assign rc.body w2 fun e' w3 => ∃ _ : Unit, True ∧ e' = .returned (.bool true) ∧ St w' (keys (fpM L Dk rc b6 b5 b2 b1 e b 1)) w3 (fpM L Dk { rc with state := .ready, pending := none } b6 b5 b2 b1 e b (b ^ (e / 2 ^ i) % p)))
    (hrdy : rc = { rc with state := .ready, pending := none } := by rfl) :
    Calls Tryz.prog 233 #[.func (.yield L) #[] #[], .pointer (some ⟨b1, 0, none⟩)] w' fun e' w2 => (∃ v, e' = .returned v) ∧ St w' (keys (fpM L Dk rc b6 b5 b2 b1 e b 1)) w2 (fpM L Dk rc b6 b5 b2 b1 e b (b ^ e % p)) := by
  obtain ⟨len, hlen, hl1, hlz⟩ := bits_Len_ok e (by omega)
  refine enterL (args := [.func (.yield L) #[] #[], .pointer (some ⟨b1, 0, none⟩)]) Tryz.func233 Tryz.ntmps233 hs hnd ?_
  obtain ⟨bo, hbo⟩ : ∃ bo, bo = keys (fpM L Dk rc b6 b5 b2 b1 e b 1) := ⟨_, rfl⟩
  rw [← hbo] at hround ⊢
  have h1p : b ^ (e / 2 ^ len) % p = 1 := by rw [Nat.div_eq_of_lt hl1, Nat.pow_zero, Nat.mod_eq_of_lt hp]
  refine c_seq <| c_reg <| s_y (y_ld (b := b1) (v := I e)) <| s_y (y_cvn (k := .u64) (p := (e : Int)) (hw := wrap_u64 (by omega) (by omega))) <| s_pure (fun w2 _ => hlz w2) <| s_y (y_sub (p := len) (q := 1)) <| s_y y_as <| s_nil <| q_then <| c_block <| ?_
  refine c_loop (fun j : Nat => [(0, .func (.yield L) #[] #[]), (1, .pointer (some ⟨b1, 0, none⟩)), (3, I ((j : Int) - 1))]) (fun j => fpM L Dk rc b6 b5 b2 b1 e b (b ^ (e / 2 ^ j) % p)) (fun j => j ≤ 64) (fun j => j) len hlen ⟨rfl, rfl, rfl, trivial⟩ (by rw [h1p]; exact .refl _) ?_
  intro j hj
  refine c_seq <| c_seq <| c_reg <| s_y y_mv <| s_y (y_geq (p := (j : Int) - 1) (q := 0)) <| s_nil <| q_then <| c_ifd (fun h8 => ?_) (fun h8 => ?_)
  · obtain ⟨i, rfl⟩ : ∃ i, j = i + 1 := ⟨j - 1, by omega⟩
    rw [show ((i + 1 : Nat) : Int) - 1 = (i : Int) by omega]
    refine c_skip <| q_then <| c_seq <| c_block <| c_seq <| c_reg <| s_y y_mv <| s_y (y_ld (b := b1) (v := I e)) <| s_y y_mv <| s_y (y_shr (p := e) (q := (i : Int))) <| ?_
    rw [Int.toNat_natCast]
    have hdl : e / 2 ^ i < 9223372036854775808 := Nat.lt_of_le_of_lt (Nat.div_le_self _ _) he
    refine s_y (y_mask (p := e / 2 ^ i) 1) <| s_y (y_eql (p := ((e / 2 ^ i % 2 ^ 1 : Nat) : Int)) (q := 1)) <| ?_
    rw [show decide (((e / 2 ^ i % 2 ^ 1 : Nat) : Int) = 1) = decide (e / 2 ^ i % 2 = 1) from decide_eq_decide.2 ⟨fun h => by omega, fun h => by omega⟩]
    refine s_yield (L := L) (rc := rc) (σ := Unit) (fun _ => .bool true) (fun _ => fpM L Dk { rc with state := .ready, pending := none } b6 b5 b2 b1 e b (b ^ (e / 2 ^ i) % p)) (fun _ => True) (.head _) hpz (fun w2 h2 => hround i w2 h2) (fun _ _ => ?_)
    rw [← hrdy]
    refine s_y (v := .bool false) (y_not (b := true)) <| s_nil <| q_then <| c_f <| c_skip <| q_nb <| q_then <| c_reg <| s_y y_mv <| s_y (y_sub (p := (i : Int)) (q := 1)) <| s_y y_as <| s_nil <| q_round i (by omega) (by omega) ⟨rfl, rfl, rfl, trivial⟩ (.refl _)
  · obtain rfl : j = 0 := by omega
    rw [Nat.pow_zero, Nat.div_one]
    refine c_exit <| q_ex <| q_ex <| q_exb <| ?_
    exact ret0 Tryz.results233 (fun w2 h2 => ⟨⟨_, rfl⟩, h2⟩) _ (.inr rfl)
theorem f_power_ok (w : World) (b e : Nat) (hb : b < 2305843009213688669) (he : e < 9223372036854775808) :
    Pure Tryz.prog 165 [I b, I e] w (I (qq b e : Nat)) := by
  rw [qq_def]
  refine enterM Tryz.func165 Tryz.ntmps165 ?_
  refine c_seq <| c_reg <| s_box rfl fun b2 => s_y y_as <| s_nil <| q_then <| c_seq <| c_reg <| s_alloc fun b5 => s_st (b := b5) (v := I 1) (cs := #[I 0]) (hl := Nat.zero_lt_one) ?_
  refine s_nil <| q_then <| c_seq <| c_reg <| s_y y_func <| s_alloc fun b6 => s_st (b := b6) (v := fpF b5) (cs := #[.nilFunc]) (hl := Nat.zero_lt_one) ?_
  refine s_nil <| q_then <| c_seq <| c_seq <| c_reg <| s_y y_mv <| s_gives (fun w' hw => f_binary_ok w' e) fun b1 _ => s_nil <| q_then <| c_block <| ?_
  refine c_rangeN (σ := Unit) (fun _ => [.blk b1 (.cells #[I e] 3 (0, 0)), .blk b6 (.cells #[fpF b5] 213 (0, 0)), .blk b5 (.cells #[I (b ^ e % 2305843009213688669 : Nat)] 3 (0, 0)), .blk b2 (.cells #[I b] 3 (0, 0))]) (fun _ => True) (fun fn tm Dk L hfr w' hw' => ?_) (fun Dk _ _ => ?_)
  rotate_left
  · refine q_nb <| q_then <| c_seq <| c_reg <| s_y (y_ld (b := b5) (v := I (b ^ e % 2305843009213688669 : Nat))) <| s_y y_as <| s_nil <| q_then <| c_ret <| ?_
    exact ret1E Tryz.results165 (.head _) rv_t fun w' hw => ⟨rfl, hw.sub (List.nil_sublist _)⟩
  · have hps := (show St w [] w' (fpM L Dk _ b6 b5 b2 b1 e b 1 ++ []) by rw [List.append_nil]; exact hw').has
    refine (binary1_ok w' _ L Dk b6 b5 b2 b1 e b 2305843009213688669 he (by decide) hps.1 hps.2 rfl (fun i w2 h2 => ?_)).mono fun e' w2 ⟨hv, h2⟩ => ⟨hv, (), trivial, by have h9 := hw'.transL (l2 := []) (by rw [List.append_nil]; exact .refl _) h2; rw [List.append_nil] at h9; exact h9⟩
    have hf9 := (hfr []).put 11 (.bool (decide (e / 2 ^ i % 2 = 1))) rfl
    have hst := pow_step b e i 2305843009213688669
    dsimp only at hst
    obtain ⟨a, ha⟩ : ∃ a, b ^ (e / 2 ^ (i + 1)) % 2305843009213688669 = a := ⟨_, rfl⟩
    have hal : a < 2305843009213688669 := by rw [← ha]; exact Nat.mod_lt _ (by decide)
    rw [ha] at hst h2
    refine round_ok (F1 := [(2, .pointer (some ⟨b2, 0, none⟩)), (5, .pointer (some ⟨b5, 0, none⟩)), (6, .pointer (some ⟨b6, 0, none⟩)), (7, .bool (decide (e / 2 ^ i % 2 = 1)))]) h2 hf9 (by simp [Act.put]) (by rfl) (.head _) (l1 := fpM L Dk _ b6 b5 b2 b1 e b a) ?_ ?_
    · refine c_reg <| s_y y_as <| s_nil <| q_join ⟨rfl, rfl, rfl, rfl, trivial⟩ (List.Sublist.refl _)
    · refine c_block <| c_seq <| c_reg <| s_y (y_ld (b := b6) (v := fpF b5)) <| s_y (y_ld (b := b5) (v := I a)) <| s_upd (fs := []) (cs := [.pointer (some ⟨b5, 0, none⟩)]) (lx := fun _ => []) (fun w3 h3 => f_power1_ok w3 b5 a a (h3.own _ (.tail _ (.tail _ (.tail _ (.tail _ (.head _)))))).1 hal hal) (fun _ => .tail _ (.tail _ (.tail _ (.tail _ (.head _))))) (fun _ _ => ?_)
      refine s_nil <| q_then <| c_seq <| c_reg <| s_y y_mv <| s_nil <| q_then <| c_ifd (fun h13 => ?_) (fun h13 => ?_)
      · rw [if_pos h13] at hst
        refine c_reg <| s_y (y_ld (b := b6) (v := fpF b5)) <| s_y (y_ld (b := b2) (v := I b)) <| s_upd (fs := []) (cs := [.pointer (some ⟨b5, 0, none⟩)]) (lx := fun _ => []) (fun w3 h3 => f_power1_ok w3 b5 (a * a % 2305843009213688669) b (h3.own _ (.tail _ (.tail _ (.tail _ (.tail _ (.head _)))))).1 (Nat.mod_lt _ (by decide)) hb) (fun _ => .tail _ (.tail _ (.tail _ (.tail _ (.head _))))) (fun _ _ => ?_)
        refine s_nil <| q_nb <| q_rn (.head _) fun w3 h3 => ⟨(), trivial, rfl, ?_⟩
        rw [hst]; exact h3
      · rw [if_neg h13] at hst
        refine c_skip <| q_nb <| q_rn (.head _) fun w3 h3 => ⟨(), trivial, rfl, ?_⟩
        rw [hst]; exact h3
theorem f_outside1_lo (w : World) (a : Int) (h : a < 0) : Pure Tryz.prog 204 [I a] w (.bool true) := by
  refine enter Tryz.func204 Tryz.ntmps204 ?_
  refine c_seq <| c_reg <| s_y y_as <| s_nil <| q_then <| c_seq <| c_reg <| s_y y_mv <| s_kt (y_lss (p := a) (q := 0)) h <| s_y y_mv <| s_no <| s_no <| s_y y_pk <| s_y y_as <| s_nil <| q_then <| c_ret <| ?_
  exact ret1 Tryz.results204 rv_t fun w' hw => ⟨rfl, hw.sub (List.nil_sublist _)⟩
theorem f_outside1_hi (w : World) (a : Int) (h : 2305843009213688669 ≤ a) : Pure Tryz.prog 204 [I a] w (.bool true) := by
  refine enter Tryz.func204 Tryz.ntmps204 ?_
  refine c_seq <| c_reg <| s_y y_as <| s_nil <| q_then <| c_seq <| c_reg <| s_y y_mv <| s_kf (y_lss (p := a) (q := 0)) (by omega) <| s_y y_mv <| s_y y_mv <| s_kt (y_geq (p := a) (q := 2305843009213688669)) h <| s_y y_pk <| s_y y_as <| s_nil <| q_then <| c_ret <| ?_
  exact ret1 Tryz.results204 rv_t fun w' hw => ⟨rfl, hw.sub (List.nil_sublist _)⟩
theorem f_outside1_in (w : World) (x : Nat) (h : x < 2305843009213688669) : Pure Tryz.prog 204 [I x] w (.bool false) := by
  refine enter Tryz.func204 Tryz.ntmps204 ?_
  refine c_seq <| c_reg <| s_y y_as <| s_nil <| q_then <| c_seq <| c_reg <| s_y y_mv <| s_kf (y_lss (p := (x : Int)) (q := 0)) (by omega) <| s_y y_mv <| s_y y_mv <| s_kf (y_geq (p := (x : Int)) (q := 2305843009213688669)) (by omega) <| s_y y_pk <| s_y y_as <| s_nil <| q_then <| c_ret <| ?_
  exact ret1 Tryz.results204 rv_t fun w' hw => ⟨rfl, hw.sub (List.nil_sublist _)⟩
theorem f_outside1_ok (w : World) (a : Int) : Pure Tryz.prog 204 [I a] w (.bool (!sc a)) := by
  by_cases h1 : a < 0
  · rw [sc_lo h1]; exact f_outside1_lo w a h1
  by_cases h2 : 2305843009213688669 ≤ a
  · rw [sc_hi h2]; exact f_outside1_hi w a h2
  obtain ⟨x, rfl⟩ : ∃ x : Nat, a = (x : Int) := ⟨a.toNat, by omega⟩
  rw [sc_of (by omega)]
  exact f_outside1_in w x (by omega)
theorem IndexFunc_sc_ok (w : World) (a : Option Addr) (c : Nat) (q : List Int) (hr : Rd w a (is q)) (hl : q.length ≤ 1000000000000000000) :
    Pure Tryz.prog 227 [.slice a q.length c, .func (.func 204) #[] #[]] w (I (fidx (fun n => !sc n) q)) := by
  refine enter Tryz.func227 Tryz.ntmps227 ?_
  refine c_seq <| c_reg <| s_y y_as <| s_nil <| q_then <| c_seq <| c_seq <| c_reg <| s_y y_mv <| s_y y_len <| s_y y_mv <| s_nil <| q_then <| c_block <| ?_
  refine c_loop (fun i : Nat => [(0, .slice a q.length c), (1, .func (.func 204) #[] #[]), (7, I q.length), (8, I i)]) (fun _ => []) (fun i => i ≤ q.length ∧ ∀ j, j < i → (!sc (q.getD j 0)) = false) (fun i => q.length - i) 0 ⟨by omega, fun _ h => by omega⟩ ⟨rfl, rfl, rfl, rfl, trivial⟩ (List.Sublist.refl _) ?_
  intro i ⟨hi, hj⟩
  refine c_seq <| c_reg <| s_y (y_lss (p := i) (q := q.length)) <| s_nil <| q_then <| c_seq <| c_ifd (fun h9 => ?_) (fun h9 => ?_)
  · have hiq : i < q.length := by omega
    refine c_skip <| q_then <| c_seq <| c_block <| c_seq <| c_reg <| s_y y_mv <| s_y y_as <| s_nil <| q_then <| c_seq <| c_reg <| s_y y_mv <| s_y y_mv <| s_y y_mv <| s_y (y_ixs1 (i := i) (xs := is q)) <| s_y (y_ldi (i := i) (q := q)) <| s_pure (fun w' hw => f_outside1_ok w' (q.getD i 0)) <| s_nil <| q_then <| c_if rfl (fun h16 => ?_) (fun h16 => ?_)
    · rw [fidx_hit (d := 0) hiq hj h16]
      refine c_seq <| c_reg <| s_y y_mv <| s_y y_as <| s_nil <| q_then <| c_ret <| q_retb <| q_ret <| q_ret <| q_retb <| q_ret <| ?_
      exact ret1 Tryz.results227 rv_t fun w' hw => ⟨rfl, hw⟩
    · refine c_skip <| q_nb <| q_then <| c_reg <| s_y (y_add (p := i) (q := 1)) <| s_y y_mv <| s_nil <| q_round (i + 1) ⟨by omega, fun j h => (Nat.lt_or_ge j i).elim (hj j) fun h8 => by obtain rfl : j = i := (by omega); exact h16⟩ (by omega) ⟨rfl, rfl, rfl, rfl, trivial⟩ (List.Sublist.refl _)
  · rw [fidx_none (d := 0) (p := fun n => !sc n) (l := q) fun j h => hj j (by omega)]
    refine c_exit <| q_ex <| q_ex <| q_exb <| q_then <| c_seq <| c_reg <| s_y y_as <| s_nil <| q_then <| c_ret <| ?_
    exact ret1 Tryz.results227 rv_t fun w' hw => ⟨rfl, hw⟩
theorem ContainsFunc_sc_ok (w : World) (a : Option Addr) (c : Nat) (q : List Int) (hr : Rd w a (is q)) (hl : q.length ≤ 1000000000000000000) :
    Pure Tryz.prog 203 [.slice a q.length c, .func (.func 204) #[] #[]] w (.bool (q.any fun n => !sc n)) := by
  rw [← fidx_any]
  refine enter Tryz.func203 Tryz.ntmps203 ?_
  refine c_seq <| c_reg <| s_y y_as <| s_nil <| q_then <| c_seq <| c_reg <| s_y y_mv <| s_y y_mv <| s_pure (fun w' hw => IndexFunc_sc_ok w' a c q (hr.st hw) hl) <| s_y (y_geq (p := fidx (fun n => !sc n) q) (q := 0)) <| s_y y_as <| s_nil <| q_then <| c_ret <| ?_
  exact ret1 Tryz.results203 rv_t fun w' hw => ⟨rfl, hw⟩
theorem f_outside_ok (w : World) (a : Option Addr) (c : Nat) (q : List Int) (hr : Rd w a (is q)) (hl : q.length ≤ 1000000000000000000) :
    Pure Tryz.prog 153 [.slice a q.length c] w (.bool (q.any fun n => !sc n)) := by
  refine enter Tryz.func153 Tryz.ntmps153 ?_
  refine c_seq <| c_reg <| s_y y_as <| s_nil <| q_then <| c_seq <| c_reg <| s_y y_mv <| s_pure (fun w' hw => ContainsFunc_sc_ok w' a c q (hr.st hw) hl) <| s_y y_as <| s_nil <| q_then <| c_ret <| ?_
  exact ret1 Tryz.results153 rv_t fun w' hw => ⟨rfl, hw⟩
theorem f_Mul_yes (w : World) (x y : Nat) (hx : x < 2305843009213688669) (hy : y < 2305843009213688669) : Pure Tryz.prog 98 [I x, I y] w (.tuple #[I (x * y % 2305843009213688669 : Nat), I 0]) := by
  refine enter Tryz.func98 Tryz.ntmps98 ?_
  refine c_seq <| c_reg <| s_y y_as <| s_y y_as <| s_nil <| q_then <| c_seq <| c_seq <| c_reg <| s_y y_mv <| s_y y_mv <| s_bslr (cs := is [(x : Int), (y : Int)]) fun b8 => s_pure (fun w' hw => (by have h9 := f_outside_ok w' (some ⟨b8, 0, none⟩) 2 [(x : Int), (y : Int)] (rdR (.head _) w' hw) (by simp); rw [show ([(x : Int), (y : Int)].any fun n => !sc n) = false by simp [sc_of hx, sc_of hy]] at h9; exact h9)) <| s_nil <| q_then <| c_f <| c_skip <| q_then <| c_seq <| c_reg <| s_y y_mv <| s_y y_mv <| s_pure (fun w' hw => f_product_ok w' x y (by omega) (by omega)) <| s_y y_as <| s_y y_as <| s_nil <| q_then <| c_ret <| ?_
  exact ret2 Tryz.results98 rv_t rv_t fun w' hw => ⟨rfl, hw.sub (List.nil_sublist _)⟩
theorem f_Inv_yes (w : World) (x : Nat) (h0 : 0 < x) (hx : x < 2305843009213688669) : Pure Tryz.prog 99 [I x] w (.tuple #[I (qq x 2305843009213688667 : Nat), I 0]) := by
  refine enter Tryz.func99 Tryz.ntmps99 ?_
  refine c_seq <| c_reg <| s_y y_as <| s_y y_as <| s_nil <| q_then <| c_seq <| c_block <| c_seq <| c_reg <| s_y y_mv <| s_bslr (cs := is [(x : Int)]) fun b6 => s_pure (fun w' hw => (by have h9 := f_outside_ok w' (some ⟨b6, 0, none⟩) 1 [(x : Int)] (rdR (.head _) w' hw) (by simp); rw [show ([(x : Int)].any fun n => !sc n) = false by simp [sc_of hx]] at h9; exact h9)) <| s_y y_as <| s_nil <| q_then <| c_f <| c_seq <| c_reg <| s_y y_mv <| s_kf (y_eql (p := (x : Int)) (q := 0)) (by omega) <| s_y y_as <| s_nil <| q_then <| c_f <| c_skip <| q_nb <| q_then <| c_seq <| c_reg <| s_y y_mv <| s_pure (fun w' hw => f_power_ok w' x 2305843009213688667 (by omega) (by decide)) <| s_y y_as <| s_y y_as <| s_nil <| q_then <| c_ret <| ?_
  exact ret2 Tryz.results99 rv_t rv_t fun w' hw => ⟨rfl, hw.sub (List.nil_sublist _)⟩
end Go.Proofs.YtejdjnkilikehaaGreatDoor
end
section
namespace Eng
open Go Go.RowKit
section
variable {r : Option Nat} {P : Program} {n : Nat} {D : List Deferred} {W : World} {Bo : List Nat} {F : List (Nat × Value)} {l l' l2 ps0 lx : SH}
  {d : Option Tmp} {dd : Nat} {ty : TypeId} {ps : String} {af : Array Edge} {g : Option (Nat × Bool)} {x y z : Operand} {v u : Value} {ta tb t e : TypeId}
  {Q : Exit → Act → World → Prop} {ops : Array Oper} {rest : List Oper} {td : TypeDesc} {c : Code}
def Dies (P : Program) (k : FuncId) (args : List Value) (w : World) (v : Value) : Prop :=
  Calls P k args.toArray w fun e w' => e = .panicked [{ v := v, recovered := false }] ∧ St w [] w' []
theorem s_dies {k : FuncId} [hf : HF P k] {fo : Operand} {fs cs vs args : List Value} {ao : Array Operand} {ts : Array TypeId}
    (hc : ∀ w, St W Bo w l → Dies P k args w v)
    (h : QP n D W Bo Q (.panic [{ v := v, recovered := false }]) F l)
    (hfo : evO F fo = some (.func (.func k) fs.toArray cs.toArray) := by rfl) (hargs : evL F ao.toList = some vs := by rfl) (hap : args = fs ++ vs ++ cs := by rfl) (hg : Wn ops F g := by first | exact .none | exact .some rfl rfl) :
    LP r P n D W Bo ops Q (⟨d, .call ⟨.value fo, ao, ts⟩, ty, ps, af, g⟩ :: rest) F l := by
  intro a w ha hw
  refine wpListIn_of (hg.wanted rfl ha) ?_
  refine ⟨fun f _ => trivial, ?_⟩
  rw [semAt_eq _ (by simp), run_call hfo hargs ha]
  refine ⟨by simp [Fw, Fence.wide], callsFw ((hap ▸ hc w hw : Dies P k (fs ++ vs ++ cs) w v).mono ?_)⟩
  rintro e w' ⟨rfl, hw'⟩
  exact h _ _ ha ((hw.trans hw').sub (by simp))
theorem s_panic {T : TypeId} (h : QP n D W Bo Q (.panic [{ v := .iface T v, recovered := false }]) F l) (hx : evO F x = some (.iface T v) := by rfl) (hg : Wn ops F g := by first | exact .none | exact .some rfl rfl) :
    LP r P n D W Bo ops Q (⟨d, .panic x, ty, ps, af, g⟩ :: rest) F l := by
  intro a w ha hw
  refine wpListIn_of (hg.wanted rfl ha) ?_
  refine ⟨fun f _ => trivial, ?_⟩
  have e : (execOp a.eval ⟨d, .panic x, ty, ps, af, g⟩).run P w = .halt (.panic (.iface T v)) w := by
    simp only [execOp, ha.eval hx, Sem.run_bind]
    rfl
  rw [semAt_eq _ (by simp), e]
  exact h _ _ ha hw
theorem q_pb {id : Nat} {ch : List PanicEntry} (h : QP n D W Bo Q (.panic ch) F l) : QP n D W Bo (Exit.inBlock id Q) (.panic ch) F l := h
theorem q_pt {K : Act → World → Prop} {ch : List PanicEntry} (h : QP n D W Bo Q (.panic ch) F l) : QP n D W Bo (Exit.then K Q) (.panic ch) F l := h
theorem die {fn : Func} {R : Ending → World → Prop} {ch : List PanicEntry} (hR : ∀ w, St W Bo w l → R (.panicked ch) w) : QP n [] W Bo (bodyPost P fn R) (.panic ch) F l :=
  fun _ _ ha hw => ⟨ha.defers, hR _ hw⟩
theorem s_deferC {k : FuncId} {cs : List Value} {ts : Array TypeId} (h : LP none P n ({ target := .fn (.func k) cs.toArray, args := #[] } :: D) W Bo ops Q rest F l) (hx : evO F x = some (.func (.func k) #[] cs.toArray) := by rfl) :
    LP none P n D W Bo ops Q (⟨none, .defer ⟨.value x, #[], ts⟩, ty, ps, af, none⟩ :: rest) F l := by
  intro a w ha hw
  refine wpListIn_of (by simp [Region.wanted]) ?_
  refine ⟨fun f _ => trivial, ?_⟩
  have e : (Oper.semAt (Fw none).round a.eval ⟨none, .defer ⟨.value x, #[], ts⟩, ty, ps, af, none⟩).run P w = .ok (.defer { target := .fn (.func k) cs.toArray, args := #[] }) w := by
    rw [show (Fw none).round = none from rfl, Oper.semAt_none]
    simp [execOp, resolve, ha.eval hx, Deferred.ofValue]
  rw [e]
  exact h _ _ ⟨ha.size, by simp [Act.put, ha.defers], fun t v ht => ha.slot t v ht⟩ hw
def GivesD (P : Program) (k : FuncId) (args : List Value) (m : FrameMode) (w : World) (bo : List Nat) (m' : FrameMode) (lx : SH) : Prop :=
  CallsD P k args.toArray m w fun e u w' => e = .returned (.tuple #[]) ∧ u = m' ∧ St w bo w' lx
theorem ret_0D {fn : Func} {R : Ending → World → Prop} {rvs : List ResultVar} {vs : List Value} (hf : fn.results = rvs.toArray) (h : RVs P n W Bo F l rvs vs) (hR : ∀ w, St W Bo w l → R (.returned (outV vs)) w) :
    QP n [] W Bo (bodyPostD P fn R) .ret F l := by
  intro a w ha hw
  obtain ⟨_, h4⟩ := (ret_n hf h _ (.inl rfl) hR : QP n [] W Bo (bodyPost P fn R) .ret F l) a w ha hw
  show Leaves P fn a.tmps R a.defers .returning w
  rw [ha.defers]; exact h4
theorem leave_D {fn : Func} {R : Ending → World → Prop} {rvs : List ResultVar} {vs : List Value} {k : FuncId} [hk : HF P k] {cs : List Value} {m m' : FrameMode} {e : Exit}
    (he : ∀ (a : Act) (w : World), Leaves P fn a.tmps R a.defers m w → bodyPostD P fn R e a w) (hm : m ≠ .run) (hm' : settle m' = .returning)
    (hperm : l.Perm (ps0 ++ l2)) (hd : ∀ w, St W Bo w (ps0 ++ l2) → GivesD P k cs m w (keys ps0) m' lx)
    (hf : fn.results = rvs.toArray) (h : RVs P n W Bo F (lx ++ l2) rvs vs) (hR : ∀ w, St W Bo w (lx ++ l2) → R (.returned (outV vs)) w) :
    QP n [{ target := .fn (.func k) cs.toArray, args := #[] }] W Bo (bodyPostD P fn R) e F l := by
  intro a w ha hw
  refine he a w ?_
  rw [ha.defers]
  obtain ⟨fnd, bc, h1, h2, h3⟩ := hk.h
  have hi : (invoke (.fn (.func k) cs.toArray) #[]).run P w = .ok (.enter k cs.toArray) w := by
    have h4 : fnd.name ≠ "runtime.NumGoroutine" := by simpa using h3
    simp [invoke, callFunc, h1, h4, h2]
  refine leaves_cons (f := k) (args := cs.toArray) hm hi ?_
  refine (hd w (hw.perm hperm.symm)).mono fun e' u' w' ⟨h5, h6, h7⟩ => ?_
  subst h5 h6
  show Leaves P fn a.tmps R [] (settle _) w'
  rw [hm']
  have hw' := hw.transL hperm h7
  obtain ⟨_, h4⟩ := (ret_n hf h _ (.inl rfl) hR : QP n [] W Bo (bodyPost P fn R) .ret F (lx ++ l2)) { a with defers := [] } w' ⟨ha.size, rfl, ha.slot⟩ hw'
  exact h4
theorem leave_R {fn : Func} {R : Ending → World → Prop} {rvs : List ResultVar} {vs : List Value} {k : FuncId} [hk : HF P k] {cs : List Value}
    (hd : ∀ w, St W Bo w l → GivesD P k cs .returning w [] .returning [])
    (hf : fn.results = rvs.toArray) (h : RVs P n W Bo F l rvs vs) (hR : ∀ w, St W Bo w l → R (.returned (outV vs)) w) :
    QP n [{ target := .fn (.func k) cs.toArray, args := #[] }] W Bo (bodyPostD P fn R) .ret F l :=
  leave_D (ps0 := []) (l2 := l) (lx := []) (m := .returning) (m' := .returning) (fun _ _ h => h) (by simp) rfl (.refl _) hd hf h hR
theorem leave_P {fn : Func} {R : Ending → World → Prop} {rvs : List ResultVar} {vs : List Value} {k : FuncId} [hk : HF P k] {cs : List Value} {v : Value} {p p' : Res}
    (hd : ∀ w, St W Bo w (p :: l2) → GivesD P k cs (.panicking [{ v := v, recovered := false }]) w (keys [p]) (.panicking [{ v := v, recovered := true }]) [p'])
    (hf : fn.results = rvs.toArray) (hperm : l.Perm (p :: l2)) (h : RVs P n W Bo F (p' :: l2) rvs vs) (hR : ∀ w, St W Bo w (p' :: l2) → R (.returned (outV vs)) w) :
    QP n [{ target := .fn (.func k) cs.toArray, args := #[] }] W Bo (bodyPostD P fn R) (.panic [{ v := v, recovered := false }]) F l :=
  leave_D (ps0 := [p]) (l2 := l2) (lx := [p']) (m := .panicking [{ v := v, recovered := false }]) (m' := .panicking [{ v := v, recovered := true }]) (fun _ _ h => h) (by simp) rfl hperm hd hf h hR
theorem recov {k kc : FuncId} [hkc : HF P kc] {fn : Func} {t1 t2 : TypeId} {p1 p2 : String} {a1 a2 : Array Edge} {ts : Array TypeId} {id : Nat} (hf : P.funcs[k]? = some fn)
    (hb : fn.body = some (.region id #[⟨some 1, .call ⟨.builtin .recover, #[], #[]⟩, t1, p1, a1, none⟩, ⟨some 2, .call ⟨.value (.func kc), #[.tmp 1, .tmp 0], ts⟩, t2, p2, a2, none⟩] false))
    (hn : fn.ntmps = 3) (hr : fn.results = #[]) {q rv : Value} {m m' : FrameMode} {w : World} {bo : List Nat}
    (hm : (m = .returning ∧ m' = .returning ∧ rv = .nilIface) ∨ ∃ v, m = .panicking [{ v := v, recovered := false }] ∧ m' = .panicking [{ v := v, recovered := true }] ∧ rv = v)
    (hc : Gives P kc [rv, q] w bo (fun _ : Unit => .tuple #[]) (fun _ => lx) (fun _ => True)) : GivesD P k [q] m w bo m' lx := by
  refine callsD_of_wpS hf hb fun c₀ cs hu => ?_
  apply wpS_region
  have hrec : (match recoverD (c₀ :: cs) with | some (v, cs') => (v, cs') | none => (.nilIface, c₀ :: cs)) = (rv, { c₀ with mode := m' } :: cs) := by
    rcases hm with ⟨rfl, rfl, rfl⟩ | ⟨v, rfl, rfl, rfl⟩
    · simp only [recoverD, hu]
      rw [← hu]
    · simp only [recoverD, hu]
  have e1 : ∀ (a : Act), (execOp a.eval ⟨some 1, .call ⟨.builtin .recover, #[], #[]⟩, t1, p1, a1, none⟩).run P w = .ok .recover w := fun a => rfl
  obtain ⟨fnd, bc, h1, h2, h3⟩ := hkc.h
  have h4 : fnd.name ≠ "runtime.NumGoroutine" := by simpa using h3
  have e2 : ∀ (a : Act), a.tmps[0]? = some q → a.tmps[1]? = some rv → (execOp a.eval ⟨some 2, .call ⟨.value (.func kc), #[.tmp 1, .tmp 0], ts⟩, t2, p2, a2, none⟩).run P w = .ok (.enter kc [rv, q].toArray) w := fun a ha hb => by
    have e3 : a.eval (.tmp 1) = rv := by simp [Act.eval, Array.getD_eq_getD_getElem?, hb]
    have e4 : a.eval (.tmp 0) = q := by simp [Act.eval, Array.getD_eq_getD_getElem?, ha]
    simp [execOp, resolve, Deferred.ofValue, invoke, callFunc, h1, h4, h2, e3, e4, Act.eval]
    simp [Act.eval] at e3 e4
    simp [e3, e4]
  have hend : ∀ (cs' : List Frame) (a : Act), a.tmps[0]? = some q → a.tmps[1]? = some rv → a.defers = [] → cs' = { c₀ with mode := m' } :: cs →
      (Oper.upon P ⟨some 2, .call ⟨.value (.func kc), #[.tmp 1, .tmp 0], ts⟩, t2, p2, a2, none⟩ a (fun a' w' => bodyPostS P fn c₀ cs (fun e u w' => e = .returned (.tuple #[]) ∧ u = m' ∧ St w bo w' lx) .normal a' cs' w') (fun e a' w' => bodyPostS P fn c₀ cs (fun e u w' => e = .returned (.tuple #[]) ∧ u = m' ∧ St w bo w' lx) e a' cs' w') (.ok (.enter kc [rv, q].toArray) w)) := fun cs' a _ _ hd hcs => by
    show Calls P kc _ w _
    refine hc.mono fun e w' ⟨_, _, he, hw'⟩ => ?_
    subst he
    exact ⟨by simp [Act.put, hd], m', hcs, .tuple #[], by rw [results_eq, hr]; simp, rfl, rfl, hw'⟩
  have ht0 : (#[q] ++ Array.replicate (fn.ntmps - 1) undef : Array Value) = #[q, undef, undef] := by rw [hn]; rfl
  simp only [List.size_toArray, List.length_cons, List.length_nil, Nat.zero_add, ht0]
  show wpOpsS P _ _ [0, 1] _ _ w
  unfold wpOpsS
  simp only [List.getElem?_toArray, List.getElem?_cons_zero, Region.wanted, if_true, e1]
  have key : ∀ (v : Value) (cs' : List Frame), v = rv → cs' = { c₀ with mode := m' } :: cs → wpOpsS P #[⟨some 1, .call ⟨.builtin .recover, #[], #[]⟩, t1, p1, a1, none⟩, ⟨some 2, .call ⟨.value (.func kc), #[.tmp 1, .tmp 0], ts⟩, t2, p2, a2, none⟩] (bodyPostS P fn c₀ cs fun e u w' => e = .returned (.tuple #[]) ∧ u = m' ∧ St w bo w' lx) [1] (({ tmps := #[q, undef, undef], defers := [] } : Act).put (some 1) v) cs' w := fun v cs' hv hcs => by
    subst hv
    unfold wpOpsS
    simp only [List.getElem?_toArray, List.getElem?_cons_succ, List.getElem?_cons_zero, Region.wanted, if_true]
    rw [e2 _ rfl rfl]
    exact hend cs' _ rfl rfl rfl hcs
  cases hq : recoverD (c₀ :: cs) with
  | none => rw [hq] at hrec; simp only [Prod.mk.injEq] at hrec; exact key _ _ hrec.1 hrec.2
  | some y => obtain ⟨v, cs'⟩ := y; rw [hq] at hrec; simp only [Prod.mk.injEq] at hrec; exact key _ _ hrec.1 hrec.2
end
end Eng
end
section
namespace Go.Proofs.YtejdjnkilikehaaGreatDoor
open Go Eng Sha Cod
end Go.Proofs.YtejdjnkilikehaaGreatDoor
end
section
namespace Eng
open Go Go.RowKit
section
variable {P : Program} {n : Nat} {D : List Deferred} {W : World} {Bo : List Nat} {F : List (Nat × Value)} {l : SH}
  {d : Option Tmp} {ty : TypeId} {ps : String} {af : Array Edge} {g : Option (Nat × Bool)} {x y : Operand} {ta tb e : TypeId}
theorem run_part1 [hf : HT P e true] {by' : Nat} [hs : HS P e 1 by'] {cs : Array Value} {v : Value} {i : Nat} (hv : cs[i]? = some v) (w : World) : (part e cs i).run P w = .ok v w := by
  simp [part, run_isAgg hf, run_sizeOf' hs, hv]
theorem eqItems_b [hf : HT P e true] {by' : Nat} [hs : HS P e 1 by'] [hi : HU P e (.int .u8)] {p q : List UInt8} (w : World) : ∀ is : List Nat, (∀ i ∈ is, i < p.length ∧ i < q.length) →
    (Op.eqItems 9999 e 1 (bs p).toArray (bs q).toArray is).run P w = .ok (is.all fun i => p[i]? == q[i]?) w
  | [], _ => by simp [Op.eqItems]
  | i :: is, h => by
    obtain ⟨h1, h2⟩ := h i (.head _)
    have e1 : (bs p).toArray[i]? = some (B p[i]) := by rw [List.getElem?_toArray, bs_get h1]; simp [List.getD_eq_getElem?_getD, List.getElem?_eq_getElem h1]
    have e2 : (bs q).toArray[i]? = some (B q[i]) := by rw [List.getElem?_toArray, bs_get h2]; simp [List.getD_eq_getElem?_getD, List.getElem?_eq_getElem h2]
    have e3 : (Op.equalIn 9999 e (B p[i]) (B q[i])).run P w = .ok (((p[i].toNat : Nat) : Int) == ((q[i].toNat : Nat) : Int)) w := run_equalIn_int w 9998 e .u8 .u8 _ _ hi.h
    have e4 : (((p[i].toNat : Nat) : Int) == ((q[i].toNat : Nat) : Int)) = (p[i]? == q[i]?) := by
      rw [List.getElem?_eq_getElem h1, List.getElem?_eq_getElem h2]
      by_cases hpq : p[i] = q[i]
      · simp [hpq]
      · have : p[i].toNat ≠ q[i].toNat := fun e => hpq (UInt8.toNat_inj.1 e)
        have h5 : (((p[i].toNat : Nat) : Int) == ((q[i].toNat : Nat) : Int)) = false := by rw [beq_eq_false_iff_ne]; omega
        have h6 : (some p[i] == some q[i]) = false := by simpa using hpq
        rw [h5, h6]
    simp only [Op.eqItems, Sem.run_bind, Nat.mul_one, run_part1 e1, run_part1 e2, Result.andThen_ok, e3, List.all_cons, ← e4]
    cases ((p[i].toNat : Nat) : Int) == ((q[i].toNat : Nat) : Int) with
    | false => simp
    | true => simpa using eqItems_b w is fun j hj => h j (.tail _ hj)
theorem all_eq {p q : List UInt8} {m : Nat} (hp : p.length = m) (hq : q.length = m) : ((List.range m).all fun i => p[i]? == q[i]?) = decide (p = q) := by
  by_cases h : p = q
  · subst h; simp
  · rw [decide_eq_false h, List.all_eq_false]
    apply Classical.byContradiction
    intro hc
    refine h (List.ext_getElem? fun i => ?_)
    rcases Nat.lt_or_ge i m with hi | hi
    · apply Classical.byContradiction
      intro hne
      exact hc ⟨i, List.mem_range.2 hi, by simpa using hne⟩
    · rw [List.getElem?_eq_none (by omega), List.getElem?_eq_none (by omega)]
theorem run_eqa {m : Nat} [hu : HU P ta (.array m e)] [hf : HT P e true] {by' : Nat} [hs : HS P e 1 by'] [hi : HU P e (.int .u8)] {p q : List UInt8} (hp : p.length = m) (hq : q.length = m) (w : World) :
    (Op.equalIn 10000 ta (.agg (bs p).toArray) (.agg (bs q).toArray)).run P w = .ok (decide (p = q)) w := by
  obtain ⟨inf, h1, h2, h3⟩ := hs.h
  have h4 := run_equalIn_array w 9999 (bs p).toArray (bs q).toArray hu.h h1
  have h5 : P.cellsOf e = 1 := by simp [Program.cellsOf, h1, h2]
  rw [h5, eqItems_b w (List.range m) (fun i hi => by have := List.mem_range.1 hi; omega), all_eq hp hq] at h4
  exact h4
theorem y_eqla {m : Nat} [hu : HU P ta (.array m e)] [hf : HT P e true] {by' : Nat} [hs : HS P e 1 by'] [hi : HU P e (.int .u8)] {p q : List UInt8} (hp : p.length = m) (hq : q.length = m) (hgd : P.eqGuardType P.depth ta = false)
    (hx : evO F x = some (.agg (bs p).toArray) := by rfl) (hy : evO F y = some (.agg (bs q).toArray) := by rfl) : Y P n D W Bo ⟨d, .binOp .eql ta x y tb, ty, ps, af, g⟩ F l (.bool (decide (p = q))) :=
  .mk (by simp) fun ac w ha _ => by
    simp only [execOp, ha.eval hx, ha.eval hy, Sem.run_bind, run_eqGuard_agg w .eql ta x y _ _ hgd, Result.andThen_ok, run_eql_struct, run_eqa hp hq, Sem.run_pure]
theorem y_neqa {m : Nat} [hu : HU P ta (.array m e)] [hf : HT P e true] {by' : Nat} [hs : HS P e 1 by'] [hi : HU P e (.int .u8)] {p q : List UInt8} (hp : p.length = m) (hq : q.length = m) (hgd : P.eqGuardType P.depth ta = false)
    (hx : evO F x = some (.agg (bs p).toArray) := by rfl) (hy : evO F y = some (.agg (bs q).toArray) := by rfl) : Y P n D W Bo ⟨d, .binOp .neq ta x y tb, ty, ps, af, g⟩ F l (.bool (!decide (p = q))) :=
  .mk (by simp) fun ac w ha _ => by
    simp only [execOp, ha.eval hx, ha.eval hy, Sem.run_bind, run_eqGuard_agg w .neq ta x y _ _ hgd, Result.andThen_ok, run_neq_struct, run_eqa hp hq, Sem.run_pure]
end
end Eng
end
section
namespace Eng
open Go Go.RowKit
def K32 (l : List (List UInt8)) : Prop := ∀ k ∈ l, k.length = 32
theorem K32.nil : K32 [] := fun _ h => by cases h
theorem K32.one {k : List UInt8} (h : k.length = 32) : K32 [k] := fun x hx => by rw [List.mem_singleton] at hx; rw [hx]; exact h
theorem K32.get {l : List (List UInt8)} (h : K32 l) {i : Nat} (hi : i < l.length) : (l.getD i []).length = 32 := by
  rw [List.getD_eq_getElem?_getD, List.getElem?_eq_getElem hi]; exact h _ (List.getElem_mem hi)
theorem K32.drop {l : List (List UInt8)} (h : K32 l) (i : Nat) : K32 (l.drop i) := fun k hk => h k (List.mem_of_mem_drop hk)
section
variable {r : Option Nat} {P : Program} {n : Nat} {D : List Deferred} {W : World} {Bo : List Nat} {F : List (Nat × Value)} {l l' : SH}
  {d : Option Tmp} {dd : Nat} {ty : TypeId} {ps : String} {af : Array Edge} {g : Option (Nat × Bool)} {x y z : Operand} {v u : Value} {ta tb t e : TypeId}
  {Q : Exit → Act → World → Prop} {ops : Array Oper} {rest : List Oper} {td : TypeDesc} {c : Code}
section
variable {lp : SH} {fuel : Nat} {listed : Array Bool}
theorem r_kt {op : Op} {p : Prop} [dp : Decidable p] (i : Nat) (hi : ops[i]? = some ⟨some dd, op, ty, ps, af, g⟩) (hy : Y P n D W Bo ⟨some dd, op, ty, ps, af, g⟩ F lp (.bool (decide p))) (hp : p) (h : DC P n D W Bo ops Q lp fuel (listed.setIfInBounds i true) ((dd, .bool true) :: F) l)
    (hn : Nat.blt dd n = true := by rfl) (hg : Wn ops F g := by first | exact .none | exact .some rfl rfl)
    (hr : (Region.ready .any ops listed).contains i = true := by kernel_rfl) (hf : Region.free .any ops listed i = true := by kernel_rfl) : DC P n D W Bo ops Q lp (fuel + 1) listed F l :=
  r_y i hi hy (by rw [decide_eq_true hp]; exact h) hn hg hr hf
theorem r_kf {op : Op} {p : Prop} [dp : Decidable p] (i : Nat) (hi : ops[i]? = some ⟨some dd, op, ty, ps, af, g⟩) (hy : Y P n D W Bo ⟨some dd, op, ty, ps, af, g⟩ F lp (.bool (decide p))) (hp : ¬ p) (h : DC P n D W Bo ops Q lp fuel (listed.setIfInBounds i true) ((dd, .bool false) :: F) l)
    (hn : Nat.blt dd n = true := by rfl) (hg : Wn ops F g := by first | exact .none | exact .some rfl rfl)
    (hr : (Region.ready .any ops listed).contains i = true := by kernel_rfl) (hf : Region.free .any ops listed i = true := by kernel_rfl) : DC P n D W Bo ops Q lp (fuel + 1) listed F l :=
  r_y i hi hy (by rw [decide_eq_false hp]; exact h) hn hg hr hf
end
end
end Eng
namespace Go.Proofs.YtejdjnkilikehaaGreatDoor
open Go Eng Sha Cod
theorem hz32 {k : List UInt8} (h : k.length = 32) : (bs k).toArray.size = 32 := by simp [bs_length, h]
theorem hone32 (k : List UInt8) : ∀ u ∈ (bs k).toArray.toList, u.oneCell' = true := fun v hv => bs_one (by simpa using hv)
theorem mix_length (t a b : List UInt8) : (mix t a b).length = 32 := tagged_length _ _
abbrev lbItem : List UInt8 := [105, 116, 101, 109]
abbrev lbLink : List UInt8 := [108, 105, 110, 107]
end Go.Proofs.YtejdjnkilikehaaGreatDoor
end
section
namespace Eng
open Go Go.RowKit
section
variable {r : Option Nat} {P : Program} {n : Nat} {D : List Deferred} {W : World} {Bo : List Nat} {F : List (Nat × Value)} {l : SH} {d : Option Tmp} {ty : TypeId} {ps : String} {af : Array Edge} {g : Option (Nat × Bool)} {x y : Operand} {v : Value} {t ta tb : TypeId}
theorem y_ldin [hu : HT P t false] {s by' : Nat} [hs : HS P t s by'] {b off : Nat} {cs : Array Value} {et : TypeId} {fz : Nat × Nat} {ys : List Value} (hl : ys.length = s) (hv : ∀ j v, ys[j]? = some v → cs[off + j]? = some v)
    (hx : evO F x = some (.pointer (some ⟨b, off, none⟩)) := by rfl) (hm : Res.blk b (.cells cs et fz) ∈ l := by repeat (first | exact .head _ | apply List.Mem.tail)) : Y P n D W Bo ⟨d, .load t x, ty, ps, af, g⟩ F l (.agg ys.toArray) :=
  y_ld0 hx fun w hw => ld_agg hu hs hl fun j v h => by rw [addr_add, cell_of_row w b _ cs et fz (hw.own _ hm).1]; exact hv j v h
theorem y_mki {T : TypeId} (hx : evO F x = some v := by rfl) (hT : P.concrete T = true := by kernel_rfl) : Y P n D W Bo ⟨d, .makeInterface T x, ty, ps, af, g⟩ F l (.iface T v) :=
  .mk (by simp) fun a w ha _ => by simp only [execOp, ha.eval hx, Sem.run_bind, run_makeInterface w T v hT]; rfl
end
def be8 (n : Int) : List UInt8 := (List.range 8).map fun i => UInt8.ofNat ((n / 2 ^ (56 - 8 * i)) % 256).toNat
theorem be8_length (n : Int) : (be8 n).length = 8 := by simp [be8]
theorem be8_get (n : Int) {i : Nat} (h : i < 8) : (be8 n).getD i 0 = UInt8.ofNat ((n / 2 ^ (56 - 8 * i)) % 256).toNat := by
  rw [List.getD_eq_getElem?_getD, be8, List.getElem?_map, List.getElem?_range h]; rfl
def xr (k d : List UInt8) : List UInt8 := List.zipWith (· ^^^ ·) k d
theorem xr_length {k d : List UInt8} (h : k.length = d.length) : (xr k d).length = k.length := by simp [xr, h]
theorem xr_step {k d : List UInt8} {i : Nat} (h1 : i < k.length) (h2 : k.length = d.length) : (((xr k d).take i ++ k.drop i).set i (k.getD i 0 ^^^ d.getD i 0)) = (xr k d).take (i + 1) ++ k.drop (i + 1) := by
  have hx : (xr k d).length = k.length := xr_length h2
  have e : ((xr k d).take i).length = i := by simp [hx]; omega
  rw [List.set_append_right _ _ (by omega), e, Nat.sub_self, List.drop_eq_getElem_cons h1, List.set_cons_zero, take_snoc (xr k d) i 0 (by omega), List.append_assoc]
  congr 1
  rw [List.singleton_append]
  congr 1
  simp only [List.getD_eq_getElem?_getD]
  rw [List.getElem?_eq_getElem h1, List.getElem?_eq_getElem (show i < d.length by omega), List.getElem?_eq_getElem (by omega)]
  simp [xr]
theorem xr_at {k d : List UInt8} {i : Nat} (h1 : i < k.length) (h2 : k.length = d.length) : ((xr k d).take i ++ k.drop i).getD i 0 = k.getD i 0 := by
  have hx : (xr k d).length = k.length := xr_length h2
  have e : ((xr k d).take i).length = i := by simp [hx]; omega
  simp only [List.getD_eq_getElem?_getD]
  rw [List.getElem?_append_right (by omega), e, Nat.sub_self, List.getElem?_drop, Nat.add_zero]
theorem xr_xr {k d : List UInt8} (h : k.length = d.length) : xr (xr k d) d = k := by
  apply List.ext_getElem
  · simp [xr, h]
  · intro i h1 h2
    simp [xr, UInt8.xor_assoc]
end Eng
namespace Go.Proofs.YtejdjnkilikehaaGreatDoor
open Go Eng Gf Sha
abbrev lbPad : List UInt8 := [112, 97, 100]
def msk (m : Int) : List UInt8 := tagged lbPad (be8 m)
theorem msk_length (m : Int) : (msk m).length = 32 := tagged_length _ _
theorem cmb_length {k : List UInt8} (h : k.length = 32) (m : Int) : (xr k (msk m)).length = 32 := by rw [xr_length (by rw [h, msk_length]), h]
theorem combine_ok (w : World) (k : List UInt8) (m : Int) (hg : LS w) (hk : k.length = 32) (hm : R64 m) : Pure Tryz.prog 135 [.agg (bs k).toArray, I m] w (.agg (bs (xr k (msk m))).toArray) := by
  have h8 := be8_length m
  have hkd : k.length = (msk m).length := by rw [hk, msk_length]
  refine enter Tryz.func135 Tryz.ntmps135 ?_
  refine c_seq <| c_reg <| s_box rfl fun b2 => s_alloc fun b4 => s_nil <| q_then <| c_seq <| c_reg <| s_alloc fun b5 => s_nil <| q_then <| c_seq <| c_seq <| c_reg <| s_y y_mv <| s_nil <| q_then <| c_block <| ?_
  refine c_loop (fun i : Nat => [(1, I m), (2, .pointer (some ⟨b2, 0, none⟩)), (4, .pointer (some ⟨b4, 0, none⟩)), (5, .pointer (some ⟨b5, 0, none⟩)), (9, I i)]) (fun i => [.blk b5 (.cells (bs ((be8 m).take i ++ List.replicate (8 - i) 0)).toArray 185 (0, 0)), .blk b4 (.cells (List.replicate 32 (.int .u8 0)).toArray 24 (0, 0)), .blk b2 (.cells (bs k).toArray 24 (0, 0))]) (fun i => i ≤ 8) (fun i => 8 - i) 0 (by omega) ⟨rfl, rfl, rfl, rfl, rfl, trivial⟩ (by rw [show (bs ((be8 m).take 0 ++ List.replicate (8 - 0) 0)).toArray = (List.replicate 8 (.int .u8 0)).toArray from rfl]; exact .refl _) ?_
  intro i hi
  refine c_seq <| c_reg <| s_y (y_lss (p := i) (q := 8)) <| s_nil <| q_then <| c_seq <| c_ifd (fun h10 => ?_) (fun h10 => ?_)
  · have hi8 : i < 8 := by omega
    refine c_skip <| q_then <| c_seq <| c_block <| c_seq <| c_reg <| s_y y_mv <| s_y y_as <| s_nil <| q_then <| c_reg <| s_y y_mv <| s_y y_mv <| s_y y_mv <| s_y (y_sub (p := 7) (q := i)) <| s_y (y_mul (p := 8) (q := 7 - (i : Int))) <| ?_
    rw [show (8 : Int) * (7 - (i : Int)) = ((56 - 8 * i : Nat) : Int) by omega]
    refine s_y (y_sar (p := m) (q := ((56 - 8 * i : Nat) : Int))) <| ?_
    rw [Int.toNat_natCast]
    refine s_y y_cv8 <| s_y (y_ixa1 (i := i)) <| s_stb (b := b5) (off := 0 + i) (q := (be8 m).take i ++ List.replicate (8 - i) 0) (p := UInt8.ofNat ((m / 2 ^ (56 - 8 * i)) % 256).toNat) (hl := by simp [h8]; omega) ?_
    rw [Nat.zero_add i, set_fill (d := 0) (be8 m) i 8 0 _ (by omega) hi8 (be8_get m hi8)]
    refine s_nil <| q_nb <| q_then <| c_reg <| s_y (y_add (p := i) (q := 1)) <| s_y y_mv <| s_nil <| q_round (i + 1) (by omega) (by omega) ⟨rfl, rfl, rfl, rfl, rfl, trivial⟩ (List.Sublist.refl _)
  · obtain rfl : i = 8 := by omega
    rw [show (be8 m).take 8 ++ List.replicate (8 - 8) 0 = be8 m by rw [List.take_of_length_le (by omega)]; simp]
    refine c_exit <| q_ex <| q_ex <| q_exb <| q_then <| c_seq <| c_seq <| c_reg <| s_y y_sla <| s_pure (fun w' hw => by have h9 := digest_Tagged_ok w' lbPad (some ⟨b5, 0, none⟩) 8 (be8 m) (hg.st hw) (by decide) (rd_blkB (e := 185) (.head _) w' hw) (by omega); rw [h8] at h9; exact h9) <| s_y y_mv <| s_nil <| q_then <| c_block <| ?_
    refine c_loop (fun i : Nat => [(2, .pointer (some ⟨b2, 0, none⟩)), (4, .pointer (some ⟨b4, 0, none⟩)), (22, .agg (bs (msk m)).toArray), (23, I i)]) (fun i => [.blk b4 (.cells (List.replicate 32 (.int .u8 0)).toArray 24 (0, 0)), .blk b2 (.cells (bs ((xr k (msk m)).take i ++ k.drop i)).toArray 24 (0, 0))]) (fun i => i ≤ 32) (fun i => 32 - i) 0 (by omega) ⟨rfl, rfl, rfl, rfl, trivial⟩ (by rw [List.take_zero, List.nil_append, List.drop_zero]; exact .cons _ (.refl _)) ?_
    intro i hi
    refine c_seq <| c_reg <| s_y (y_lss (p := i) (q := 32)) <| s_nil <| q_then <| c_seq <| c_ifd (fun h24 => ?_) (fun h24 => ?_)
    · have hik : i < k.length := by omega
      have hml := msk_length m
      have hcl : ((xr k (msk m)).take i ++ k.drop i).length = 32 := by simp [cmb_length hk m]; omega
      refine c_skip <| q_then <| c_seq <| c_block <| c_seq <| c_reg <| s_y y_mv <| s_y (y_ixv (v := B ((msk m).getD i 0)) i (by rw [List.getElem?_toArray]; exact bs_get (by omega))) <| s_y y_as <| s_y y_as <| s_nil <| q_then <| c_reg <| s_y y_mv <| s_y (y_ixa1 (i := i)) <| s_y (y_ldbb (b := b2) (off := 0 + i) (q := (xr k (msk m)).take i ++ k.drop i) (hi := by omega)) <| ?_
      rw [Nat.zero_add i, xr_at hik hkd]
      refine s_y y_mv <| s_y (y_xor8 (p := k.getD i 0) (q := (msk m).getD i 0)) <| s_y (y_ixa1 (i := i)) <| s_stb (b := b2) (off := 0 + i) (q := (xr k (msk m)).take i ++ k.drop i) (p := k.getD i 0 ^^^ (msk m).getD i 0) (hl := by omega) ?_
      rw [Nat.zero_add i, xr_step hik hkd]
      refine s_nil <| q_nb <| q_then <| c_reg <| s_y (y_add (p := i) (q := 1)) <| s_y y_mv <| s_nil <| q_round (i + 1) (by omega) (by omega) ⟨rfl, rfl, rfl, rfl, trivial⟩ (List.Sublist.refl _)
    · obtain rfl : i = 32 := by omega
      rw [show (xr k (msk m)).take 32 ++ k.drop 32 = xr k (msk m) by rw [List.take_of_length_le (by rw [cmb_length hk]; exact Nat.le_refl _), List.drop_eq_nil_of_le (by omega), List.append_nil]]
      refine c_exit <| q_ex <| q_ex <| q_exb <| q_then <| c_seq <| c_reg <| s_y (y_lda (b := b2) (cs := (bs (xr k (msk m))).toArray) (hl := hz32 (cmb_length hk m))) <| s_sta (b := b4) (vs := (bs (xr k (msk m))).toArray) (cs := (List.replicate 32 (.int .u8 0)).toArray) (h1 := hone32 _) (hl := by rw [hz32 (cmb_length hk m)]; rfl) (hs1 := hz32 (cmb_length hk m)) ?_
      refine s_nil <| q_then <| c_ret <| ?_
      exact ret1 Tryz.results135 (rv_ca (hl := hz32 (cmb_length hk m))) fun w' hw => ⟨rfl, hw.sub (List.nil_sublist _)⟩
end Go.Proofs.YtejdjnkilikehaaGreatDoor
end
section
namespace Gf
def prv (a : Int) : Bool := decide (1 ≤ a) && decide (a < 2305843009213688669)
theorem El.r64 {x : Nat} (h : El x) : Eng.R64 (x : Int) := by have h9 := h.lt; unfold Eng.R64; omega
theorem prv_lo {a : Int} (h : a < 1) : prv a = false := by unfold prv; rw [decide_eq_false (show ¬ 1 ≤ a by omega), Bool.false_and]
theorem prv_hi {a : Int} (h : 2305843009213688669 ≤ a) : prv a = false := by unfold prv; rw [decide_eq_false (show ¬ a < 2305843009213688669 by omega), Bool.and_false]
theorem prv_of {x : Nat} (h0 : 0 < x) (h : x < 2305843009213688669) : prv (x : Int) = true := by
  unfold prv
  rw [decide_eq_true (show (1 : Int) ≤ (x : Int) by omega), decide_eq_true (show (x : Int) < 2305843009213688669 by omega)]; rfl
theorem prv_nat {a : Int} (h : prv a = true) : ∃ x : Nat, a = (x : Int) ∧ 0 < x ∧ x < 2305843009213688669 := by
  unfold prv at h
  simp only [Bool.and_eq_true, decide_eq_true_eq] at h
  exact ⟨a.toNat, by omega, by omega, by omega⟩
theorem base_V {k : Nat} (h : k < 2305843009213688669) : expV 4 ((k : Nat) : Int) = ((pp 4 k : Nat) : Int) := by
  rw [expV, show el 4 = true from El.four.el, sc_of h, Int.toNat_natCast]; rfl
theorem base_E {k : Nat} (h : k < 2305843009213688669) : expE 4 ((k : Nat) : Int) = 0 := by rw [expE, show el 4 = true from El.four.el, sc_of h]; rfl
theorem mul_V {x y : Nat} (hx : El x) (hy : El y) : mulV (x : Int) (y : Int) = ((x * y % 4611686018427377339 : Nat) : Int) := by rw [mulV, hx.el, hy.el, Int.toNat_natCast, Int.toNat_natCast]; rfl
theorem mul_E {x y : Nat} (hx : El x) (hy : El y) : mulE (x : Int) (y : Int) = 0 := by rw [mulE, hx.el, hy.el]; rfl
theorem inv_V {x : Nat} (hx : El x) : expV (x : Int) 2305843009213688668 = ((pp x 2305843009213688668 : Nat) : Int) := by
  rw [expV, hx.el, show sc 2305843009213688668 = true from rfl, Int.toNat_natCast, show (2305843009213688668 : Int).toNat = 2305843009213688668 from rfl]; rfl
theorem inv_E {x : Nat} (hx : El x) : expE (x : Int) 2305843009213688668 = 0 := by rw [expE, hx.el, show sc 2305843009213688668 = true from rfl]; rfl
end Gf
namespace Go.Proofs.YtejdjnkilikehaaGreatDoor
open Go Eng Gf Sha Cod
abbrev lbLock : List UInt8 := [108, 111, 99, 107]
abbrev lbMask : List UInt8 := [109, 97, 115, 107]
theorem y_bfail {n : Nat} {D : List Deferred} {W : World} {Bo : List Nat} {F : List (Nat × Value)} {l : SH} {d : Option Tmp} {ty : TypeId} {ps : String} {af : Array Edge} {g : Option (Nat × Bool)} {parts : Array (Nat × Operand)} {vs : List (Nat × Value)} {cs : List Value}
    (hp : evP F parts.toList = some vs := by rfl) (hf : fillL (fun i => (#[(0, 1)] : Array (Nat × Nat))[i]?) [I 0] vs = some cs := by rfl) :
    Y Tryz.prog n D W Bo ⟨d, .build 172 parts, ty, ps, af, g⟩ F l (.agg cs.toArray) :=
  y_blds Tryz.underlying172 (fun w => by kernel_rfl) hp hf
theorem y_bdir {n : Nat} {D : List Deferred} {W : World} {Bo : List Nat} {F : List (Nat × Value)} {l : SH} {d : Option Tmp} {ty : TypeId} {ps : String} {af : Array Edge} {g : Option (Nat × Bool)} {parts : Array (Nat × Operand)} {vs : List (Nat × Value)} {cs : List Value}
    (hp : evP F parts.toList = some vs := by rfl) (hf : fillL (fun i => (#[(0, 1), (1, 1)] : Array (Nat × Nat))[i]?) [.nilFunc, .nilFunc] vs = some cs := by rfl) :
    Y Tryz.prog n D W Bo ⟨d, .build 134 parts, ty, ps, af, g⟩ F l (.agg cs.toArray) :=
  y_blds Tryz.underlying134 (fun w => by kernel_rfl) hp hf
theorem y_bcap {n : Nat} {D : List Deferred} {W : World} {Bo : List Nat} {F : List (Nat × Value)} {l : SH} {d : Option Tmp} {ty : TypeId} {ps : String} {af : Array Edge} {g : Option (Nat × Bool)} {parts : Array (Nat × Operand)} {vs : List (Nat × Value)} {cs : List Value}
    (hp : evP F parts.toList = some vs := by rfl) (hf : fillL (fun i => (#[(0, 1), (1, 1), (2, 32)] : Array (Nat × Nat))[i]?) (I 0 :: I 0 :: bs (List.replicate 32 0)) vs = some cs := by rfl) :
    Y Tryz.prog n D W Bo ⟨d, .build 32 parts, ty, ps, af, g⟩ F l (.agg cs.toArray) :=
  y_blds Tryz.underlying32 (fun w => by kernel_rfl) hp hf
theorem fillC {a b : Int} {p : List UInt8} (h : p.length = 32) : fillL (fun i => (#[(0, 1), (1, 1), (2, 32)] : Array (Nat × Nat))[i]?) (I 0 :: I 0 :: bs (List.replicate 32 0)) [(0, I a), (1, I b), (2, .agg (bs p).toArray)] = some (I a :: I b :: bs p) := by
  have e1 : fillL (fun i => (#[(0, 1), (1, 1), (2, 32)] : Array (Nat × Nat))[i]?) (I 0 :: I 0 :: bs (List.replicate 32 0)) [(0, I a), (1, I b), (2, .agg (bs p).toArray)] = fillL (fun i => (#[(0, 1), (1, 1), (2, 32)] : Array (Nat × Nat))[i]?) (I a :: I b :: bs (List.replicate 32 0)) [(2, .agg (bs p).toArray)] := rfl
  rw [e1]
  unfold fillL
  have e2 : (Value.cells (.agg (bs p).toArray)).toList = bs p := rfl
  simp only [e2, bs_length, h, show (#[(0, 1), (1, 1), (2, 32)] : Array (Nat × Nat))[2]? = some (2, 32) from rfl, List.length_cons, List.length_replicate]
  rw [show (Nat.beq 32 32 && Nat.ble (2 + 32) (32 + 1 + 1)) = true from rfl]
  simp only [cond_true]
  have e3 : List.drop (2 + 32) (I a :: I b :: bs (List.replicate 32 0)) = [] := List.drop_eq_nil_of_le (by simp [bs_length])
  rw [e3, List.append_nil]
  rfl
theorem one_cap {a b : Int} {p : List UInt8} : ∀ u ∈ (I a :: I b :: bs p).toArray.toList, u.oneCell' = true := by
  intro u hu
  have hu' : u ∈ I a :: I b :: bs p := hu
  rcases List.mem_cons.1 hu' with rfl | h
  · rfl
  · rcases List.mem_cons.1 h with rfl | h
    · rfl
    · exact bs_one h
theorem y_eqni {n : Nat} {D : List Deferred} {W : World} {Bo : List Nat} {F : List (Nat × Value)} {l : SH} {d : Option Tmp} {ty : TypeId} {ps : String} {af : Array Edge} {g : Option (Nat × Bool)} {x : Operand} {c : Value} {tb : TypeId}
    (hx : evO F x = some .nilIface := by rfl) (hy : evO F (.const c) = some .nilIface := by rfl) : Y Tryz.prog n D W Bo ⟨d, .binOp .eql 20 x (.const c) tb, ty, ps, af, g⟩ F l (.bool true) :=
  .mk (by simp) fun a w ha _ => by
    have e1 : eqGuard .eql 20 x (.const c) .nilIface .nilIface = pure () := by simp [eqGuard]
    have e2 : (binOp .eql 20 .nilIface .nilIface).run Tryz.prog w = .ok (.bool true) w := by kernel_rfl
    have h1 := ha.eval hx
    have h2 := ha.eval hy
    simp only [execOp, h1, h2, e1, Sem.run_bind, Sem.run_pure, e2, Result.andThen_ok]
theorem y_eqnf {n : Nat} {D : List Deferred} {W : World} {Bo : List Nat} {F : List (Nat × Value)} {l : SH} {d : Option Tmp} {ty : TypeId} {ps : String} {af : Array Edge} {g : Option (Nat × Bool)} {x y : Operand} {tb : TypeId} {T : TypeId} {v : Value}
    (hx : evO F x = some (.iface T v) := by rfl) (hy : evO F y = some .nilIface := by rfl) : Y Tryz.prog n D W Bo ⟨d, .binOp .eql 20 x y tb, ty, ps, af, g⟩ F l (.bool false) :=
  .mk (by simp) fun a w ha _ => by simp only [execOp, ha.eval hx, ha.eval hy]; kernel_rfl
theorem y_tafail {n : Nat} {D : List Deferred} {W : World} {Bo : List Nat} {F : List (Nat × Value)} {l : SH} {d : Option Tmp} {ty : TypeId} {ps : String} {af : Array Edge} {g : Option (Nat × Bool)} {x : Operand} {v : Value}
    (hx : evO F x = some (.iface 172 v) := by rfl) : Y Tryz.prog n D W Bo ⟨d, .typeAssert x 20 172 true, ty, ps, af, g⟩ F l (.tuple #[v, .bool true]) :=
  .mk (by simp) fun a w ha _ => by simp only [execOp, ha.eval hx]; kernel_rfl
theorem caught_nil (w : World) (b : Nat) : Pure Tryz.prog 94 [.nilIface, .pointer (some ⟨b, 0, none⟩)] w (.tuple #[]) := by
  refine enter Tryz.func94 Tryz.ntmps94 ?_
  refine c_seq <| c_reg <| s_y y_mv <| s_nil <| q_then <| c_block <| c_seq <| c_reg <| s_y y_eqni <| s_nil <| q_then <| c_t <| c_reg <| s_y y_as <| s_nil <| q_nb <| ?_
  exact ret0 Tryz.results94 (fun w' hw => ⟨rfl, hw⟩) _ (.inr rfl)
theorem caught_fail (w : World) (b : Nat) (z c : Int) (hp : (Res.blk b (.cells #[I z] 37 (0, 0))).holds w) :
    Gives Tryz.prog 94 [.iface 172 (.agg #[I c]), .pointer (some ⟨b, 0, none⟩)] w (keys [.blk b (.cells #[I z] 37 (0, 0))]) (fun _ : Unit => .tuple #[]) (fun _ => [.blk b (.cells #[I c] 37 (0, 0))]) (fun _ => True) := by
  refine enterR Tryz.func94 Tryz.ntmps94 hp ?_
  refine c_seq <| c_reg <| s_y y_mv <| s_nil <| q_then <| c_block <| c_seq <| c_reg <| s_y y_eqnf <| s_nil <| q_then <| c_f <| c_seq <| c_reg <| s_y y_tafail <| s_y y_ext <| s_y y_ext <| s_nil <| q_then <| c_t <| c_seq <| c_reg <| s_alloc fun b5 => s_sta (b := b5) (vs := #[I c]) (cs := #[I 0]) (h1 := by intro u hu; simp at hu; subst hu; rfl) (hl := rfl) (hs1 := rfl) ?_
  refine s_nil <| q_then <| c_reg <| s_y y_mv <| s_y y_fa <| s_y (y_ld (b := b5) (v := I c)) <| s_y y_nc <| s_st (b := b) (v := I c) (cs := #[I z]) (hl := Nat.zero_lt_one) ?_
  refine s_nil <| q_nb <| ?_
  exact ret0 Tryz.results94 (fun w' hw => ⟨(), trivial, rfl, hw.sub (.cons _ (.refl _))⟩) _ (.inr rfl)
theorem isPrivate_yes (w : World) (x : Nat) (h0 : 0 < x) (h : x < 2305843009213688669) : Pure Tryz.prog 96 [I x] w (.bool true) := by
  refine enter Tryz.func96 Tryz.ntmps96 ?_
  refine c_seq <| c_reg <| s_y y_as <| s_nil <| q_then <| c_seq <| c_reg <| s_y y_mv <| s_kt (y_geq (p := (x : Int)) (q := 1)) (by omega) <| s_y y_mv <| s_y y_mv <| s_kt (y_lss (p := (x : Int)) (q := 2305843009213688669)) (by omega) <| s_y y_pk <| s_y y_as <| s_nil <| q_then <| c_ret <| ?_
  exact ret1 Tryz.results96 rv_t fun w' hw => ⟨rfl, hw.sub (List.nil_sublist _)⟩
theorem isPrivate_lo (w : World) (a : Int) (h : a < 1) : Pure Tryz.prog 96 [I a] w (.bool false) := by
  refine enter Tryz.func96 Tryz.ntmps96 ?_
  refine c_seq <| c_reg <| s_y y_as <| s_nil <| q_then <| c_seq <| c_reg <| s_y y_mv <| s_kf (y_geq (p := a) (q := 1)) (by omega) <| s_y y_mv <| s_no <| s_no <| s_y y_pk <| s_y y_as <| s_nil <| q_then <| c_ret <| ?_
  exact ret1 Tryz.results96 rv_t fun w' hw => ⟨rfl, hw.sub (List.nil_sublist _)⟩
theorem isPrivate_hi (w : World) (a : Int) (h : 2305843009213688669 ≤ a) : Pure Tryz.prog 96 [I a] w (.bool false) := by
  refine enter Tryz.func96 Tryz.ntmps96 ?_
  refine c_seq <| c_reg <| s_y y_as <| s_nil <| q_then <| c_seq <| c_reg <| s_y y_mv <| s_kt (y_geq (p := a) (q := 1)) (by omega) <| s_y y_mv <| s_y y_mv <| s_kf (y_lss (p := a) (q := 2305843009213688669)) (by omega) <| s_y y_pk <| s_y y_as <| s_nil <| q_then <| c_ret <| ?_
  exact ret1 Tryz.results96 rv_t fun w' hw => ⟨rfl, hw.sub (List.nil_sublist _)⟩
theorem isPrivate_ok (w : World) (a : Int) : Pure Tryz.prog 96 [I a] w (.bool (prv a)) := by
  by_cases h1 : a < 1
  · rw [prv_lo h1]; exact isPrivate_lo w a h1
  by_cases h2 : 2305843009213688669 ≤ a
  · rw [prv_hi h2]; exact isPrivate_hi w a h2
  obtain ⟨x, rfl⟩ : ∃ x : Nat, a = (x : Int) := ⟨a.toNat, by omega⟩
  rw [prv_of (by omega) (by omega)]
  exact isPrivate_yes w x (by omega) (by omega)
theorem demand_ok (w : World) (c : Int) : Pure Tryz.prog 95 [.bool true, I c] w (.tuple #[]) := by
  refine enter Tryz.func95 Tryz.ntmps95 ?_
  refine c_seq <| c_reg <| s_y y_mv <| s_y (v := .bool false) (y_not (b := true)) <| s_nil <| q_then <| c_f <| c_skip <| ?_
  exact ret0 Tryz.results95 (fun w' hw => ⟨rfl, hw⟩) _ (.inr rfl)
theorem demand_dies (w : World) (c : Int) : Dies Tryz.prog 95 [.bool false, I c] w (.iface 172 (.agg #[I c])) := by
  refine enter Tryz.func95 Tryz.ntmps95 ?_
  refine c_seq <| c_reg <| s_y y_mv <| s_y (v := .bool true) (y_not (b := false)) <| s_nil <| q_then <| c_t <| c_reg <| s_y y_mv <| s_y (y_bfail (cs := [I c])) <| s_y y_mki <| s_panic <| ?_
  exact Eng.die fun w' hw => ⟨rfl, hw⟩
theorem must_ok (w : World) (n : Int) : Pure Tryz.prog 97 [I n, I 0] w (I n) := by
  refine enter Tryz.func97 Tryz.ntmps97 ?_
  refine c_seq <| c_reg <| s_y y_as <| s_nil <| q_then <| c_seq <| c_seq <| c_reg <| s_y y_mv <| s_nf (y_neq (p := 0) (q := 0)) (by omega) <| s_nil <| q_then <| c_f <| c_skip <| q_then <| c_seq <| c_reg <| s_y y_mv <| s_y y_as <| s_nil <| q_then <| c_ret <| ?_
  exact ret1 Tryz.results97 rv_t fun w' hw => ⟨rfl, hw.sub (List.nil_sublist _)⟩
theorem rcLock_R (w : World) (b : Nat) : GivesD Tryz.prog 166 [.pointer (some ⟨b, 0, none⟩)] .returning w [] .returning [] :=
  recov (kc := 94) Tryz.func166 rfl Tryz.ntmps166 Tryz.results166 (.inl ⟨rfl, rfl, rfl⟩) ((caught_nil w b).mono fun _ _ h => ⟨(), trivial, h.1, h.2⟩)
theorem rcOpen_R (w : World) (b : Nat) : GivesD Tryz.prog 131 [.pointer (some ⟨b, 0, none⟩)] .returning w [] .returning [] :=
  recov (kc := 94) Tryz.func131 rfl Tryz.ntmps131 Tryz.results131 (.inl ⟨rfl, rfl, rfl⟩) ((caught_nil w b).mono fun _ _ h => ⟨(), trivial, h.1, h.2⟩)
theorem rcOpen_P (w : World) (b : Nat) (z c : Int) (hp : (Res.blk b (.cells #[I z] 37 (0, 0))).holds w) : GivesD Tryz.prog 131 [.pointer (some ⟨b, 0, none⟩)] (.panicking [{ v := .iface 172 (.agg #[I c]), recovered := false }]) w (keys [.blk b (.cells #[I z] 37 (0, 0))]) (.panicking [{ v := .iface 172 (.agg #[I c]), recovered := true }]) [.blk b (.cells #[I c] 37 (0, 0))] :=
  recov (kc := 94) Tryz.func131 rfl Tryz.ntmps131 Tryz.results131 (.inr ⟨_, rfl, rfl, rfl⟩) (caught_fail w b z c hp)
theorem capCheck_yes (w : World) (x y : Nat) (p : List UInt8) (hx : El x) (hy : El y) (hp : p.length = 32) : Pure Tryz.prog 101 [.agg (I x :: I y :: bs p).toArray] w (I 0) := by
  refine enter Tryz.func101 Tryz.ntmps101 ?_
  refine c_seq <| c_reg <| s_box rfl fun b1 => s_y y_as <| s_nil <| q_then <| c_seq <| c_seq <| c_reg <| s_y y_fa <| s_y (y_ld (b := b1) (v := I (x : Int))) <| s_pure (fun w' hw => gCheck_yes w' x hx) <| s_nf (y_neq (p := 0) (q := 0)) (by omega) <| s_y y_mv <| s_y y_fa <| s_y (y_ld (b := b1) (v := I (y : Int))) <| s_pure (fun w' hw => gCheck_yes w' y hy) <| s_nf (y_neq (p := 0) (q := 0)) (by omega) <| s_y y_pk <| s_nil <| q_then <| c_f <| c_skip <| q_then <| c_seq <| c_reg <| s_y y_as <| s_nil <| q_then <| c_ret <| ?_
  exact ret1 Tryz.results101 rv_t fun w' hw => ⟨rfl, hw.sub (List.nil_sublist _)⟩
theorem capCheck_no1 (w : World) (a b : Int) (p : List UInt8) (ha : el a = false) (hp : p.length = 32) : Pure Tryz.prog 101 [.agg (I a :: I b :: bs p).toArray] w (I 110) := by
  refine enter Tryz.func101 Tryz.ntmps101 ?_
  refine c_seq <| c_reg <| s_box rfl fun b1 => s_y y_as <| s_nil <| q_then <| c_seq <| c_seq <| c_reg <| s_y y_fa <| s_y (y_ld (b := b1) (v := I a)) <| s_pure (fun w' hw => gCheck_no w' a ha) <| s_nt (y_neq (p := 40) (q := 0)) (by omega) <| s_y y_mv <| s_no <| s_no <| s_no <| s_no <| s_y y_pk <| s_nil <| q_then <| c_t <| c_seq <| c_reg <| s_y y_as <| s_nil <| q_then <| c_ret <| q_ret <| ?_
  exact ret1 Tryz.results101 rv_t fun w' hw => ⟨rfl, hw.sub (List.nil_sublist _)⟩
theorem capCheck_no2 (w : World) (x : Nat) (b : Int) (p : List UInt8) (hx : El x) (hb : el b = false) (hp : p.length = 32) : Pure Tryz.prog 101 [.agg (I x :: I b :: bs p).toArray] w (I 110) := by
  refine enter Tryz.func101 Tryz.ntmps101 ?_
  refine c_seq <| c_reg <| s_box rfl fun b1 => s_y y_as <| s_nil <| q_then <| c_seq <| c_seq <| c_reg <| s_y y_fa <| s_y (y_ld (b := b1) (v := I (x : Int))) <| s_pure (fun w' hw => gCheck_yes w' x hx) <| s_nf (y_neq (p := 0) (q := 0)) (by omega) <| s_y y_mv <| s_y y_fa <| s_y (y_ld (b := b1) (v := I b)) <| s_pure (fun w' hw => gCheck_no w' b hb) <| s_nt (y_neq (p := 40) (q := 0)) (by omega) <| s_y y_pk <| s_nil <| q_then <| c_t <| c_seq <| c_reg <| s_y y_as <| s_nil <| q_then <| c_ret <| q_ret <| ?_
  exact ret1 Tryz.results101 rv_t fun w' hw => ⟨rfl, hw.sub (List.nil_sublist _)⟩
theorem capCheck_no (w : World) (a b : Int) (p : List UInt8) (hp : p.length = 32) (h : (el a && el b) = false) : Pure Tryz.prog 101 [.agg (I a :: I b :: bs p).toArray] w (I 110) := by
  cases ha : el a with
  | false => exact capCheck_no1 w a b p ha hp
  | true =>
    rw [ha, Bool.true_and] at h
    obtain ⟨x, rfl, h0, h1, h2⟩ := el_nat ha
    exact capCheck_no2 w x b p ⟨h0, h1, h2⟩ h hp
theorem Open2_ok (w : World) (b3 b2 x u : Nat) (B : Int) (p : List UInt8) (hu : El u) (hx0 : 0 < x) (hx : x < 2305843009213688669) (hc : Rd w (some ⟨b3, 0, none⟩) (I u :: I B :: bs p)) (h2 : Rd w (some ⟨b2, 0, none⟩) [I x]) : Pure Tryz.prog 132 [.pointer (some ⟨b3, 0, none⟩), .pointer (some ⟨b2, 0, none⟩)] w (I (pp u (qq x 2305843009213688667) : Nat)) := by
  refine enter Tryz.func132 Tryz.ntmps132 ?_
  refine c_seq <| c_reg <| s_y y_as <| s_nil <| q_then <| c_seq <| c_regd <| d_y y_fa <| d_y (y_ldr (a := some ⟨b3, 0, none⟩) (i := 0) (xs := (I (u : Int) :: I B :: bs p)) (v := I (u : Int)) rfl (hr := rdW0 hc)) <| d_y (y_ldr (a := some ⟨b2, 0, none⟩) (i := 0) (xs := [I (x : Int)]) (v := I (x : Int)) rfl (hr := rdW0 h2)) <| d_pure (fun w' hw => f_Inv_yes w' x hx0 hx) <| d_y y_ext <| d_y y_ext <| d_pure (fun w' hw => must_ok w' ((qq x 2305843009213688667 : Nat) : Int)) <| d_pure (fun w' hw => gExp_yes w' u (qq x 2305843009213688667) hu (qq_lt _ _)) <| d_y y_ext <| d_y y_ext <| d_pure (fun w' hw => must_ok w' ((pp u (qq x 2305843009213688667) : Nat) : Int)) <| d_y y_as <| d_nil <| q_then <| c_ret <| ?_
  exact ret1 Tryz.results132 rv_t fun w' hw => ⟨rfl, hw.sub (List.nil_sublist _)⟩
theorem Open3_ok (w : World) (b3 z v : Nat) (A : Int) (p : List UInt8) (hz : El z) (hv : El v) (hc : Rd w (some ⟨b3, 0, none⟩) (I A :: I v :: bs p)) : Pure Tryz.prog 133 [I z, .pointer (some ⟨b3, 0, none⟩)] w (I (v * pp z 2305843009213688668 % 4611686018427377339 : Nat)) := by
  refine enter Tryz.func133 Tryz.ntmps133 ?_
  refine c_seq <| c_reg <| s_y y_as <| s_nil <| q_then <| c_seq <| c_regd <| d_y y_fa <| d_y (y_ldr (a := some ⟨b3, 0, none⟩) (i := 1) (xs := (I A :: I (v : Int) :: bs p)) (v := I (v : Int)) rfl (hr := rdW0 hc)) <| d_y y_mv <| d_pure (fun w' hw => (by have h9 := gInv_ok w' (z : Int); rw [inv_V hz, inv_E hz] at h9; exact h9)) <| d_y y_ext <| d_y y_ext <| d_pure (fun w' hw => must_ok w' ((pp z 2305843009213688668 : Nat) : Int)) <| d_pure (fun w' hw => (by have h9 := gMul_ok w' (v : Int) ((pp z 2305843009213688668 : Nat) : Int); rw [mul_V hv ((hz).pow _), mul_E hv ((hz).pow _)] at h9; exact h9)) <| d_y y_ext <| d_y y_ext <| d_pure (fun w' hw => must_ok w' ((v * (pp z 2305843009213688668) % 4611686018427377339 : Nat) : Int)) <| d_y y_as <| d_nil <| q_then <| c_ret <| ?_
  exact ret1 Tryz.results133 rv_t fun w' hw => ⟨rfl, hw.sub (List.nil_sublist _)⟩
theorem Open_no1 (w : World) (a : Int) (b c : Int) (p : List UInt8) (hp : p.length = 32) (hn : prv a = false) : Pure Tryz.prog 61 [I a, .agg (I b :: I c :: bs p).toArray] w (.tuple #[.agg (bs (List.replicate 32 0)).toArray, I 50]) := by
  refine enterD Tryz.func61 Tryz.ntmps61 ?_
  refine c_seq <| c_reg <| s_box rfl fun b2 => s_box rfl fun b3 => s_alloc fun b4 => s_alloc fun b5 => s_nil <| q_then <| c_seq <| c_reg <| s_y y_func <| s_deferC <| s_nil <| q_then <| c_seq <| c_reg <| s_y (y_ld (b := b2) (v := I a)) <| s_pure (fun w' hw => (by have h9 := isPrivate_ok w' a; rw [hn] at h9; exact h9)) <| s_dies (fun w' hw => demand_dies w' 50) <| q_pt <| ?_
  exact leave_P (fun w' hw => rcOpen_P w' b5 0 50 (hw.own _ (.head _)).1) Tryz.results61 (.refl _) (.cons (rv_ca (b := b4) (cs := (bs (List.replicate 32 0)).toArray) (hl := (hz32 List.length_replicate))) (.cons (rv_cf (b := b5) (v := I 50)) .nil)) fun w' hw => ⟨rfl, hw.sub (List.nil_sublist _)⟩
theorem Open_no2 (w : World) (x : Nat) (b c : Int) (p : List UInt8) (hp : p.length = 32) (hx0 : 0 < x) (hx : x < 2305843009213688669) (hc : (el b && el c) = false) : Pure Tryz.prog 61 [I x, .agg (I b :: I c :: bs p).toArray] w (.tuple #[.agg (bs (List.replicate 32 0)).toArray, I 110]) := by
  refine enterD Tryz.func61 Tryz.ntmps61 ?_
  refine c_seq <| c_reg <| s_box rfl fun b2 => s_box rfl fun b3 => s_alloc fun b4 => s_alloc fun b5 => s_nil <| q_then <| c_seq <| c_reg <| s_y y_func <| s_deferC <| s_nil <| q_then <| c_seq <| c_reg <| s_y (y_ld (b := b2) (v := I (x : Int))) <| s_pure (fun w' hw => isPrivate_yes w' x hx0 hx) <| s_pure (fun w' hw => demand_ok w' 50) <| s_nil <| q_then <| c_seq <| c_reg <| s_y (y_lda (b := b3) (cs := (I b :: I c :: bs p).toArray) (hl := (by simp [bs_length, hp]))) <| s_pure (fun w' hw => capCheck_no w' b c p hp hc) <| s_kf (y_eql (p := 110) (q := 0)) (by omega) <| s_dies (fun w' hw => demand_dies w' 110) <| q_pt <| ?_
  exact leave_P (fun w' hw => rcOpen_P w' b5 0 110 (hw.own _ (.head _)).1) Tryz.results61 (.refl _) (.cons (rv_ca (b := b4) (cs := (bs (List.replicate 32 0)).toArray) (hl := (hz32 List.length_replicate))) (.cons (rv_cf (b := b5) (v := I 110)) .nil)) fun w' hw => ⟨rfl, hw.sub (List.nil_sublist _)⟩
theorem Open_yes (w : World) (x : Nat) (u v : Nat) (p : List UInt8) (hu : El u) (hv : El v) (hp : p.length = 32) (hx0 : 0 < x) (hx : x < 2305843009213688669) (hg : LS w) : Pure Tryz.prog 61 [I x, .agg (I u :: I v :: bs p).toArray] w (.tuple #[.agg (bs (xr p (msk (v * pp (pp u (qq x 2305843009213688667)) 2305843009213688668 % 4611686018427377339 : Nat)))).toArray, I 0]) := by
  refine enterD Tryz.func61 Tryz.ntmps61 ?_
  refine c_seq <| c_reg <| s_box rfl fun b2 => s_box rfl fun b3 => s_alloc fun b4 => s_alloc fun b5 => s_nil <| q_then <| c_seq <| c_reg <| s_y y_func <| s_deferC <| s_nil <| q_then <| c_seq <| c_reg <| s_y (y_ld (b := b2) (v := I (x : Int))) <| s_pure (fun w' hw => isPrivate_yes w' x hx0 hx) <| s_pure (fun w' hw => demand_ok w' 50) <| s_nil <| q_then <| c_seq <| c_reg <| s_y (y_lda (b := b3) (cs := (I (u : Int) :: I (v : Int) :: bs p).toArray) (hl := (by simp [bs_length, hp]))) <| s_pure (fun w' hw => capCheck_yes w' u v p hu hv hp) <| s_kt (y_eql (p := 0) (q := 0)) (by omega) <| s_pure (fun w' hw => demand_ok w' 110) <| s_nil <| q_then <| c_seq <| c_reg <| s_y y_func <| s_y y_func <| s_y (y_bdir (cs := [.func (.func 132) #[] #[.pointer (some ⟨b3, 0, none⟩), .pointer (some ⟨b2, 0, none⟩)], .func (.func 133) #[] #[.pointer (some ⟨b3, 0, none⟩)]])) <| s_alloc fun b6 => s_sta (b := b6) (vs := #[.func (.func 132) #[] #[.pointer (some ⟨b3, 0, none⟩), .pointer (some ⟨b2, 0, none⟩)], .func (.func 133) #[] #[.pointer (some ⟨b3, 0, none⟩)]]) (cs := #[.nilFunc, .nilFunc]) (h1 := by intro u hu; simp at hu; rcases hu with rfl | rfl <;> rfl) (hl := rfl) (hs1 := rfl) ?_
  refine s_nil <| q_then <| c_seq <| c_regL [.blk b6 (.cells #[.func (.func 132) #[] #[.pointer (some ⟨b3, 0, none⟩), .pointer (some ⟨b2, 0, none⟩)], .func (.func 133) #[] #[.pointer (some ⟨b3, 0, none⟩)]] 134 (0, 0)), .blk b3 (.cells (I (u : Int) :: I (v : Int) :: bs p).toArray 32 (0, 0)), .blk b2 (.cells #[I (x : Int)] 3 (0, 0))] <| r_y 0 rfl y_fa <| r_y 1 rfl (y_ldin (b := b3) (off := 2) (cs := (I (u : Int) :: I (v : Int) :: bs p).toArray) (ys := bs p) (hl := (by rw [bs_length, hp])) (hv := fun j v h => by rw [List.getElem?_toArray, Nat.add_comm]; exact h)) <| r_y 2 rfl y_fa <| r_y 3 rfl (y_ld (b := b6) (v := .func (.func 133) #[] #[.pointer (some ⟨b3, 0, none⟩)])) <| r_y 4 rfl y_fa <| r_y 5 rfl (y_ld (b := b6) (v := .func (.func 132) #[] #[.pointer (some ⟨b3, 0, none⟩), .pointer (some ⟨b2, 0, none⟩)])) <| r_W 6 rfl <| s_pure (fun w' hw => Open2_ok w' b3 b2 x u (v : Int) p hu hx0 hx (rd_blk (b := b3) (cs := (I (u : Int) :: I (v : Int) :: bs p).toArray) (.tail _ (.tail _ (.tail _ (.head _)))) w' hw) (rd_blk (b := b2) (cs := #[I (x : Int)]) (.tail _ (.tail _ (.tail _ (.tail _ (.head _))))) w' hw)) <| r_K <| r_W 7 rfl <| s_pure (fun w' hw => Open3_ok w' b3 (pp u (qq x 2305843009213688667)) v (u : Int) p ((hu).pow _) hv (rd_blk (b := b3) (cs := (I (u : Int) :: I (v : Int) :: bs p).toArray) (.tail _ (.tail _ (.tail _ (.head _)))) w' hw)) <| r_K <| r_W 8 rfl <| s_pure (fun w' hw => combine_ok w' p ((v * pp (pp u (qq x 2305843009213688667)) 2305843009213688668 % 4611686018427377339 : Nat) : Int) (hg.st hw) hp (((hv).mul (((hu).pow _).pow _)).r64)) <| r_K <| r_W 9 rfl <| s_sta (b := b4) (vs := (bs (xr p (msk ((v * pp (pp u (qq x 2305843009213688667)) 2305843009213688668 % 4611686018427377339 : Nat) : Int)))).toArray) (cs := (bs (List.replicate 32 0)).toArray) (h1 := fun v hv => bs_one (by simpa using hv)) (hl := by rw [(hz32 (cmb_length hp _)), (hz32 List.length_replicate)]) (hs1 := (hz32 (cmb_length hp _))) ?_
  refine r_K <| r_W 10 rfl <| s_st (b := b5) (v := I 0) (cs := #[I 0]) (hl := by decide) ?_
  refine r_K <| r_E <| q_then <| c_ret <| ?_
  exact leave_R (cs := [.pointer (some ⟨b5, 0, none⟩)]) (fun w' hw => rcOpen_R w' b5) Tryz.results61 (.cons (rv_ca (hl := (hz32 (cmb_length hp _)))) (.cons (rv_cf (v := I 0)) .nil)) fun w' hw => ⟨rfl, hw.sub (List.nil_sublist _)⟩
theorem Lock2_ok (w : World) (b3 b8 y r : Nat) (hy : El y) (hr : r < 2305843009213688669) (h3 : Rd w (some ⟨b3, 0, none⟩) [I y]) (h8 : Rd w (some ⟨b8, 0, none⟩) [I r]) : Pure Tryz.prog 167 [.pointer (some ⟨b3, 0, none⟩), .pointer (some ⟨b8, 0, none⟩)] w (I (pp y r : Nat)) := by
  refine enter Tryz.func167 Tryz.ntmps167 ?_
  refine c_seq <| c_reg <| s_y y_as <| s_nil <| q_then <| c_seq <| c_reg <| s_y (y_ldr (a := some ⟨b3, 0, none⟩) (i := 0) (xs := [I (y : Int)]) (v := I (y : Int)) rfl (hr := rdW0 h3)) <| s_y (y_ldr (a := some ⟨b8, 0, none⟩) (i := 0) (xs := [I (r : Int)]) (v := I (r : Int)) rfl (hr := rdW0 h8)) <| s_pure (fun w' hw => gExp_yes w' y r hy hr) <| s_y y_ext <| s_y y_ext <| s_pure (fun w' hw => must_ok w' ((pp y r : Nat) : Int)) <| s_y y_as <| s_nil <| q_then <| c_ret <| ?_
  exact ret1 Tryz.results167 rv_t fun w' hw => ⟨rfl, hw.sub (List.nil_sublist _)⟩
theorem Lock3_ok (w : World) (b5 z : Nat) (s : List UInt8) (hz : El z) (hs : s.length = 32) (h5 : Rd w (some ⟨b5, 0, none⟩) (bs s)) (hg : LS w) : Pure Tryz.prog 168 [I z, .pointer (some ⟨b5, 0, none⟩)] w (I (pp 4 (dscal s lbMask) * z % 4611686018427377339 : Nat)) := by
  refine enter Tryz.func168 Tryz.ntmps168 ?_
  refine c_seq <| c_reg <| s_y y_as <| s_nil <| q_then <| c_seq <| c_reg <| s_y (y_ldra (a := some ⟨b5, 0, none⟩) (i := 0) (xs := bs s) (cs := bs s) (rdW0 h5) (by rw [bs_length, hs]) (fun j v h => by rw [Nat.add_comm]; exact h)) <| s_pure (fun w' hw => derive_Scalar_ok w' s lbMask (hg.st hw) hs (by decide)) <| s_pure (fun w' hw => (by have h9 := gBase_ok w' ((dscal s lbMask : Nat) : Int); rw [base_V (k := dscal s lbMask) ((scal_lt _ _).2), base_E (k := dscal s lbMask) ((scal_lt _ _).2)] at h9; exact h9)) <| s_y y_ext <| s_y y_ext <| s_pure (fun w' hw => must_ok w' ((pp 4 (dscal s lbMask) : Nat) : Int)) <| s_y y_mv <| s_pure (fun w' hw => (by have h9 := gMul_ok w' ((pp 4 (dscal s lbMask) : Nat) : Int) (z : Int); rw [mul_V (El.four.pow _) hz, mul_E (El.four.pow _) hz] at h9; exact h9)) <| s_y y_ext <| s_y y_ext <| s_pure (fun w' hw => must_ok w' (((pp 4 (dscal s lbMask)) * z % 4611686018427377339 : Nat) : Int)) <| s_y y_as <| s_nil <| q_then <| c_ret <| ?_
  exact ret1 Tryz.results168 rv_t fun w' hw => ⟨rfl, hw.sub (List.nil_sublist _)⟩
theorem Lock_no (w : World) (a : Int) (k s : List UInt8) (hk : k.length = 32) (hs : s.length = 32) (ha : el a = false) : Pure Tryz.prog 104 [I a, .agg (bs k).toArray, .agg (bs s).toArray] w (.tuple #[.agg (I 0 :: I 0 :: bs (List.replicate 32 0)).toArray, I 40]) := by
  refine enterD Tryz.func104 Tryz.ntmps104 ?_
  refine c_seq <| c_reg <| s_box rfl fun b3 => s_box rfl fun b4 => s_box rfl fun b5 => s_alloc fun b6 => s_alloc fun b7 => s_nil <| q_then <| c_seq <| c_seq <| c_reg <| s_y (y_ld (b := b3) (v := I a)) <| s_pure (fun w' hw => gCheck_no w' a ha) <| s_st (b := b7) (v := I 40) (cs := #[I 0]) (hl := by decide) ?_
  refine s_nil <| q_then <| c_seq <| c_reg <| s_y (y_ld (b := b7) (v := I 40)) <| s_nt (y_neq (p := 40) (q := 0)) (by omega) <| s_nil <| q_then <| c_t <| c_seq <| c_regL [.blk b7 (.cells #[I 40] 37 (0, 0)), .blk b6 (.cells (I 0 :: I 0 :: bs (List.replicate 32 0)).toArray 32 (0, 0)), .blk b5 (.cells (bs s).toArray 24 (0, 0)), .blk b4 (.cells (bs k).toArray 24 (0, 0)), .blk b3 (.cells #[I a] 3 (0, 0))] <| r_y 0 rfl (y_lda (b := b6) (cs := (I 0 :: I 0 :: bs (List.replicate 32 0)).toArray) (hl := (by simp [bs_length, List.length_replicate]))) <| r_y 1 rfl (y_ld (b := b7) (v := I 40)) <| r_W 2 rfl <| s_sta (b := b6) (vs := (I 0 :: I 0 :: bs (List.replicate 32 0)).toArray) (cs := (I 0 :: I 0 :: bs (List.replicate 32 0)).toArray) (h1 := one_cap) (hl := by simp [bs_length, List.length_replicate]) (hs1 := (by simp [bs_length, List.length_replicate])) ?_
  refine r_K <| r_W 3 rfl <| s_st (b := b7) (v := I 40) (cs := #[I 40]) (hl := by decide) ?_
  refine r_K <| r_E <| q_then <| c_ret <| q_ret <| ?_
  exact ret_0D Tryz.results104 (.cons (rv_ca (hl := (by simp [bs_length, List.length_replicate]))) (.cons (rv_cf (v := I 40)) .nil)) fun w' hw => ⟨rfl, hw.sub (List.nil_sublist _)⟩
theorem Lock_yes (w : World) (y : Nat) (k s : List UInt8) (hk : k.length = 32) (hs : s.length = 32) (hy : El y) (hg : LS w) : Pure Tryz.prog 104 [I y, .agg (bs k).toArray, .agg (bs s).toArray] w (.tuple #[.agg (I (pp y (dscal s lbLock) : Nat) :: I (pp 4 (dscal s lbMask) * pp 4 (dscal s lbLock) % 4611686018427377339 : Nat) :: bs (xr k (msk (pp 4 (dscal s lbMask) * 1 % 4611686018427377339 : Nat)))).toArray, I 0]) := by
  refine enterD Tryz.func104 Tryz.ntmps104 ?_
  refine c_seq <| c_reg <| s_box rfl fun b3 => s_box rfl fun b4 => s_box rfl fun b5 => s_alloc fun b6 => s_alloc fun b7 => s_nil <| q_then <| c_seq <| c_seq <| c_reg <| s_y (y_ld (b := b3) (v := I (y : Int))) <| s_pure (fun w' hw => gCheck_yes w' y hy) <| s_st (b := b7) (v := I 0) (cs := #[I 0]) (hl := by decide) ?_
  refine s_nil <| q_then <| c_seq <| c_reg <| s_y (y_ld (b := b7) (v := I 0)) <| s_nf (y_neq (p := 0) (q := 0)) (by omega) <| s_nil <| q_then <| c_f <| c_skip <| q_then <| c_seq <| c_reg <| s_y y_func <| s_deferC <| s_nil <| q_then <| c_seq <| c_reg <| s_y (y_lda (b := b5) (cs := (bs s).toArray) (hl := (hz32 hs))) <| s_pure (fun w' hw => derive_Scalar_ok w' s lbLock (hg.st hw) hs (by decide)) <| s_alloc fun b8 => s_st (b := b8) (v := I ((dscal s lbLock : Nat) : Int)) (cs := #[I 0]) (hl := by decide) ?_
  refine s_nil <| q_then <| c_seq <| c_reg <| s_y y_func <| s_y y_func <| s_y (y_bdir (cs := [.func (.func 167) #[] #[.pointer (some ⟨b3, 0, none⟩), .pointer (some ⟨b8, 0, none⟩)], .func (.func 168) #[] #[.pointer (some ⟨b5, 0, none⟩)]])) <| s_alloc fun b9 => s_sta (b := b9) (vs := #[.func (.func 167) #[] #[.pointer (some ⟨b3, 0, none⟩), .pointer (some ⟨b8, 0, none⟩)], .func (.func 168) #[] #[.pointer (some ⟨b5, 0, none⟩)]]) (cs := #[.nilFunc, .nilFunc]) (h1 := by intro u hu; simp at hu; rcases hu with rfl | rfl <;> rfl) (hl := rfl) (hs1 := rfl) ?_
  refine s_nil <| q_then <| c_seq <| c_regd <| d_y y_fa <| d_y (y_ld (b := b9) (v := .func (.func 168) #[] #[.pointer (some ⟨b5, 0, none⟩)])) <| d_y (y_ld (b := b8) (v := I ((dscal s lbLock : Nat) : Int))) <| d_pure (fun w' hw => (by have h9 := gBase_ok w' ((dscal s lbLock : Nat) : Int); rw [base_V (k := dscal s lbLock) ((scal_lt _ _).2), base_E (k := dscal s lbLock) ((scal_lt _ _).2)] at h9; exact h9)) <| d_y y_ext <| d_y y_ext <| d_pure (fun w' hw => must_ok w' ((pp 4 (dscal s lbLock) : Nat) : Int)) <| d_pure (fun w' hw => Lock3_ok w' b5 (pp 4 (dscal s lbLock)) s (El.four.pow _) hs (rd_blk (b := b5) (cs := (bs s).toArray) (.tail _ (.tail _ (.tail _ (.tail _ (.head _))))) w' hw) (hg.st hw)) <| d_y y_as <| d_nil <| q_then <| c_seq <| c_regL [.blk b9 (.cells #[.func (.func 167) #[] #[.pointer (some ⟨b3, 0, none⟩), .pointer (some ⟨b8, 0, none⟩)], .func (.func 168) #[] #[.pointer (some ⟨b5, 0, none⟩)]] 134 (0, 0)), .blk b8 (.cells #[I ((dscal s lbLock : Nat) : Int)] 3 (0, 0)), .blk b5 (.cells (bs s).toArray 24 (0, 0)), .blk b4 (.cells (bs k).toArray 24 (0, 0)), .blk b3 (.cells #[I (y : Int)] 3 (0, 0))] <| r_y 0 rfl y_fa <| r_y 1 rfl (y_ld (b := b9) (v := .func (.func 167) #[] #[.pointer (some ⟨b3, 0, none⟩), .pointer (some ⟨b8, 0, none⟩)])) <| r_y 3 rfl y_mv <| r_y 4 rfl (y_lda (b := b4) (cs := (bs k).toArray) (hl := (hz32 hk))) <| r_y 5 rfl y_fa <| r_y 6 rfl (y_ld (b := b9) (v := .func (.func 168) #[] #[.pointer (some ⟨b5, 0, none⟩)])) <| r_W 2 rfl <| s_pure (fun w' hw => Lock2_ok w' b3 b8 y (dscal s lbLock) hy ((scal_lt _ _).2) (rd_blk (b := b3) (cs := #[I (y : Int)]) (.tail _ (.tail _ (.tail _ (.tail _ (.tail _ (.tail _ (.head _))))))) w' hw) (rd_blk (b := b8) (cs := #[I ((dscal s lbLock : Nat) : Int)]) (.tail _ (.head _)) w' hw)) <| r_K <| r_W 7 rfl <| s_pure (fun w' hw => Lock3_ok w' b5 1 s (El.mk' (by decide) (pp_one _)) hs (rd_blk (b := b5) (cs := (bs s).toArray) (.tail _ (.tail _ (.tail _ (.tail _ (.head _))))) w' hw) (hg.st hw)) <| r_K <| r_W 8 rfl <| s_pure (fun w' hw => combine_ok w' k ((pp 4 (dscal s lbMask) * 1 % 4611686018427377339 : Nat) : Int) (hg.st hw) hk (((El.four.pow _).mul (El.mk' (by decide) (pp_one _))).r64)) <| r_K <| r_y 9 rfl (y_bcap (cs := I ((pp y (dscal s lbLock) : Nat) : Int) :: I ((pp 4 (dscal s lbMask) * (pp 4 (dscal s lbLock)) % 4611686018427377339 : Nat) : Int) :: bs (xr k (msk ((pp 4 (dscal s lbMask) * 1 % 4611686018427377339 : Nat) : Int)))) (hf := fillC (cmb_length hk _))) <| r_W 10 rfl <| s_sta (b := b6) (vs := (I ((pp y (dscal s lbLock) : Nat) : Int) :: I ((pp 4 (dscal s lbMask) * (pp 4 (dscal s lbLock)) % 4611686018427377339 : Nat) : Int) :: bs (xr k (msk ((pp 4 (dscal s lbMask) * 1 % 4611686018427377339 : Nat) : Int)))).toArray) (cs := (I 0 :: I 0 :: bs (List.replicate 32 0)).toArray) (h1 := one_cap) (hl := by simp [bs_length, List.length_replicate, cmb_length hk _]) (hs1 := (by simp [bs_length, cmb_length hk _])) ?_
  refine r_K <| r_W 11 rfl <| s_st (b := b7) (v := I 0) (cs := #[I 0]) (hl := by decide) ?_
  refine r_K <| r_E <| q_then <| c_ret <| ?_
  exact leave_R (cs := [.pointer (some ⟨b7, 0, none⟩)]) (fun w' hw => rcLock_R w' b7) Tryz.results104 (.cons (rv_ca (hl := (by simp [bs_length, cmb_length hk _]))) (.cons (rv_cf (v := I 0)) .nil)) fun w' hw => ⟨rfl, hw.sub (List.nil_sublist _)⟩
end Go.Proofs.YtejdjnkilikehaaGreatDoor
end
section
namespace Gf
noncomputable def opM (x u v : Nat) : Nat := v * pp (pp u (qq x 2305843009213688667)) 2305843009213688668 % 4611686018427377339
noncomputable def fac (x y : Nat) : Nat := y * qq x 2305843009213688667 % 2305843009213688669
theorem mulQ (a b : Nat) : a % 2305843009213688669 * b % 2305843009213688669 = a * b % 2305843009213688669 := by rw [Nat.mul_mod, Nat.mod_mod, ← Nat.mul_mod]
theorem mulQ' (a b : Nat) : a * (b % 2305843009213688669) % 2305843009213688669 = a * b % 2305843009213688669 := by rw [Nat.mul_mod, Nat.mod_mod, ← Nat.mul_mod]
theorem inv_in {x : Nat} (h0 : 0 < x) (hx : x < 2305843009213688669) (r : Nat) : x * r * qq x 2305843009213688667 % 2305843009213688669 = r % 2305843009213688669 := by
  rw [show x * r * qq x 2305843009213688667 = x * qq x 2305843009213688667 * r by rw [Nat.mul_assoc, Nat.mul_comm r, ← Nat.mul_assoc], ← mulQ, qq_inv h0 hx, Nat.one_mul]
theorem opM_own {x m r : Nat} (h0 : 0 < x) (hx : x < 2305843009213688669) (hm : El m) : opM x (pp (pp 4 x) r) (m * pp 4 r % 4611686018427377339) = m := by
  unfold opM
  have e1 : pp (pp (pp 4 x) r) (qq x 2305843009213688667) = pp 4 r := by
    rw [pp_pp, pp_pp]
    exact El.four.pcongr (by rw [Qeq, ← Nat.mul_assoc]; exact inv_in h0 hx r)
  rw [e1, ← mulP_assoc, (El.four.pow r).inv, Nat.mul_one, Nat.mod_eq_of_lt hm.lt]
theorem turned {x y r : Nat} (h0 : 0 < x) (hx : x < 2305843009213688669) : pp (pp (pp 4 x) r) (fac x y) = pp (pp 4 y) r := by
  rw [pp_pp, pp_pp, pp_pp]
  refine El.four.pcongr ?_
  rw [Qeq]
  unfold fac
  rw [← Nat.mul_assoc x r, mulQ', show x * r * (y * qq x 2305843009213688667) = x * (r * y) * qq x 2305843009213688667 by ac_rfl, inv_in h0 hx, Nat.mul_comm]
end Gf
end
section
namespace Go.Proofs.YtejdjnkilikehaaGreatDoor
open Go Eng
theorem maskI (p : Int) (m : Nat) (h : m ≤ 62) : ((BitVec.ofInt 64 p &&& BitVec.ofInt 64 ((2 ^ m - 1 : Nat) : Int)).toNat : Int) = p % 2 ^ m := by
  have h1 : (2 ^ m : Nat) ≤ 2 ^ 62 := Nat.pow_le_pow_right (by decide) h
  rw [BitVec.toNat_and, show (BitVec.ofInt 64 ((2 ^ m - 1 : Nat) : Int)).toNat = 2 ^ m - 1 from bitsn (k := .i64) (by simp only [IntKind.bits]; omega), Nat.and_two_pow_sub_one_eq_mod, BitVec.toNat_ofInt]
  have h2 : (2 : Int) ^ m ∣ 2 ^ 64 := ⟨2 ^ (64 - m), by rw [← Int.pow_add]; congr 1; omega⟩
  have h3 : p % ((2 ^ 64 : Nat) : Int) % 2 ^ m = p % 2 ^ m := by rw [show ((2 ^ 64 : Nat) : Int) = (2 : Int) ^ 64 by norm_cast]; exact Int.emod_emod_of_dvd p h2
  rw [Int.natCast_emod, Int.toNat_of_nonneg (Int.emod_nonneg _ (by decide)), Int.natCast_pow]
  exact h3
theorem y_maski (m : Nat) {n : Nat} {D : List Deferred} {W : World} {Bo : List Nat} {F : List (Nat × Value)} {l : SH} {d : Option Tmp} {ty : TypeId} {ps : String} {af : Array Edge} {g : Option (Nat × Bool)} {x y : Operand} {ta tb : TypeId} {P : Program} {p : Int}
    (hx : evO F x = some (I p) := by rfl) (hy : evO F y = some (I ((2 ^ m - 1 : Nat) : Int)) := by rfl) (h : m ≤ 62 := by decide) : Y P n D W Bo ⟨d, .binOp .and ta x y tb, ty, ps, af, g⟩ F l (I (p % 2 ^ m)) :=
  .mk (by simp) fun a w ha _ => by
    have h1 : (2 : Int) ^ m ≤ 2 ^ 62 := by
      have : (2 ^ m : Nat) ≤ 2 ^ 62 := Nat.pow_le_pow_right (by decide) h
      exact_mod_cast this
    have h0 : (0 : Int) < 2 ^ m := by
      have : 0 < (2 ^ m : Nat) := Nat.two_pow_pos m
      exact_mod_cast this
    have h2 := Int.emod_nonneg p (show (2 : Int) ^ m ≠ 0 by omega)
    have h3 := Int.emod_lt_of_pos p h0
    refine exec_bin P w w _ _ _ _ _ _ _ _ _ _ _ _ ⟨by simp, by simp⟩ ?_
    rw [ha.eval hx, ha.eval hy]
    simp only [binOp, ne_eq, not_true_eq_false, if_false, Op.intBits, Sem.run_pure]
    rw [show IntKind.i64.bits = 64 from rfl, maskI p m h, wrap_i64 (by unfold R64; omega)]
end Go.Proofs.YtejdjnkilikehaaGreatDoor
end
section
namespace Go.Proofs.YtejdjnkilikehaaGreatDoor
open Go Eng Gf Sha Cod
set_option maxRecDepth 100000
noncomputable def opE (n a b : Int) : Int := bif prv n then (bif el a && el b then 0 else 110) else 50
noncomputable def opK (n a b : Int) (p : List UInt8) : List UInt8 := bif prv n && (el a && el b) then xr p (msk (opM n.toNat a.toNat b.toNat : Nat)) else List.replicate 32 0
theorem opK_length (n a b : Int) {p : List UInt8} (h : p.length = 32) : (opK n a b p).length = 32 := by
  unfold opK
  cases (prv n && (el a && el b)) with
  | true => exact cmb_length h _
  | false => exact List.length_replicate
noncomputable def lkE (y : Int) : Int := bif el y then 0 else 40
noncomputable def lkA (y : Int) (s : List UInt8) : Int := bif el y then ((pp y.toNat (dscal s lbLock) : Nat) : Int) else 0
noncomputable def lkB (y : Int) (s : List UInt8) : Int := bif el y then ((pp 4 (dscal s lbMask) * pp 4 (dscal s lbLock) % 4611686018427377339 : Nat) : Int) else 0
noncomputable def lkP (y : Int) (k s : List UInt8) : List UInt8 := bif el y then xr k (msk (pp 4 (dscal s lbMask) : Nat)) else List.replicate 32 0
theorem lkP_length (y : Int) {k : List UInt8} (s : List UInt8) (h : k.length = 32) : (lkP y k s).length = 32 := by
  unfold lkP
  cases el y with
  | true => exact cmb_length h _
  | false => exact List.length_replicate
noncomputable def ckE (a b : Int) : Int := bif el a && el b then 0 else 110
theorem Open_ok (w : World) (n a b : Int) (p : List UInt8) (hp : p.length = 32) (hg : LS w) : Pure Tryz.prog 61 [I n, .agg (I a :: I b :: bs p).toArray] w (.tuple #[.agg (bs (opK n a b p)).toArray, I (opE n a b)]) := by
  cases h : prv n with
  | false => rw [opK, opE, h]; exact Open_no1 w n a b p hp h
  | true =>
    obtain ⟨x, rfl, hx0, hx⟩ := prv_nat h
    cases h' : (el a && el b) with
    | false => rw [opK, opE, h, h']; exact Open_no2 w x a b p hp hx0 hx h'
    | true =>
      have h3 : el a = true ∧ el b = true := by simpa using h'
      obtain ⟨u, rfl, e1, e2, e3⟩ := el_nat h3.1
      obtain ⟨v, rfl, e4, e5, e6⟩ := el_nat h3.2
      rw [opK, opE, h, h', Int.toNat_natCast, Int.toNat_natCast, Int.toNat_natCast]
      exact Open_yes w x u v p ⟨e1, e2, e3⟩ ⟨e4, e5, e6⟩ hp hx0 hx hg
theorem Lock_ok (w : World) (y : Int) (k s : List UInt8) (hk : k.length = 32) (hs : s.length = 32) (hg : LS w) : Pure Tryz.prog 104 [I y, .agg (bs k).toArray, .agg (bs s).toArray] w (.tuple #[.agg (I (lkA y s) :: I (lkB y s) :: bs (lkP y k s)).toArray, I (lkE y)]) := by
  cases h : el y with
  | false => rw [lkA, lkB, lkP, lkE, h]; exact Lock_no w y k s hk hs h
  | true =>
    obtain ⟨z, rfl, e1, e2, e3⟩ := el_nat h
    have h9 := Lock_yes w z k s hk hs ⟨e1, e2, e3⟩ hg
    rw [show pp 4 (dscal s lbMask) * 1 % 4611686018427377339 = pp 4 (dscal s lbMask) by rw [Nat.mul_one, Nat.mod_eq_of_lt (pp_lt _ _)]] at h9; rw [lkA, lkB, lkP, lkE, h, Int.toNat_natCast]
    exact h9
theorem capCheck_ok (w : World) (a b : Int) (p : List UInt8) (hp : p.length = 32) : Pure Tryz.prog 101 [.agg (I a :: I b :: bs p).toArray] w (I (ckE a b)) := by
  cases h' : (el a && el b) with
  | false => rw [ckE, h']; exact capCheck_no w a b p hp h'
  | true =>
    have h3 : el a = true ∧ el b = true := by simpa using h'
    obtain ⟨u, rfl, e1, e2, e3⟩ := el_nat h3.1
    obtain ⟨v, rfl, e4, e5, e6⟩ := el_nat h3.2
    rw [ckE, h']
    exact capCheck_yes w u v p ⟨e1, e2, e3⟩ ⟨e4, e5, e6⟩ hp
end Go.Proofs.YtejdjnkilikehaaGreatDoor
end
section
namespace Cha
open Go Eng Sha
def wle (b : List UInt8) (i : Nat) : UInt32 := (b.getD i 0).toUInt32 ||| (b.getD (i + 1) 0).toUInt32 <<< 8 ||| (b.getD (i + 2) 0).toUInt32 <<< 16 ||| (b.getD (i + 3) 0).toUInt32 <<< 24
def ws4 (b : List UInt8) (n : Nat) : List UInt32 := (List.range n).map fun i => wle b (4 * i)
def cst : List UInt32 := [0x61707865, 0x3320646e, 0x79622d32, 0x6b206574]
def first (k n : List UInt8) (c : UInt32) : List UInt32 := cst ++ ws4 k 8 ++ [c] ++ ws4 n 3
theorem ws4_length (b : List UInt8) (n : Nat) : (ws4 b n).length = n := by simp [ws4]
theorem first_length (k n : List UInt8) (c : UInt32) : (first k n c).length = 16 := by simp [first, ws4_length, cst]
def rl (v : UInt32) (n : Nat) : UInt32 := rr v (32 - n)
def addAt (v : List UInt32) (a b : Nat) : List UInt32 := v.set a (v.getD a 0 + v.getD b 0)
def xrAt (v : List UInt32) (d a n : Nat) : List UInt32 := v.set d (rl (v.getD d 0 ^^^ v.getD a 0) n)
theorem addAt_length (v : List UInt32) (a b : Nat) : (addAt v a b).length = v.length := List.length_set
theorem xrAt_length (v : List UInt32) (d a n : Nat) : (xrAt v d a n).length = v.length := List.length_set
def mix (v : List UInt32) (a b c d : Nat) : List UInt32 := xrAt (addAt (xrAt (addAt (xrAt (addAt (xrAt (addAt v a b) d a 16) c d) b c 12) a b) d a 8) c d) b c 7
theorem mix_length (v : List UInt32) (a b c d : Nat) : (Cha.mix v a b c d).length = v.length := by simp only [Cha.mix, xrAt_length, addAt_length]
def colU (v : List UInt32) : Nat → List UInt32
  | 0 => v
  | i + 1 => Cha.mix (colU v i) i (4 + i) (8 + i) (12 + i)
def dgU (v : List UInt32) : Nat → List UInt32
  | 0 => v
  | i + 1 => Cha.mix (dgU v i) i (4 + (i + 1) % 4) (8 + (i + 2) % 4) (12 + (i + 3) % 4)
def rndU (v : List UInt32) : Nat → List UInt32
  | 0 => v
  | i + 1 => dgU (colU (rndU v i) 4) 4
theorem colU_length (v : List UInt32) : ∀ i, (colU v i).length = v.length
  | 0 => rfl
  | i + 1 => by rw [colU, mix_length, colU_length v i]
theorem dgU_length (v : List UInt32) : ∀ i, (dgU v i).length = v.length
  | 0 => rfl
  | i + 1 => by rw [dgU, mix_length, dgU_length v i]
theorem rndU_length (v : List UInt32) : ∀ i, (rndU v i).length = v.length
  | 0 => rfl
  | i + 1 => by rw [rndU, dgU_length, colU_length, rndU_length v i]
def le4 (x : UInt32) : List UInt8 := [x.toUInt8, (x >>> 8).toUInt8, (x >>> 16).toUInt8, (x >>> 24).toUInt8]
def outU (v s : List UInt32) (n : Nat) : List UInt8 := (List.range n).flatMap fun i => le4 (v.getD i 0 + s.getD i 0)
theorem outU_succ (v s : List UInt32) (n : Nat) : outU v s (n + 1) = outU v s n ++ le4 (v.getD n 0 + s.getD n 0) := by
  unfold outU; rw [List.range_succ, List.flatMap_append]; simp
theorem outU_length (v s : List UInt32) : ∀ n, (outU v s n).length = 4 * n
  | 0 => rfl
  | n + 1 => by rw [outU_succ, List.length_append, outU_length v s n]; rfl
def blk (k n : List UInt8) (c : UInt32) : List UInt8 := outU (rndU (first k n c) 10) (first k n c) 16
theorem blk_length (k n : List UInt8) (c : UInt32) : (blk k n c).length = 64 := outU_length _ _ 16
def ks (k n : List UInt8) (i : Nat) : UInt8 := (blk k n (UInt32.ofNat (1 + i / 64))).getD (i % 64) 0
def strm (k n b : List UInt8) : List UInt8 := b.mapIdx fun i x => x ^^^ ks k n i
theorem strm_length (k n b : List UInt8) : (strm k n b).length = b.length := by unfold strm; exact List.length_mapIdx
theorem strm_strm (k n b : List UInt8) : strm k n (strm k n b) = b := by
  unfold strm
  refine List.ext_getElem? fun i => ?_
  rw [List.getElem?_mapIdx, List.getElem?_mapIdx]
  cases b[i]? with
  | none => rfl
  | some x => simp [UInt8.xor_assoc]
theorem strm_at (k n b : List UInt8) {i : Nat} (h : i < b.length) : (strm k n b).getD i 0 = b.getD i 0 ^^^ ks k n i := by
  unfold strm
  rw [List.getD_eq_getElem?_getD, List.getD_eq_getElem?_getD, List.getElem?_mapIdx, List.getElem?_eq_getElem h]; rfl
theorem getD_drop8 (b : List UInt8) (i j : Nat) : (b.drop i).getD j 0 = b.getD (i + j) 0 := by
  rw [List.getD_eq_getElem?_getD, List.getD_eq_getElem?_getD, List.getElem?_drop]
theorem wle_drop (b : List UInt8) (i : Nat) : wle (b.drop i) 0 = wle b i := by
  unfold wle
  simp only [getD_drop8, Nat.zero_add, Nat.add_zero]
theorem ws4_succ (b : List UInt8) (n : Nat) : ws4 b (n + 1) = ws4 b n ++ [wle b (4 * n)] := by simp [ws4, List.range_succ]
theorem set_next (A : List UInt32) (m j : Nat) (x : UInt32) (h : A.length = j) : (A ++ List.replicate (m + 1) 0).set j x = A ++ [x] ++ List.replicate m 0 := by
  subst h
  rw [List.set_append_right _ _ (Nat.le_refl _), Nat.sub_self, List.replicate_succ, List.set_cons_zero, List.append_assoc]; rfl
end Cha
end
section
namespace Eng
open Go Go.RowKit
section
variable {P : Program} {n : Nat} {D : List Deferred} {W : World} {Bo : List Nat} {F : List (Nat × Value)} {l : SH}
  {d : Option Tmp} {ty : TypeId} {ps : String} {af : Array Edge} {g : Option (Nat × Bool)} {x y : Operand} {t : TypeId}
theorem y_ldwb [hu : HT P t true] {b : Nat} {q : List UInt32} (j : Nat) (hj : j < q.length) {et : TypeId} {fz : Nat × Nat} (hx : evO F x = some (.pointer (some ⟨b, j, none⟩)) := by rfl)
    (hm : Res.blk b (.cells (ws q).toArray et fz) ∈ l := by repeat (first | exact .head _ | apply List.Mem.tail)) : Y P n D W Bo ⟨d, .load t x, ty, ps, af, g⟩ F l (W32 (q.getD j 0)) :=
  y_ld hx hm (by rw [List.getElem?_toArray]; exact ws_get hj)
end
section
variable {P : Program} {n : Nat} {D : List Deferred} {W : World} {Bo : List Nat} {F F' : List (Nat × Value)} {l lp : SH}
  {dd : Nat} {ty : TypeId} {ps : String} {af : Array Edge} {g : Option (Nat × Bool)} {x : Operand}
  {Q : Exit → Act → World → Prop} {ops : Array Oper} {f fuel : Nat} {listed : Array Bool}
theorem AnyF.firstT {C : World → Prop} {f i : Nat} {oi : Oper} {v : Value} (hi : ops[i]? = some oi) (hsel : ∀ (j : Nat) (o : Oper) cs b, ops[j]? = some o → o.op ≠ .select cs b)
    (hQ : ∀ c a w, Q (.panic c) (a.put oi.dst v) w → Q (.panic c) a w) (hif : i ≠ f) :
    ∀ (fuel : Nat) (listed : Array Bool) (a : Act) (w : World),
      (∀ j oj, ops[j]? = some oj → j ≠ i → listed.getD j true = false → (∀ e ∈ oj.after, Region.binds .any e = true → e.on ≠ i) → oi.apart ops oj = true) →
      i ∈ Region.ready .any ops listed → YC P ops (fun _ => True) oi v a →
      AnyF P ops Q C f fuel (listed.setIfInBounds i true) (a.put oi.dst v) w → AnyF P ops Q C f (fuel + 1) listed a w := by
  have hat : ∀ {fuel : Nat} {listed : Array Bool} {a : Act} {w : World}, AnyF P ops Q C f fuel (listed.setIfInBounds i true) a w → (listed.getD f false = true ∨ C w) := by
    intro fuel listed a w H
    rcases H.at with h | h
    · rw [getD_set_ne false hif] at h; exact .inl h
    · exact .inr h
  intro fuel
  induction fuel with
  | zero =>
    intro listed a w _ hr hy H
    refine ⟨hat H, fun h => (by rw [h] at hr; cases hr), fun j hj => ?_⟩
    by_cases hji : j = i
    · subst hji; exact hy.op hi trivial H
    · have := ready_mono hj hji
      rw [H.2.1] at this
      cases this
  | succ fuel ih =>
    intro listed a w hfree hr hy H
    refine ⟨hat H, fun h => (by rw [h] at hr; cases hr), fun j hj => ?_⟩
    by_cases hji : j = i
    · subst hji; exact hy.op hi trivial H
    · have h1 := H.2.2 j (ready_mono hj hji)
      obtain ⟨hjun, oj, hoj, hall⟩ := mem_ready.1 hj
      have hnot : ∀ e ∈ oj.after, Region.binds .any e = true → e.on ≠ i := fun e he hb heq => by
        have h1 := hall e he hb
        have h0 := (mem_ready.1 hr).1
        rw [heq] at h1
        rcases Nat.lt_or_ge i listed.size with h' | h'
        · simp [h'] at h0 h1; rw [h0] at h1; cases h1
        · simp [Array.getElem?_eq_none h'] at h1
      have h2 := opIn_put hoj (hfree j oj hoj hji hjun hnot) (fun cs b => hsel i oi cs b hi) (fun cs b => hsel j oj cs b hoj) hQ hy h1
      have hfree' : ∀ k ok, ops[k]? = some ok → k ≠ i → (listed.setIfInBounds j true).getD k true = false →
          (∀ e ∈ ok.after, Region.binds .any e = true → e.on ≠ i) → oi.apart ops ok = true := fun k ok hk hki hun hno => by
        refine hfree k ok hk hki ?_ hno
        by_cases hjk : j = k
        · subst hjk; exact hjun
        · rw [getD_set_ne true hjk] at hun; exact hun
      refine wpOpIn_mono (fun a' w' h3 => ih (listed.setIfInBounds j true) a' w' hfree' (ready_mono hr (Ne.symm hji)) h3.1 ?_) h2
      rw [Array.setIfInBounds_comm _ _ hji]
      exact h3.2
def okT (ops : Array Oper) (f : Nat) (listed : Array Bool) (i : Nat) : Bool :=
  (Region.ready .any ops listed).contains i && (Region.free .any ops listed i && !Nat.beq i f)
theorem f_nc {a0 : Addr} (i : Nat) (hi : ops[i]? = some ⟨some dd, .nilCheck x, ty, ps, af, g⟩) (h : DF P n D W Bo ops Q lp f fuel (listed.setIfInBounds i true) ((dd, .pointer (some a0)) :: F) l)
    (hx : evO F x = some (.pointer (some a0)) := by rfl) (hn : Nat.blt dd n = true := by rfl) (hg : Wn ops F g := by first | exact .none | exact .some rfl rfl) (hok : okT ops f listed i = true := by kernel_rfl) : DF P n D W Bo ops Q lp f (fuel + 1) listed F l := by
  intro hs a w ha hw
  unfold okT at hok
  simp only [Bool.and_eq_true, Bool.not_eq_true', List.contains_iff_mem] at hok
  obtain ⟨h1, h2, h3⟩ := hok
  refine AnyF.firstT hi (Region.noSelect_spec hs) (fun c a w hq => by cases hq.1) (Nat.ne_of_beq_eq_false h3) fuel listed a w (Region.free_spec hi h2) h1 (.inl ⟨hg.wanted rfl ha, fun w _ => ?_⟩) (h hs _ w (ha.put dd _ hn) hw)
  simp only [execOp, ha.eval hx]; rfl
end
end Eng
namespace Go.Proofs.YtejdjnkilikehaaGreatDoor
open Go Eng Sha Cha
set_option maxRecDepth 100000
theorem bits_RotateLeft32_pos (w : World) (v : UInt32) (k : Nat) (h0 : 0 < k) (h1 : k < 32) :
    Pure Tryz.prog 219 [W32 v, I k] w (W32 (rl v k)) := by
  have e1 : IntKind.u64.wrap (k : Int) = ((k : Nat) : Int) := wrap_u64 (by omega) (by omega)
  have e2 : k % 2 ^ 5 = k := by omega
  refine enter Tryz.func219 Tryz.ntmps219 ?_
  refine c_seq <| c_reg <| s_y y_as <| s_nil <| q_then <| c_seq <| c_reg <| s_y y_mv <| s_y y_cvw <| ?_
  rw [e1]
  refine s_y (y_mask 5) <| ?_
  rw [e2]
  refine s_y y_as <| s_nil <| q_then <| c_seq <| c_reg <| s_y y_mv <| s_y y_mv <| s_y (y_shl32 (h0 := by omega) (h1 := by omega)) <| s_y y_mv <| s_y y_mv <| s_y (y_sub64 (p := 32) (q := k)) <| s_y (y_shr32 (h0 := by omega) (h1 := by omega)) <| s_y y_or32 <| s_y y_as <| s_nil <| q_then <| c_ret <| ?_
  rw [Int.toNat_natCast, Int.toNat_natCast]
  have e3 : (v <<< UInt32.ofNat k) ||| (v >>> UInt32.ofNat (32 - k)) = rl v k := by
    have := rr_comm v (32 - k)
    rwa [show 32 - (32 - k) = k by omega] at this
  rw [e3]
  exact ret1 Tryz.results219 rv_t fun w' hw => ⟨rfl, hw⟩
theorem c_word_ok (w : World) (a : Option Addr) (m c : Nat) (q : List UInt8) (hr : Rd w a (bs q)) (hm : 4 ≤ m) (hq : m ≤ q.length) :
    Pure Tryz.prog 229 [.slice a m c] w (W32 (wle q 0)) := by
  refine enter Tryz.func229 Tryz.ntmps229 ?_
  refine c_seq <| c_reg <| s_y y_as <| s_nil <| q_then <| c_seq <| c_regd <| d_y y_mv <| d_y (y_ixs1 (xs := bs q) (i := 0) (hr := rdW0 hr) (hl := by rw [bs_length]; exact hq)) <| d_y (y_ldb (q := q) (i := 0) (hr := rdW0 hr)) <| d_y y_cv32 <| d_y y_mv <| d_y (y_ixs1 (xs := bs q) (i := 1) (hr := rdW0 hr) (hl := by rw [bs_length]; exact hq)) <| d_y (y_ldb (q := q) (i := 1) (hr := rdW0 hr)) <| d_y y_cv32 <| d_y y_shl32 <| d_y y_or32 <| d_y y_mv <| d_y (y_ixs1 (xs := bs q) (i := 2) (hr := rdW0 hr) (hl := by rw [bs_length]; exact hq)) <| d_y (y_ldb (q := q) (i := 2) (hr := rdW0 hr)) <| d_y y_cv32 <| d_y y_shl32 <| d_y y_or32 <| d_y y_mv <| d_y (y_ixs1 (xs := bs q) (i := 3) (hr := rdW0 hr) (hl := by rw [bs_length]; exact hq)) <| d_y (y_ldb (q := q) (i := 3) (hr := rdW0 hr)) <| d_y y_cv32 <| d_y y_shl32 <| d_y y_or32 <| d_y y_as <| d_nil <| q_then <| c_ret <| ?_
  exact ret1 Tryz.results229 rv_t fun w' hw => ⟨rfl, hw⟩
theorem c_mix_ok (w : World) (p : Nat) (et : TypeId) (v : List UInt32) (a b c d : Nat) (hp : w.heap[p]? = some (.cells (ws v).toArray et (0, 0))) (hv : v.length = 16) (ha : a < 16) (hb : b < 16) (hc : c < 16) (hd : d < 16) :
    Gives Tryz.prog 209 [.pointer (some ⟨p, 0, none⟩), I a, I b, I c, I d] w [p] (fun _ : Unit => .tuple #[]) (fun _ => [.blk p (.cells (ws (Cha.mix v a b c d)).toArray et (0, 0))]) (fun _ => True) := by
  have h0 : ∀ i, i < 16 → i < v.length := fun i hi => by omega
  refine enterB Tryz.func209 Tryz.ntmps209 hp ?_
  refine c_seq <| c_regF 13 <| f_y 0 rfl y_mv <| f_y 1 rfl y_mv <| f_y 2 rfl y_nc <| f_y 3 rfl (y_ixn a) <| f_y 4 rfl (y_ldwb (q := v) a (h0 a ha)) <| f_y 5 rfl y_mv <| f_y 6 rfl y_mv <| f_y 7 rfl y_nc <| f_y 8 rfl (y_ixn b) <| f_y 9 rfl (y_ldwb (q := v) b (h0 b hb)) <| f_y 10 rfl y_add32 <| f_nc 11 rfl <| f_y 12 rfl (y_ixn a) <| f_w 13 rfl <| s_stw (?_) (hl := h0 a ha)
  obtain ⟨v1, e1⟩ : ∃ u, addAt v a b = u := ⟨_, rfl⟩
  have h1 : ∀ i, i < 16 → i < v1.length := fun i hi => by rw [← e1]; simp only [addAt_length, xrAt_length]; exact h0 i hi
  rw [show (v).set a ((v).getD a 0 + (v).getD b 0) = v1 from e1]
  refine f_z <| q_then <| ?_
  refine c_seq <| c_regF 16 <| f_y 0 rfl y_mv <| f_y 1 rfl y_mv <| f_y 2 rfl y_mv <| f_y 3 rfl y_mv <| f_y 4 rfl y_nc <| f_y 5 rfl (y_ixn d) <| f_y 6 rfl (y_ldwb (q := v1) d (h1 d hd)) <| f_y 7 rfl y_mv <| f_y 8 rfl y_mv <| f_y 9 rfl y_nc <| f_y 10 rfl (y_ixn a) <| f_y 11 rfl (y_ldwb (q := v1) a (h1 a ha)) <| f_y 12 rfl y_xor32 <| f_nc 14 rfl <| f_w 13 rfl <| s_pure (fun w' hw => bits_RotateLeft32_pos w' _ 16 (by decide) (by decide)) <| f_k <| f_y 15 rfl (y_ixn d) <| f_w 16 rfl <| s_stw (?_) (hl := h1 d hd)
  obtain ⟨v2, e2⟩ : ∃ u, xrAt (v1) d a 16 = u := ⟨_, rfl⟩
  have h2 : ∀ i, i < 16 → i < v2.length := fun i hi => by rw [← e2]; simp only [addAt_length, xrAt_length]; exact h1 i hi
  rw [show (v1).set d (rl ((v1).getD d 0 ^^^ (v1).getD a 0) 16) = v2 from e2]
  refine f_z <| q_then <| ?_
  refine c_seq <| c_regF 13 <| f_y 0 rfl y_mv <| f_y 1 rfl y_mv <| f_y 2 rfl y_nc <| f_y 3 rfl (y_ixn c) <| f_y 4 rfl (y_ldwb (q := v2) c (h2 c hc)) <| f_y 5 rfl y_mv <| f_y 6 rfl y_mv <| f_y 7 rfl y_nc <| f_y 8 rfl (y_ixn d) <| f_y 9 rfl (y_ldwb (q := v2) d (h2 d hd)) <| f_y 10 rfl y_add32 <| f_nc 11 rfl <| f_y 12 rfl (y_ixn c) <| f_w 13 rfl <| s_stw (?_) (hl := h2 c hc)
  obtain ⟨v3, e3⟩ : ∃ u, addAt (v2) c d = u := ⟨_, rfl⟩
  have h3 : ∀ i, i < 16 → i < v3.length := fun i hi => by rw [← e3]; simp only [addAt_length, xrAt_length]; exact h2 i hi
  rw [show (v2).set c ((v2).getD c 0 + (v2).getD d 0) = v3 from e3]
  refine f_z <| q_then <| ?_
  refine c_seq <| c_regF 16 <| f_y 0 rfl y_mv <| f_y 1 rfl y_mv <| f_y 2 rfl y_mv <| f_y 3 rfl y_mv <| f_y 4 rfl y_nc <| f_y 5 rfl (y_ixn b) <| f_y 6 rfl (y_ldwb (q := v3) b (h3 b hb)) <| f_y 7 rfl y_mv <| f_y 8 rfl y_mv <| f_y 9 rfl y_nc <| f_y 10 rfl (y_ixn c) <| f_y 11 rfl (y_ldwb (q := v3) c (h3 c hc)) <| f_y 12 rfl y_xor32 <| f_nc 14 rfl <| f_w 13 rfl <| s_pure (fun w' hw => bits_RotateLeft32_pos w' _ 12 (by decide) (by decide)) <| f_k <| f_y 15 rfl (y_ixn b) <| f_w 16 rfl <| s_stw (?_) (hl := h3 b hb)
  obtain ⟨v4, e4⟩ : ∃ u, xrAt (v3) b c 12 = u := ⟨_, rfl⟩
  have h4 : ∀ i, i < 16 → i < v4.length := fun i hi => by rw [← e4]; simp only [addAt_length, xrAt_length]; exact h3 i hi
  rw [show (v3).set b (rl ((v3).getD b 0 ^^^ (v3).getD c 0) 12) = v4 from e4]
  refine f_z <| q_then <| ?_
  refine c_seq <| c_regF 13 <| f_y 0 rfl y_mv <| f_y 1 rfl y_mv <| f_y 2 rfl y_nc <| f_y 3 rfl (y_ixn a) <| f_y 4 rfl (y_ldwb (q := v4) a (h4 a ha)) <| f_y 5 rfl y_mv <| f_y 6 rfl y_mv <| f_y 7 rfl y_nc <| f_y 8 rfl (y_ixn b) <| f_y 9 rfl (y_ldwb (q := v4) b (h4 b hb)) <| f_y 10 rfl y_add32 <| f_nc 11 rfl <| f_y 12 rfl (y_ixn a) <| f_w 13 rfl <| s_stw (?_) (hl := h4 a ha)
  obtain ⟨v5, e5⟩ : ∃ u, addAt (v4) a b = u := ⟨_, rfl⟩
  have h5 : ∀ i, i < 16 → i < v5.length := fun i hi => by rw [← e5]; simp only [addAt_length, xrAt_length]; exact h4 i hi
  rw [show (v4).set a ((v4).getD a 0 + (v4).getD b 0) = v5 from e5]
  refine f_z <| q_then <| ?_
  refine c_seq <| c_regF 16 <| f_y 0 rfl y_mv <| f_y 1 rfl y_mv <| f_y 2 rfl y_mv <| f_y 3 rfl y_mv <| f_y 4 rfl y_nc <| f_y 5 rfl (y_ixn d) <| f_y 6 rfl (y_ldwb (q := v5) d (h5 d hd)) <| f_y 7 rfl y_mv <| f_y 8 rfl y_mv <| f_y 9 rfl y_nc <| f_y 10 rfl (y_ixn a) <| f_y 11 rfl (y_ldwb (q := v5) a (h5 a ha)) <| f_y 12 rfl y_xor32 <| f_nc 14 rfl <| f_w 13 rfl <| s_pure (fun w' hw => bits_RotateLeft32_pos w' _ 8 (by decide) (by decide)) <| f_k <| f_y 15 rfl (y_ixn d) <| f_w 16 rfl <| s_stw (?_) (hl := h5 d hd)
  obtain ⟨v6, e6⟩ : ∃ u, xrAt (v5) d a 8 = u := ⟨_, rfl⟩
  have h6 : ∀ i, i < 16 → i < v6.length := fun i hi => by rw [← e6]; simp only [addAt_length, xrAt_length]; exact h5 i hi
  rw [show (v5).set d (rl ((v5).getD d 0 ^^^ (v5).getD a 0) 8) = v6 from e6]
  refine f_z <| q_then <| ?_
  refine c_seq <| c_regF 13 <| f_y 0 rfl y_mv <| f_y 1 rfl y_mv <| f_y 2 rfl y_nc <| f_y 3 rfl (y_ixn c) <| f_y 4 rfl (y_ldwb (q := v6) c (h6 c hc)) <| f_y 5 rfl y_mv <| f_y 6 rfl y_mv <| f_y 7 rfl y_nc <| f_y 8 rfl (y_ixn d) <| f_y 9 rfl (y_ldwb (q := v6) d (h6 d hd)) <| f_y 10 rfl y_add32 <| f_nc 11 rfl <| f_y 12 rfl (y_ixn c) <| f_w 13 rfl <| s_stw (?_) (hl := h6 c hc)
  obtain ⟨v7, e7⟩ : ∃ u, addAt (v6) c d = u := ⟨_, rfl⟩
  have h7 : ∀ i, i < 16 → i < v7.length := fun i hi => by rw [← e7]; simp only [addAt_length, xrAt_length]; exact h6 i hi
  rw [show (v6).set c ((v6).getD c 0 + (v6).getD d 0) = v7 from e7]
  refine f_z <| q_then <| ?_
  refine c_regF 16 <| f_y 0 rfl y_mv <| f_y 1 rfl y_mv <| f_y 2 rfl y_mv <| f_y 3 rfl y_mv <| f_y 4 rfl y_nc <| f_y 5 rfl (y_ixn b) <| f_y 6 rfl (y_ldwb (q := v7) b (h7 b hb)) <| f_y 7 rfl y_mv <| f_y 8 rfl y_mv <| f_y 9 rfl y_nc <| f_y 10 rfl (y_ixn c) <| f_y 11 rfl (y_ldwb (q := v7) c (h7 c hc)) <| f_y 12 rfl y_xor32 <| f_nc 14 rfl <| f_w 13 rfl <| s_pure (fun w' hw => bits_RotateLeft32_pos w' _ 7 (by decide) (by decide)) <| f_k <| f_y 15 rfl (y_ixn b) <| f_w 16 rfl <| s_stw (?_) (hl := h7 b hb)
  subst e1; subst e2; subst e3; subst e4; subst e5; subst e6; subst e7
  refine f_z <| ?_
  exact ret0 Tryz.results209 (fun w' hw => ⟨(), trivial, rfl, hw⟩) _ (.inr rfl)
end Go.Proofs.YtejdjnkilikehaaGreatDoor
end
section
namespace Eng
open Go Go.RowKit
section
variable {r : Option Nat} {P : Program} {n : Nat} {D : List Deferred} {W : World} {Bo : List Nat} {F : List (Nat × Value)} {l l' : SH}
  {d : Option Tmp} {dd : Nat} {ty : TypeId} {ps : String} {af : Array Edge} {g : Option (Nat × Bool)} {x y : Operand} {v : Value} {t ta tb e : TypeId}
  {Q : Exit → Act → World → Prop} {ops : Array Oper} {rest : List Oper}
theorem y_cv8w [hu : HU P tb (.int .u8)] {tb' : Bool} [ha' : HT P ta tb'] {p : UInt32} (hx : evO F x = some (W32 p) := by rfl) : Y P n D W Bo ⟨d, .convert ta tb x, ty, ps, af, g⟩ F l (B p.toUInt8) := by
  have h := y_cv8 (P := P) (n := n) (D := D) (W := W) (Bo := Bo) (l := l) (d := d) (ty := ty) (ps := ps) (af := af) (g := g) (ta := ta) (tb := tb) (F := F) (x := x) (p := ((p.toNat : Nat) : Int)) (k' := .u32) hx
  have e : UInt8.ofNat (((p.toNat : Nat) : Int) % 256).toNat = p.toUInt8 := by
    apply UInt8.toNat_inj.1
    rw [UInt8.toNat_ofNat', UInt32.toNat_toUInt8]
    omega
  rwa [e] at h
theorem c_torow0 {c : Code} {b : Nat} {cs : Array Value} {e : TypeId} {s m : Nat} (hr : Rep (.blk b (.cells cs e (0, 0))) (.row (some ⟨b, 0, none⟩) m e s 0 []) l l') (hs : cs.size = m * s) (hm : m ≤ maxLen)
    (h : CP r P n D W Bo c Q F l') : CP r P n D W Bo c Q F l := fun a w ha hw => h a w ha (hw.change hr rfl rfl rfl (Nat.le_refl _) (fun _ _ _ => rfl)
    ⟨by simp, Nat.zero_le _, .inr ⟨b, cs, rfl, (hw.own _ hr.mem).1, hm, hs, by simp⟩⟩ (fun k hk => .inl hk))
end
end Eng
namespace Go.Proofs.YtejdjnkilikehaaGreatDoor
open Go Eng Sha Cha
set_option maxRecDepth 100000
def LC (w : World) : Prop := LS w ∧ Rd w (some ⟨5, 0, none⟩) (ws cst)
theorem LC.st {W w : World} {l : SH} (h : LC W) (hs : St W [] w l) : LC w := ⟨h.1.st hs, h.2.st hs⟩
theorem hzn {k : List UInt8} {m : Nat} (h : k.length = m) : (bs k).toArray.size = m := by simp [bs_length, h]
theorem hzw {v : List UInt32} {m : Nat} (h : v.length = m) : (ws v).toArray.size = m := by simp [ws_length, h]
theorem rd_drop {W : World} {Bo : List Nat} {l : SH} {b i : Nat} {q : List UInt8} {e : TypeId} {fz : Nat × Nat} (hm : Res.blk b (.cells (bs q).toArray e fz) ∈ l) : RdS W Bo l (some ⟨b, i, none⟩) (bs (q.drop i)) :=
  rdB hm fun j v h => by rw [bs_drop, List.getElem?_drop] at h; rw [List.getElem?_toArray]; exact h
theorem c_first_ok (w : World) (k n : List UInt8) (c : UInt32) (hg : LC w) (hk : k.length = 32) (hn : n.length = 12) :
    Pure Tryz.prog 208 [.agg (bs k).toArray, .agg (bs n).toArray, W32 c] w (.agg (ws (first k n c)).toArray) := by
  refine enter Tryz.func208 Tryz.ntmps208 ?_
  refine c_seq <| c_reg <| s_box rfl fun b3 => s_box rfl fun b4 => s_alloc fun b6 => s_nil <| q_then <| c_seq <| c_regL [.blk b4 (.cells (bs n).toArray 65 (0, 0)), .blk b3 (.cells (bs k).toArray 24 (0, 0))] <| r_y 0 rfl y_sla <| r_y 1 rfl y_sla <| r_W 2 rfl <| s_cpv (b := b6) (off := 0) (m := 16) (k := 4) (cs := (ws (List.replicate 16 0)).toArray) (ys := ws cst) (?_) (rdW0 hg.2) (h1 := fun v hv => ws_one hv) (hle := by decide) (hrep := .head _) (hfit := by decide)
  rw [show (((ws (List.replicate 16 0)).toArray).toList.take 0 ++ (ws cst).take (Nat.min 4 16) ++ ((ws (List.replicate 16 0)).toArray).toList.drop (0 + Nat.min 4 16)).toArray = (ws (cst ++ ws4 k 0 ++ List.replicate 12 0)).toArray by rfl]
  refine r_K <| r_E <| q_then <| c_seq <| c_seq <| c_reg <| s_y y_mv <| s_nil <| q_then <| c_block <| ?_
  refine c_loop (fun i : Nat => [(2, W32 c), (3, .pointer (some ⟨b3, 0, none⟩)), (4, .pointer (some ⟨b4, 0, none⟩)), (6, .pointer (some ⟨b6, 0, none⟩)), (12, I i)]) (fun i => [.blk b6 (.cells (ws (cst ++ ws4 k i ++ List.replicate (12 - i) 0)).toArray 208 (0, 0)), .blk b4 (.cells (bs n).toArray 65 (0, 0)), .blk b3 (.cells (bs k).toArray 24 (0, 0))]) (fun i => i ≤ 8) (fun i => 8 - i) 0 (by omega) ⟨rfl, rfl, rfl, rfl, rfl, trivial⟩ (.refl _) ?_
  intro i hi
  by_cases h8 : i < 8
  · have hA : (cst ++ ws4 k i).length = 4 + i := by rw [List.length_append, ws4_length]; rfl
    have hs := set_next (cst ++ ws4 k i) (11 - i) (4 + i) (wle k (4 * i)) hA
    rw [show 11 - i + 1 = 12 - i by omega, show cst ++ ws4 k i ++ [wle k (4 * i)] = cst ++ ws4 k (i + 1) by rw [ws4_succ, List.append_assoc]] at hs
    refine c_seq <| c_reg <| s_kt (y_lss (p := ((i : Nat) : Int)) (q := 8)) (by omega) <| s_nil <| q_then <| c_seq <| c_t <| c_skip <| q_then <| c_seq <| c_block <| c_seq <| c_reg <| s_y y_mv <| s_y y_as <| s_nil <| q_then <| c_reg <| s_y y_mv <| s_y (y_add (p := 4) (q := ((i : Nat) : Int))) <| s_y y_mv <| s_y (y_mul (p := 4) (q := ((i : Nat) : Int))) <| s_y (y_slal (i := 4 * ((i : Nat) : Int))) <| ?_
    rw [show 0 + (4 * ((i : Nat) : Int)).toNat * 1 = 4 * i by omega, show (4 * ((i : Nat) : Int)).toNat = 4 * i by omega]
    refine s_pure (fun w' hw => by
      have h9 := c_word_ok w' (some ⟨b3, 4 * i, none⟩) (32 - 4 * i) (32 - 4 * i) (k.drop (4 * i)) (rd_drop (.tail _ (.tail _ (.head _))) w' hw) (by omega) (by rw [List.length_drop]; omega)
      rw [wle_drop] at h9
      exact h9) <| s_y (y_ixn (4 + i) (m := 16)) <| s_stw (?_) (hl := by simp only [List.length_append, ws4_length, List.length_replicate, show cst.length = 4 from rfl]; omega)
    rw [hs]
    refine s_nil <| q_nb <| q_then <| c_reg <| s_y (y_add (p := ((i : Nat) : Int)) (q := 1)) <| s_y y_mv <| s_nil <| ?_
    rw [show ((i : Nat) : Int) + 1 = ((i + 1 : Nat) : Int) by omega, show 11 - i = 12 - (i + 1) by omega]
    exact q_round (i + 1) (by omega) (by omega) ⟨rfl, rfl, rfl, rfl, rfl, trivial⟩ (.refl _)
  obtain rfl : i = 8 := by omega
  have hs12 : (cst ++ ws4 k 8 ++ List.replicate (12 - 8) (0 : UInt32)).set 12 c = cst ++ ws4 k 8 ++ [c] ++ ws4 n 0 ++ List.replicate 3 0 := by
    rw [show ws4 n 0 = [] from rfl, List.append_nil]
    exact set_next (cst ++ ws4 k 8) 3 12 c (by rw [List.length_append, ws4_length]; rfl)
  refine c_seq <| c_reg <| s_kf (y_lss (p := ((8 : Nat) : Int)) (q := 8)) (by omega) <| s_nil <| q_then <| c_seq <| c_f <| c_exit <| q_ex <| q_ex <| q_exb <| q_then <| c_seq <| c_reg <| s_y y_mv <| s_y (y_ixn 12 (m := 16)) <| s_stw (?_) (hl := by simp only [List.length_append, ws4_length, List.length_replicate]; decide)
  rw [hs12]
  refine s_nil <| q_then <| c_seq <| c_seq <| c_reg <| s_y y_mv <| s_nil <| q_then <| c_block <| ?_
  refine c_loop (fun i : Nat => [(4, .pointer (some ⟨b4, 0, none⟩)), (6, .pointer (some ⟨b6, 0, none⟩)), (25, I i)]) (fun i => [.blk b6 (.cells (ws (cst ++ ws4 k 8 ++ [c] ++ ws4 n i ++ List.replicate (3 - i) 0)).toArray 208 (0, 0)), .blk b4 (.cells (bs n).toArray 65 (0, 0))]) (fun i => i ≤ 3) (fun i => 3 - i) 0 (by omega) ⟨rfl, rfl, rfl, trivial⟩ (.cons_cons _ (.cons_cons _ (List.nil_sublist _))) ?_
  intro i hi
  by_cases h3 : i < 3
  · have hA : (cst ++ ws4 k 8 ++ [c] ++ ws4 n i).length = 13 + i := by simp only [List.length_append, ws4_length]; rw [show cst.length + 8 + [c].length = 13 from rfl]
    have hs := set_next (cst ++ ws4 k 8 ++ [c] ++ ws4 n i) (2 - i) (13 + i) (wle n (4 * i)) hA
    rw [show 2 - i + 1 = 3 - i by omega, show cst ++ ws4 k 8 ++ [c] ++ ws4 n i ++ [wle n (4 * i)] = cst ++ ws4 k 8 ++ [c] ++ ws4 n (i + 1) by rw [ws4_succ n i, List.append_assoc (cst ++ ws4 k 8 ++ [c])]] at hs
    refine c_seq <| c_reg <| s_kt (y_lss (p := ((i : Nat) : Int)) (q := 3)) (by omega) <| s_nil <| q_then <| c_seq <| c_t <| c_skip <| q_then <| c_seq <| c_block <| c_seq <| c_reg <| s_y y_mv <| s_y y_as <| s_nil <| q_then <| c_reg <| s_y y_mv <| s_y (y_add (p := 13) (q := ((i : Nat) : Int))) <| s_y y_mv <| s_y (y_mul (p := 4) (q := ((i : Nat) : Int))) <| s_y (y_slal (i := 4 * ((i : Nat) : Int))) <| ?_
    rw [show 0 + (4 * ((i : Nat) : Int)).toNat * 1 = 4 * i by omega, show (4 * ((i : Nat) : Int)).toNat = 4 * i by omega]
    refine s_pure (fun w' hw => by
      have h9 := c_word_ok w' (some ⟨b4, 4 * i, none⟩) (12 - 4 * i) (12 - 4 * i) (n.drop (4 * i)) (rd_drop (.tail _ (.head _)) w' hw) (by omega) (by rw [List.length_drop]; omega)
      rw [wle_drop] at h9
      exact h9) <| s_y (y_ixn (13 + i) (m := 16)) <| s_stw (?_) (hl := by rw [List.length_append, hA, List.length_replicate]; omega)
    rw [hs]
    refine s_nil <| q_nb <| q_then <| c_reg <| s_y (y_add (p := ((i : Nat) : Int)) (q := 1)) <| s_y y_mv <| s_nil <| ?_
    rw [show ((i : Nat) : Int) + 1 = ((i + 1 : Nat) : Int) by omega, show 2 - i = 3 - (i + 1) by omega]
    exact q_round (i + 1) (by omega) (by omega) ⟨rfl, rfl, rfl, trivial⟩ (.refl _)
  obtain rfl : i = 3 := by omega
  rw [show cst ++ ws4 k 8 ++ [c] ++ ws4 n 3 ++ List.replicate (3 - 3) 0 = first k n c by rw [Nat.sub_self, List.replicate_zero, List.append_nil]; rfl]
  have hl := first_length k n c
  obtain ⟨S, hS⟩ : ∃ S, first k n c = S := ⟨_, rfl⟩
  rw [hS] at hl ⊢
  refine c_seq <| c_reg <| s_kf (y_lss (p := ((3 : Nat) : Int)) (q := 3)) (by omega) <| s_nil <| q_then <| c_seq <| c_f <| c_exit <| q_ex <| q_ex <| q_exb <| q_then <| c_seq <| c_reg <| s_y (y_lda (b := b6) (cs := (ws S).toArray) (hl := hzw hl)) <| s_sta (b := b6) (vs := (ws S).toArray) (cs := (ws S).toArray) (h1 := fun u hu => ws_one (by simpa using hu)) (hl := rfl) (hs1 := hzw hl) ?_
  refine s_nil <| q_then <| c_ret <| ?_
  exact ret1 Tryz.results208 (rv_ca (b := b6) (hl := hzw hl)) fun w' hw => ⟨rfl, hw.sub (List.nil_sublist _)⟩
theorem c_block_ok (w : World) (k n : List UInt8) (c : UInt32) (hg : LC w) (hk : k.length = 32) (hn : n.length = 12) :
    Gives Tryz.prog 158 [.agg (bs k).toArray, .agg (bs n).toArray, W32 c] w [] (fun y : Option Addr × Nat => .slice y.1 64 y.2) (fun y => [.row y.1 y.2 5 1 64 (bs (blk k n c))]) (fun _ => True) := by
  have hl := first_length k n c
  have hblk : blk k n c = outU (rndU (first k n c) 10) (first k n c) 16 := rfl
  obtain ⟨S, hS⟩ : ∃ S, first k n c = S := ⟨_, rfl⟩
  rw [hS] at hl hblk
  have hR : ∀ r, (rndU S r).length = 16 := fun r => by rw [rndU_length]; exact hl
  refine enter Tryz.func158 Tryz.ntmps158 ?_
  refine c_seq <| c_reg <| s_box rfl fun b3 => s_box rfl fun b4 => s_y y_as <| s_nil <| q_then <| c_seq <| c_reg <| s_y (y_lda (b := b3) (cs := (bs k).toArray) (hl := hzn hk)) <| s_y (y_lda (b := b4) (cs := (bs n).toArray) (hl := hzn hn)) <| s_y y_mv <| s_pure (fun w' hw => c_first_ok w' k n c (hg.st hw) hk hn) <| ?_
  rw [hS]
  refine s_alloc fun b7 => s_sta (b := b7) (vs := (ws S).toArray) (cs := (ws (List.replicate 16 0)).toArray) (h1 := fun u hu => ws_one (by simpa using hu)) (hl := by rw [hzw hl]; rfl) (hs1 := hzw hl) ?_
  refine s_nil <| q_then <| c_seq <| c_reg <| s_y (y_lda (b := b7) (cs := (ws S).toArray) (hl := hzw hl)) <| s_alloc fun b8 => s_sta (b := b8) (vs := (ws S).toArray) (cs := (ws (List.replicate 16 0)).toArray) (h1 := fun u hu => ws_one (by simpa using hu)) (hl := by rw [hzw hl]; rfl) (hs1 := hzw hl) ?_
  refine s_nil <| q_then <| c_seq <| c_reg <| s_y y_func <| s_y y_as <| s_nil <| q_then <| c_seq <| c_seq <| c_reg <| s_y y_mv <| s_nil <| q_then <| c_block <| ?_
  refine c_loop (fun i : Nat => [(7, .pointer (some ⟨b7, 0, none⟩)), (8, .pointer (some ⟨b8, 0, none⟩)), (9, .func (.func 209) #[.pointer (some ⟨b8, 0, none⟩)] #[]), (21, I i)]) (fun i => [.blk b8 (.cells (ws (rndU S i)).toArray 208 (0, 0)), .blk b7 (.cells (ws S).toArray 208 (0, 0))]) (fun i => i ≤ 10) (fun i => 10 - i) 0 (by omega) ⟨rfl, rfl, rfl, rfl, trivial⟩ (.cons_cons _ (.cons_cons _ (List.nil_sublist _))) ?_
  intro r hr
  by_cases h10 : r < 10
  · have hVl := hR r
    have hnx : dgU (colU (rndU S r) 4) 4 = rndU S (r + 1) := rfl
    obtain ⟨V, hV⟩ : ∃ V, rndU S r = V := ⟨_, rfl⟩
    rw [hV] at hVl hnx ⊢
    refine c_seq <| c_reg <| s_kt (y_lss (p := ((r : Nat) : Int)) (q := 10)) (by omega) <| s_nil <| q_then <| c_seq <| c_t <| c_skip <| q_then <| c_seq <| c_block <| c_seq <| c_seq <| c_reg <| s_y y_mv <| s_nil <| q_then <| c_block <| ?_
    refine c_loop (fun i : Nat => [(7, .pointer (some ⟨b7, 0, none⟩)), (8, .pointer (some ⟨b8, 0, none⟩)), (9, .func (.func 209) #[.pointer (some ⟨b8, 0, none⟩)] #[]), (21, I r), (23, I i)]) (fun i => [.blk b8 (.cells (ws (colU V i)).toArray 208 (0, 0)), .blk b7 (.cells (ws S).toArray 208 (0, 0))]) (fun i => i ≤ 4) (fun i => 4 - i) 0 (by omega) ⟨rfl, rfl, rfl, rfl, rfl, trivial⟩ (.refl _) ?_
    intro i hi
    by_cases h4 : i < 4
    · have hCl : (colU V i).length = 16 := by rw [colU_length]; exact hVl
      refine c_seq <| c_reg <| s_kt (y_lss (p := ((i : Nat) : Int)) (q := 4)) (by omega) <| s_nil <| q_then <| c_seq <| c_t <| c_skip <| q_then <| c_seq <| c_block <| c_seq <| c_reg <| s_y y_mv <| s_y y_as <| s_nil <| q_then <| c_reg <| s_y y_mv <| s_y y_mv <| s_y y_mv <| s_y (y_add (p := 4) (q := ((i : Nat) : Int))) <| s_y y_mv <| s_y (y_add (p := 8) (q := ((i : Nat) : Int))) <| s_y y_mv <| s_y (y_add (p := 12) (q := ((i : Nat) : Int))) <| s_chg (σ := Unit) (val := fun _ => .tuple #[]) (b := b8) (o' := fun _ => .cells (ws (colU V (i + 1))).toArray 208 (0, 0)) (lx := fun _ => []) (φ := fun _ => True) (hc := fun w' hw => (by
        have h9 := c_mix_ok w' b8 208 (colU V i) i (4 + i) (8 + i) (12 + i) hw.blk_at hCl (by omega) (by omega) (by omega) (by omega)
        rw [show ((4 + i : Nat) : Int) = 4 + ((i : Nat) : Int) by omega, show ((8 + i : Nat) : Int) = 8 + ((i : Nat) : Int) by omega, show ((12 + i : Nat) : Int) = 12 + ((i : Nat) : Int) by omega] at h9
        exact h9)) (hrep := fun _ => .head _) fun _ _ => s_nil <| q_nb <| q_then <| c_reg <| s_y (y_add (p := ((i : Nat) : Int)) (q := 1)) <| s_y y_mv <| s_nil <| ?_
      rw [show ((i : Nat) : Int) + 1 = ((i + 1 : Nat) : Int) by omega]
      exact q_round (i + 1) (by omega) (by omega) ⟨rfl, rfl, rfl, rfl, rfl, trivial⟩ (.refl _)
    obtain rfl : i = 4 := by omega
    have hUl : (colU V 4).length = 16 := by rw [colU_length]; exact hVl
    obtain ⟨U', hU⟩ : ∃ U', colU V 4 = U' := ⟨_, rfl⟩
    rw [hU] at hUl hnx ⊢
    refine c_seq <| c_reg <| s_kf (y_lss (p := ((4 : Nat) : Int)) (q := 4)) (by omega) <| s_nil <| q_then <| c_seq <| c_f <| c_exit <| q_ex <| q_ex <| q_exb <| q_then <| c_seq <| c_reg <| s_y y_mv <| s_nil <| q_then <| c_block <| ?_
    refine c_loop (fun i : Nat => [(7, .pointer (some ⟨b7, 0, none⟩)), (8, .pointer (some ⟨b8, 0, none⟩)), (9, .func (.func 209) #[.pointer (some ⟨b8, 0, none⟩)] #[]), (21, I r), (36, I i)]) (fun i => [.blk b8 (.cells (ws (dgU U' i)).toArray 208 (0, 0)), .blk b7 (.cells (ws S).toArray 208 (0, 0))]) (fun i => i ≤ 4) (fun i => 4 - i) 0 (by omega) ⟨rfl, rfl, rfl, rfl, rfl, trivial⟩ (.refl _) ?_
    intro i hi
    by_cases h4 : i < 4
    · have hCl : (dgU U' i).length = 16 := by rw [dgU_length]; exact hUl
      refine c_seq <| c_reg <| s_kt (y_lss (p := ((i : Nat) : Int)) (q := 4)) (by omega) <| s_nil <| q_then <| c_seq <| c_t <| c_skip <| q_then <| c_seq <| c_block <| c_seq <| c_reg <| s_y y_mv <| s_y y_as <| s_nil <| q_then <| c_reg <| s_y y_mv <| s_y y_mv <| s_y y_mv <| s_y (y_add (p := ((i : Nat) : Int)) (q := 1)) <| s_y (y_rem (p := ((i : Nat) : Int) + 1) (q := 4)) <| s_y (y_add (p := 4) (q := (((i : Nat) : Int) + 1) % 4)) <| s_y y_mv <| s_y (y_add (p := ((i : Nat) : Int)) (q := 2)) <| s_y (y_rem (p := ((i : Nat) : Int) + 2) (q := 4)) <| s_y (y_add (p := 8) (q := (((i : Nat) : Int) + 2) % 4)) <| s_y y_mv <| s_y (y_add (p := ((i : Nat) : Int)) (q := 3)) <| s_y (y_rem (p := ((i : Nat) : Int) + 3) (q := 4)) <| s_y (y_add (p := 12) (q := (((i : Nat) : Int) + 3) % 4)) <| s_chg (σ := Unit) (val := fun _ => .tuple #[]) (b := b8) (o' := fun _ => .cells (ws (dgU U' (i + 1))).toArray 208 (0, 0)) (lx := fun _ => []) (φ := fun _ => True) (hc := fun w' hw => (by
        have h9 := c_mix_ok w' b8 208 (dgU U' i) i (4 + (i + 1) % 4) (8 + (i + 2) % 4) (12 + (i + 3) % 4) hw.blk_at hCl (by omega) (by omega) (by omega) (by omega)
        rw [show ((4 + (i + 1) % 4 : Nat) : Int) = 4 + (((i : Nat) : Int) + 1) % 4 by omega, show ((8 + (i + 2) % 4 : Nat) : Int) = 8 + (((i : Nat) : Int) + 2) % 4 by omega, show ((12 + (i + 3) % 4 : Nat) : Int) = 12 + (((i : Nat) : Int) + 3) % 4 by omega] at h9
        exact h9)) (hrep := fun _ => .head _) fun _ _ => s_nil <| q_nb <| q_then <| c_reg <| s_y (y_add (p := ((i : Nat) : Int)) (q := 1)) <| s_y y_mv <| s_nil <| ?_
      rw [show ((i : Nat) : Int) + 1 = ((i + 1 : Nat) : Int) by omega]
      exact q_round (i + 1) (by omega) (by omega) ⟨rfl, rfl, rfl, rfl, rfl, trivial⟩ (.refl _)
    obtain rfl : i = 4 := by omega
    rw [hnx]
    refine c_seq <| c_reg <| s_kf (y_lss (p := ((4 : Nat) : Int)) (q := 4)) (by omega) <| s_nil <| q_then <| c_seq <| c_f <| c_exit <| q_ex <| q_ex <| q_exb <| q_nb <| q_then <| c_reg <| s_y (y_add (p := ((r : Nat) : Int)) (q := 1)) <| s_y y_mv <| s_nil <| ?_
    rw [show ((r : Nat) : Int) + 1 = ((r + 1 : Nat) : Int) by omega]
    exact q_round (r + 1) (by omega) (by omega) ⟨rfl, rfl, rfl, rfl, trivial⟩ (.refl _)
  obtain rfl : r = 10 := by omega
  have hVl := hR 10
  obtain ⟨V, hV⟩ : ∃ V, rndU S 10 = V := ⟨_, rfl⟩
  rw [hV] at hVl hblk ⊢
  refine c_seq <| c_reg <| s_kf (y_lss (p := ((10 : Nat) : Int)) (q := 10)) (by omega) <| s_nil <| q_then <| c_seq <| c_f <| c_exit <| q_ex <| q_ex <| q_exb <| q_then <| c_seq <| c_reg <| s_mkb (i := 0) (j := 64) fun b12 => s_y y_as <| s_nil <| q_then <| ?_
  rw [show (64 : Int).toNat = 64 from rfl, show (0 : Int).toNat = 0 from rfl]
  refine c_torow0 (b := b12) (s := 1) (m := 64) (cs := (bs (List.replicate 64 0)).toArray) (e := 5) (.head _) (hzn List.length_replicate) (by unfold maxLen; omega) ?_
  refine c_seq <| c_seq <| c_reg <| s_y (y_lda (b := b8) (cs := (ws V).toArray) (hl := hzw hVl)) <| s_y y_mv <| s_nil <| q_then <| c_block <| ?_
  refine c_loop3 (fun (i : Nat) (a : Option Addr) (cc : Nat) => [(7, .pointer (some ⟨b7, 0, none⟩)), (12, .slice a (4 * i) cc), (57, .agg (ws V).toArray), (58, I i)]) (fun i a cc => [.row a cc 5 1 (4 * i) (bs (outU V S i)), .blk b7 (.cells (ws S).toArray 208 (0, 0))]) (fun i _ _ => i ≤ 16) (fun i _ _ => 16 - i) 0 (some ⟨b12, 0, none⟩) 64 (by omega) ⟨rfl, rfl, rfl, rfl, trivial⟩ (.cons_cons _ (.cons _ (.cons_cons _ (List.nil_sublist _)))) ?_
  intro i a cc hi
  by_cases h16 : i < 16
  · have hix : (ws V).toArray[i]? = some (W32 (V.getD i 0)) := by rw [List.getElem?_toArray]; exact ws_get (by omega)
    refine c_seq <| c_reg <| s_kt (y_lss (p := ((i : Nat) : Int)) (q := 16)) (by omega) <| s_nil <| q_then <| c_seq <| c_t <| c_skip <| q_then <| c_seq <| c_block <| c_seq <| c_reg <| s_y y_mv <| s_y (y_ixv (v := W32 (V.getD i 0)) i hix) <| s_y y_as <| s_y y_as <| s_nil <| q_then <| c_seq <| c_reg <| s_y y_mv <| s_y y_mv <| s_y (y_ixn i (m := 16)) <| s_y (y_ldwb (q := S) i (by omega)) <| s_y y_add32 <| s_y y_as <| s_nil <| q_then <| ?_
    have hsucc := outU_succ V S i
    obtain ⟨z, hz⟩ : ∃ z, V.getD i 0 + S.getD i 0 = z := ⟨_, rfl⟩
    rw [hz] at hsucc ⊢
    refine c_reg <| s_y y_mv <| s_y y_mv <| s_y y_cv8w <| s_y y_mv <| s_y y_shr32 <| s_y y_cv8w <| s_y y_mv <| s_y y_shr32 <| s_y y_cv8w <| s_y y_mv <| s_y y_shr32 <| s_y y_cv8w <| s_bslr (cs := bs (le4 z)) fun b79 => s_app (m := 4) (srcB (q := le4 z) (rdR (.head _)) rfl) (h1 := fun v hv => bs_one hv) (hm := .tail _ (.head _)) (hrep := fun _ _ => .tail _ (.head _)) fun a80 c80 h80 => ?_
    rw [← bs_append, ← hsucc, show 4 * i + 4 = 4 * (i + 1) by omega]
    refine s_y y_as <| s_nil <| q_nb <| q_then <| c_reg <| s_y (y_add (p := ((i : Nat) : Int)) (q := 1)) <| s_y y_mv <| s_nil <| ?_
    rw [show ((i : Nat) : Int) + 1 = ((i + 1 : Nat) : Int) by omega]
    exact q_round3 (x := i) (y := a) (z := cc) (i + 1) a80 c80 (by omega) (by omega) ⟨rfl, rfl, rfl, rfl, trivial⟩ (.cons _ (.refl _))
  obtain rfl : i = 16 := by omega
  rw [← hblk]
  refine c_seq <| c_reg <| s_kf (y_lss (p := ((16 : Nat) : Int)) (q := 16)) (by omega) <| s_nil <| q_then <| c_seq <| c_f <| c_exit <| q_ex <| q_ex <| q_exb <| q_then <| c_seq <| c_reg <| s_y y_mv <| s_y y_as <| s_nil <| q_then <| c_ret <| ?_
  exact ret1 Tryz.results158 rv_t fun w' hw => ⟨(a, cc), trivial, rfl, hw.sub (.cons_cons _ (List.nil_sublist _))⟩
end Go.Proofs.YtejdjnkilikehaaGreatDoor
end
section
namespace Eng
open Go Go.RowKit
section
variable {P : Program} {n : Nat} {D : List Deferred} {W : World} {Bo : List Nat} {F : List (Nat × Value)} {l : SH}
  {d : Option Tmp} {ty : TypeId} {ps : String} {af : Array Edge} {g : Option (Nat × Bool)} {x y : Operand} {ta tb : TypeId}
theorem y_min {p q : Int} (hx : evO F x = some (I p) := by rfl) (hy : evO F y = some (I q) := by rfl) : Y P n D W Bo ⟨d, .call ⟨.builtin .min, #[x, y], #[ta, tb]⟩, ty, ps, af, g⟩ F l (I (min p q)) :=
  y_b (vs := [I p, I q]) (by simp [evL, hx, hy]) fun w _ cs => by
    by_cases h : q < p
    · simp [builtin, Builtin.min_, Builtin.min2, h, Int.min_eq_right (Int.le_of_lt h)]
    · simp [builtin, Builtin.min_, Builtin.min2, h, Int.min_eq_left (Int.not_lt.1 h)]
end
end Eng
namespace Go.Proofs.YtejdjnkilikehaaGreatDoor
open Go Eng Sha Cha
set_option maxRecDepth 100000
theorem Clone_ok (w : World) (a : Option Addr) (c : Nat) (q : List UInt8) (hr : Rd w a (bs q)) (hl : q.length < 1000000000) (hne : a ≠ none) :
    Gives Tryz.prog 156 [.slice a q.length c] w [] (fun y : Option Addr × Nat => .slice y.1 q.length y.2) (fun y => [.row y.1 y.2 5 1 q.length (bs q)]) (fun y => y.1 ≠ none) := by
  have hn : a.isNone = false := by cases a with
    | none => exact absurd rfl hne
    | some _ => rfl
  refine enter Tryz.func156 Tryz.ntmps156 ?_
  refine c_seq <| c_reg <| s_y y_as <| s_nil <| q_then <| c_seq <| c_seq <| c_reg <| s_y y_mv <| s_y y_eqln <| ?_
  rw [hn]
  refine s_nil <| q_then <| c_f <| c_skip <| q_then <| c_seq <| c_reg <| s_bsl0 fun b5 => s_y y_mv <| s_app (m := q.length) (srcB (q := q) (rdW0 hr) rfl) (h1 := fun v hv => bs_one hv) (hm := .head _) (hrep := fun _ _ => .head _) fun a7 c7 h7 => ?_
  rw [List.nil_append, Nat.zero_add]
  refine s_y y_as <| s_nil <| q_then <| c_ret <| ?_
  exact ret1 Tryz.results156 rv_t fun w' hw => ⟨(a7, c7), (fun h => by cases (h7 h).1), rfl, hw⟩
theorem Clone_nil (w : World) (n c : Nat) : Pure Tryz.prog 156 [.slice none n c] w (.slice none 0 0) := by
  refine enter Tryz.func156 Tryz.ntmps156 ?_
  refine c_seq <| c_reg <| s_y y_as <| s_nil <| q_then <| c_seq <| c_seq <| c_reg <| s_y y_mv <| s_y y_eqln <| s_nil <| q_then <| c_t <| c_seq <| c_reg <| s_y y_as <| s_nil <| q_then <| c_ret <| q_ret <| ?_
  exact ret1 Tryz.results156 rv_t fun w' hw => ⟨rfl, hw⟩
theorem Chunk_ok (w : World) (a : Option Addr) (n c : Nat) : Gives Tryz.prog 157 [.slice a n c, I 64] w [] (fun y : Nat × Nat => .func (.func 207) #[] #[.pointer (some ⟨y.1, 0, none⟩), .pointer (some ⟨y.2, 0, none⟩)]) (fun y => [.blk y.2 (.cells #[I 64] 3 (0, 0)), .blk y.1 (.cells #[.slice a n c] 27 (0, 0))]) (fun _ => True) := by
  refine enter Tryz.func157 Tryz.ntmps157 ?_
  refine c_seq <| c_reg <| s_box rfl fun b2 => s_box rfl fun b3 => s_y y_as <| s_nil <| q_then <| c_seq <| c_seq <| c_reg <| s_y (y_ld (b := b3) (v := I 64)) <| s_kf (y_lss (p := 64) (q := 1)) (by omega) <| s_nil <| q_then <| c_f <| c_skip <| q_then <| c_seq <| c_reg <| s_y y_func <| s_y y_as <| s_nil <| q_then <| c_ret <| ?_
  exact ret1 Tryz.results157 rv_t fun w' hw => ⟨(b2, b3), trivial, rfl, hw⟩
def chl (n i : Nat) : Nat := min 64 (n - 64 * i)
theorem chunk1_ok (w' : World) (rc : Loop) (Lp b1 b2 : Nat) (pa : Option Addr) (n pc : Nat) (M : Nat → SH) (hs : ∀ p ∈ M 0, p.holds w') (hnd : (keys (M 0)).Nodup) (hpz : rc.params.size = 1)
    (hL : ∀ i, Res.blk Lp (.loop rc) ∈ M i) (h1 : ∀ i, Res.blk b1 (.cells #[.slice pa n pc] 27 (0, 0)) ∈ M i) (h2 : ∀ i, Res.blk b2 (.cells #[I 64] 3 (0, 0)) ∈ M i) (hn : n ≤ 1000000) (hnc : n ≤ pc)
    (hround : ∀ (i : Nat) (_ : 64 * i < n) (w2 : World), St w' (keys (M 0)) w2 (M i) →
      RoundIn (Fw none) 0 Tryz.prog Lp rc.fn ((rc.params.zip #[Value.slice (sa pa (64 * i) (64 * i + chl n i) 1) (chl n i) (chl n i)]).foldl (fun tmps (t, a) => tmps.setIfInBounds t a) rc.tmps) rc.assign rc.body w2 fun e' w3 => ∃ _ : Unit, True ∧ e' = .returned (.bool true) ∧ St w' (keys (M 0)) w3 (M (i + 1))) :
    Calls Tryz.prog 207 #[.func (.yield Lp) #[] #[], .pointer (some ⟨b1, 0, none⟩), .pointer (some ⟨b2, 0, none⟩)] w' fun e' w2 => (∃ v, e' = .returned v) ∧ ∃ i, n ≤ 64 * i ∧ St w' (keys (M 0)) w2 (M i) := by
  refine enterL (args := [.func (.yield Lp) #[] #[], .pointer (some ⟨b1, 0, none⟩), .pointer (some ⟨b2, 0, none⟩)]) Tryz.func207 Tryz.ntmps207 hs hnd ?_
  refine c_seq <| c_reg <| s_y y_as <| s_nil <| q_then <| c_block <| ?_
  refine c_loop (fun i : Nat => [(0, .func (.yield Lp) #[] #[]), (1, .pointer (some ⟨b1, 0, none⟩)), (2, .pointer (some ⟨b2, 0, none⟩)), (4, I (64 * i : Nat))]) M (fun i => 64 * i ≤ n + 63) (fun i => n + 64 - 64 * i) 0 (by omega) ⟨rfl, rfl, rfl, rfl, trivial⟩ (.refl _) ?_
  intro i hi
  by_cases hin : 64 * i < n
  · obtain ⟨ch, hch⟩ : ∃ ch, chl n i = ch := ⟨_, rfl⟩
    have hch' : min (64 : Int) ((n - 64 * i : Nat) : Int) = ((ch : Nat) : Int) := by rw [← hch]; unfold chl; omega
    have hch1 : 1 ≤ ch ∧ ch ≤ 64 ∧ 64 * i + ch ≤ n := by rw [← hch]; unfold chl; omega
    have hr9 := hround i hin
    rw [hch] at hr9
    refine c_seq <| c_seq <| c_reg <| s_y y_mv <| s_y (y_ld (b := b1) (hm := h1 _) (v := .slice pa n pc)) <| s_y y_len <| s_kt (y_lss (p := ((64 * i : Nat) : Int)) (q := ((n : Nat) : Int))) (by omega) <| s_nil <| q_then <| c_t <| c_skip <| q_then <| c_seq <| c_block <| c_seq <| c_regd <| d_y (y_ld (b := b2) (hm := h2 _) (v := I 64)) <| d_y (y_ld (b := b1) (hm := h1 _) (v := .slice pa n pc)) <| d_y y_mv <| d_y (y_sll (i := ((64 * i : Nat) : Int))) <| d_y y_len <| d_y (y_min (p := 64) (q := ((n - 64 * i : Nat) : Int))) <| ?_
    rw [hch']
    refine d_y y_as <| d_nil <| q_then <| c_seq <| c_reg <| s_y y_mv <| s_y (y_ld (b := b1) (hm := h1 _) (v := .slice pa n pc)) <| s_y y_mv <| s_y y_mv <| s_y y_mv <| s_y (y_add (p := ((64 * i : Nat) : Int)) (q := ((ch : Nat) : Int))) <| s_y y_mv <| s_y y_mv <| s_y (y_add (p := ((64 * i : Nat) : Int)) (q := ((ch : Nat) : Int))) <| ?_
    rw [show ((64 * i : Nat) : Int) + ((ch : Nat) : Int) = ((64 * i + ch : Nat) : Int) by omega]
    refine s_y (y_sllhm (i := ((64 * i : Nat) : Int)) (j := ((64 * i + ch : Nat) : Int)) (h := ((64 * i + ch : Nat) : Int))) <| ?_
    rw [Int.toNat_natCast, Int.toNat_natCast, show 64 * i + ch - 64 * i = ch by omega]
    refine s_yield (L := Lp) (rc := rc) (σ := Unit) (fun _ => .bool true) (fun _ => M (i + 1)) (fun _ => True) (hL _) hpz (fun w2 h2 => hr9 w2 h2) (fun _ _ => ?_)
    refine s_y (v := .bool false) (y_not (b := true)) <| s_nil <| q_then <| c_f <| c_skip <| q_nb <| q_then <| c_reg <| s_y y_mv <| s_y (y_ld (b := b2) (hm := h2 _) (v := I 64)) <| s_y (y_add (p := ((64 * i : Nat) : Int)) (q := 64)) <| s_y y_as <| s_nil <| ?_
    rw [show ((64 * i : Nat) : Int) + 64 = ((64 * (i + 1) : Nat) : Int) by omega]
    exact q_round (i + 1) (by omega) (by omega) ⟨rfl, rfl, rfl, rfl, trivial⟩ (.refl _)
  · refine c_seq <| c_seq <| c_reg <| s_y y_mv <| s_y (y_ld (b := b1) (hm := h1 _) (v := .slice pa n pc)) <| s_y y_len <| s_kf (y_lss (p := ((64 * i : Nat) : Int)) (q := ((n : Nat) : Int))) (by omega) <| s_nil <| q_then <| c_f <| c_exit <| q_ex <| q_ex <| q_exb <| ?_
    exact ret0 Tryz.results207 (fun w2 h2 => ⟨⟨_, rfl⟩, i, by omega, h2⟩) _ (.inr rfl)
end Go.Proofs.YtejdjnkilikehaaGreatDoor
end
section
namespace Eng
open Go Go.RowKit
section
variable {r : Option Nat} {P : Program} {n : Nat} {D : List Deferred} {W : World} {Bo : List Nat} {F : List (Nat × Value)} {l : SH} {Q : Exit → Act → World → Prop} {c : Code}
theorem c_gen {rc : Loop} (lx : Loop → SH) (h : ∀ rb, rb = rc → CP r P n D W Bo c Q F (lx rb)) : CP r P n D W Bo c Q F (lx rc) := h rc rfl
end
theorem Rd.none {W : World} {xs : List Value} (h : Rd W none xs) : xs = [] := by
  rcases h with h | ⟨b, off, cs, t, fz, e, _⟩
  · exact h
  · cases e
theorem rdO3 {W0 w : World} {l0 l : SH} (hs : St W0 [] w l0) {a : Option Addr} {xs : List Value} (h : Rd W0 a xs) : RdS w (keys l0) l a xs := fun w' hw => by
  by_cases hne : xs = []
  · rw [hne]; exact Rd.nil _ _
  · refine Rd.congr h fun b hb => ?_
    have h1 : b < W0.heap.size := h.lt hne hb
    rw [hw.old b (Nat.lt_of_lt_of_le h1 hs.size) ?_, hs.old b h1 (by simp)]
    intro hm
    obtain ⟨q, hq, hk⟩ := mem_keys.1 hm
    rcases (hs.own q hq).2 b hk with h2 | h2
    · omega
    · simp at h2
end Eng
namespace Cha
open Go Eng Sha
def cur (k n q : List UInt8) (t : Nat) : List UInt8 := (strm k n q).take t ++ q.drop t
theorem cur_length (k n q : List UInt8) (t : Nat) : (cur k n q t).length = q.length := by
  unfold cur; rw [List.length_append, List.length_take, List.length_drop, strm_length]; omega
theorem cur_all (k n q : List UInt8) {t : Nat} (h : q.length ≤ t) : cur k n q t = strm k n q := by
  unfold cur
  rw [List.take_of_length_le (by rw [strm_length]; exact h), List.drop_eq_nil_of_le h, List.append_nil]
theorem cur_get (k n q : List UInt8) {t : Nat} (h : t < q.length) : (cur k n q t).getD t 0 = q.getD t 0 := Go.Proofs.YtejdjnkilikehaaGreatDoor.mix_get (strm k n q) q 0 t h (strm_length k n q)
theorem cur_set (k n q : List UInt8) {t : Nat} (h : t < q.length) : (cur k n q t).set t (q.getD t 0 ^^^ ks k n t) = cur k n q (t + 1) :=
  Go.Proofs.YtejdjnkilikehaaGreatDoor.mix_set (strm k n q) q 0 _ t h (strm_length k n q) (strm_at k n q h)
theorem ks_in (k n : List UInt8) (i j : Nat) (h : j < 64) : ks k n (64 * i + j) = (blk k n (UInt32.ofNat (1 + i))).getD j 0 := by
  unfold ks
  rw [show (64 * i + j) / 64 = i by omega, show (64 * i + j) % 64 = j by omega]
theorem ofNat_succ (i : Nat) : UInt32.ofNat (1 + i) + 1 = UInt32.ofNat (1 + (i + 1)) := by
  apply UInt32.toNat_inj.1
  rw [UInt32.toNat_add, UInt32.toNat_ofNat', UInt32.toNat_ofNat']
  show ((1 + i) % 2 ^ 32 + 1) % 2 ^ 32 = (1 + (i + 1)) % 2 ^ 32
  omega
theorem bs_lset (q : List UInt8) (i : Nat) (x : UInt8) : (bs q).set i (B x) = bs (q.set i x) := by unfold bs; rw [List.map_set]
end Cha
namespace Go.Proofs.YtejdjnkilikehaaGreatDoor
open Go Eng Sha Cha
set_option maxRecDepth 100000
theorem Clone_any (w : World) (a : Option Addr) (c : Nat) (q : List UInt8) (hr : Rd w a (bs q)) (hl : q.length < 1000000000) :
    Gives Tryz.prog 156 [.slice a q.length c] w [] (fun y : Option Addr × Nat => .slice y.1 q.length y.2) (fun y => [.row y.1 y.2 5 1 q.length (bs q)]) (fun y => 0 < q.length → y.1 ≠ none) := by
  by_cases hne : a = none
  · subst hne
    have h1 : q.length = 0 := by have := hr.none; rw [← bs_length, this]; rfl
    obtain rfl : q = [] := List.length_eq_zero_iff.1 h1
    exact (Clone_nil w 0 c).mono fun e w' ⟨h1, h2⟩ => ⟨(none, 0), (fun h => absurd h (by decide)), h1, h2.nilRow _ _⟩
  · exact (Clone_ok w a c q hr hl hne).mono fun e w' ⟨y, h1, h2⟩ => ⟨y, (fun _ => h1), h2⟩
theorem c_Stream_ok (w : World) (a : Option Addr) (c : Nat) (k n q : List UInt8) (hg : LC w) (hk : k.length = 32) (hn : n.length = 12) (hr : Rd w a (bs q)) (hl : q.length ≤ 65536) :
    Gives Tryz.prog 88 [.agg (bs k).toArray, .agg (bs n).toArray, .slice a q.length c] w [] (fun y : Option Addr × Nat => .tuple #[.slice y.1 q.length y.2, I 0]) (fun y => [.row y.1 y.2 5 1 q.length (bs (strm k n q))]) (fun _ => True) := by
  refine enterM Tryz.func88 Tryz.ntmps88 ?_
  refine c_seq <| c_reg <| s_box rfl fun b3 => s_box rfl fun b4 => s_y y_as <| s_y y_as <| s_nil <| q_then <| c_seq <| c_seq <| c_reg <| s_y y_mv <| s_y y_len <| s_kf (y_gtr (p := ((q.length : Nat) : Int)) (q := 65536)) (by omega) <| s_nil <| q_then <| c_f <| c_skip <| q_then <| c_seq <| c_reg <| s_y y_mv <| s_gives (fun w' hw => Clone_any w' a c q (hr.st hw) (by omega)) (fun y hy => ?_)
  obtain ⟨a0, c0⟩ := y
  refine s_row (fun hkc _ => ?_) (hm := .head _)
  refine s_y y_as <| s_nil <| q_then <| c_seq <| c_reg <| s_alloc fun b8 => s_st (b := b8) (v := W32 (UInt32.ofNat (1 + 0))) (cs := #[.int .u32 0]) (hl := Nat.zero_lt_one) ?_
  refine s_nil <| q_then <| c_seq <| c_seq <| c_reg <| s_y y_mv <| s_gives (fun w' hw => Chunk_ok w' a0 q.length c0) (fun y _ => ?_)
  obtain ⟨b62, b63⟩ := y
  refine s_nil <| q_then <| c_block <| ?_
  let M : Nat → Loop → Nat → Nat → SH := fun i rc L Dk => [.blk L (.loop rc), .blk Dk (.deferred (some [])), .blk b63 (.cells #[I 64] 3 (0, 0)), .blk b62 (.cells #[.slice a0 q.length c0] 27 (0, 0)), .blk b8 (.cells #[W32 (UInt32.ofNat (1 + i))] 151 (0, 0)), .row a0 c0 5 1 q.length (bs (cur k n q (64 * i))), .blk b4 (.cells (bs n).toArray 65 (0, 0)), .blk b3 (.cells (bs k).toArray 24 (0, 0))]
  refine c_rangeN (σ := Nat) (fun i => [.blk b63 (.cells #[I 64] 3 (0, 0)), .blk b62 (.cells #[.slice a0 q.length c0] 27 (0, 0)), .blk b8 (.cells #[W32 (UInt32.ofNat (1 + i))] 151 (0, 0)), .row a0 c0 5 1 q.length (bs (cur k n q (64 * i))), .blk b4 (.cells (bs n).toArray 65 (0, 0)), .blk b3 (.cells (bs k).toArray 24 (0, 0))]) (fun i => q.length ≤ 64 * i) (fun fn tm Dk L hfr w' hw' => ?_) (fun Dk i hi => ?_)
  rotate_left
  · rw [cur_all k n q hi]
    refine q_nb <| q_then <| c_seq <| c_reg <| s_y y_mv <| s_y y_as <| s_y y_as <| s_nil <| q_then <| c_ret <| ?_
    exact ret2D Tryz.results88 (.head _) rv_t rv_t fun w' hw => ⟨(a0, c0), trivial, rfl, hw.sub (.cons _ (.cons _ (.cons _ (.cons _ (.cons_cons _ (List.nil_sublist _))))))⟩
  · have hps9 : ∀ rc, St w [] w' (M 0 rc L Dk) → St w [] w' (M 0 rc L Dk ++ []) := fun rc h => by rw [List.append_nil]; exact h
    have hps0 := (hps9 _ hw').has
    have hb := chunk1_ok w' _ L b62 b63 a0 q.length c0 (fun i => M i _ L Dk) hps0.1 hps0.2 rfl (fun i => .head _) (fun i => .tail _ (.tail _ (.tail _ (.head _)))) (fun i => .tail _ (.tail _ (.head _))) (by omega) hkc (fun i hi w2 h2 => ?_)
    · exact hb.mono fun e' w2 ⟨hv, i, hi, h2⟩ => ⟨hv, i, hi, by have h9 := hw'.transL (l2 := []) (by rw [List.append_nil] <;> exact .refl _) h2; rw [List.append_nil] at h9; exact h9⟩
    · obtain ⟨g, rfl⟩ : ∃ g, a0 = some ⟨g, 0, none⟩ := by
        have h5 := (h2.own (.row a0 c0 5 1 q.length (bs (cur k n q (64 * i)))) (.tail _ (.tail _ (.tail _ (.tail _ (.tail _ (.head _))))))).1
        obtain ⟨_, _, h6⟩ := h5
        rcases h6 with ⟨h7, _⟩ | ⟨g, cc, h7, _⟩
        · exact absurd h7 (hy (by omega))
        · exact ⟨g, h7⟩
      obtain ⟨ch, hch⟩ : ∃ ch, chl q.length i = ch := ⟨_, rfl⟩
      have hch1 : 1 ≤ ch ∧ ch ≤ 64 ∧ 64 * i + ch ≤ q.length ∧ (ch = 64 ∨ 64 * i + ch = q.length) := by rw [← hch]; unfold chl; omega
      rw [hch, sa_lt (by omega), Nat.zero_add, Nat.mul_one]
      have hf9 := (hfr []).put 19 (.slice (some ⟨g, 64 * i, none⟩) ch ch) rfl
      refine round_ok (F1 := [(3, .pointer (some ⟨b3, 0, none⟩)), (4, .pointer (some ⟨b4, 0, none⟩)), (8, .pointer (some ⟨b8, 0, none⟩)), (9, .slice (some ⟨g, 64 * i, none⟩) ch ch)]) h2 hf9 (by simp [Act.put]) (by rfl) (.head _) (l1 := M i _ L Dk) ?_ ?_
      · refine c_reg <| s_y y_as <| s_nil <| q_join ⟨rfl, rfl, rfl, rfl, trivial⟩ (List.Sublist.refl _)
      · refine c_gen (fun rb => [.blk L (.loop rb), .blk Dk (.deferred (some [])), .blk b63 (.cells #[I 64] 3 (0, 0)), .blk b62 (.cells #[.slice (some ⟨g, 0, none⟩) q.length c0] 27 (0, 0)), .blk b8 (.cells #[W32 (UInt32.ofNat (1 + i))] 151 (0, 0)), .row (some ⟨g, 0, none⟩) c0 5 1 q.length (bs (cur k n q (64 * i))), .blk b4 (.cells (bs n).toArray 65 (0, 0)), .blk b3 (.cells (bs k).toArray 24 (0, 0))]) fun rb hrb => ?_
        refine c_block <| c_seq <| c_seq <| c_reg <| s_y (y_lda (b := b3) (cs := (bs k).toArray) (hl := hzn hk)) <| s_y (y_lda (b := b4) (cs := (bs n).toArray) (hl := hzn hn)) <| s_y (y_ld (b := b8) (v := W32 (UInt32.ofNat (1 + i)))) <| s_gives (fun w3 h3 => c_block_ok w3 k n (UInt32.ofNat (1 + i)) ⟨⟨rdO3 hw' hg.1.1 w3 h3, rdO3 hw' hg.1.2 w3 h3⟩, rdO3 hw' hg.2 w3 h3⟩ hk hn) (fun y _ => ?_)
        obtain ⟨ya, yc⟩ := y
        have hbl := blk_length k n (UInt32.ofNat (1 + i))
        have hkin := fun j hj => ks_in k n i j hj
        obtain ⟨BL, hBL⟩ : ∃ BL, blk k n (UInt32.ofNat (1 + i)) = BL := ⟨_, rfl⟩
        rw [hBL] at hbl ⊢
        simp only [hBL] at hkin
        refine s_row (fun hyc _ => ?_) (hm := .head _)
        refine s_y y_mv <| s_y y_len <| s_y (y_slh (j := ((ch : Nat) : Int))) <| ?_
        rw [Int.toNat_natCast]
        refine s_y y_len <| s_y y_mv <| s_nil <| q_then <| c_block <| ?_
        refine c_loop (fun j : Nat => [(8, .pointer (some ⟨b8, 0, none⟩)), (9, .slice (some ⟨g, 64 * i, none⟩) ch ch), (26, .slice ya ch yc), (27, I ch), (28, I j)]) (fun j => [.row ya yc 5 1 64 (bs BL), .blk L (.loop rb), .blk Dk (.deferred (some [])), .blk b63 (.cells #[I 64] 3 (0, 0)), .blk b62 (.cells #[.slice (some ⟨g, 0, none⟩) q.length c0] 27 (0, 0)), .blk b8 (.cells #[W32 (UInt32.ofNat (1 + i))] 151 (0, 0)), .row (some ⟨g, 0, none⟩) c0 5 1 q.length (bs (cur k n q (64 * i + j))), .blk b4 (.cells (bs n).toArray 65 (0, 0)), .blk b3 (.cells (bs k).toArray 24 (0, 0))]) (fun j => j ≤ ch) (fun j => ch - j) 0 (Nat.zero_le _) ⟨rfl, rfl, rfl, rfl, rfl, trivial⟩ (.refl _) ?_
        intro j hj
        by_cases hjc : j < ch
        · have hcg := cur_get k n q (t := 64 * i + j) (by omega)
          have hcs := cur_set k n q (t := 64 * i + j) (by omega)
          have hcl := cur_length k n q (64 * i + j)
          have hkj := hkin j (by omega)
          rw [hkj] at hcs
          obtain ⟨CU, hCU⟩ : ∃ CU, cur k n q (64 * i + j) = CU := ⟨_, rfl⟩
          rw [hCU] at hcg hcs hcl ⊢
          have hrow : ∀ {l : SH}, Res.row (some ⟨g, 0, none⟩) c0 5 1 q.length (bs CU) ∈ l → RdS w' (keys (M 0 { state := .ready, pending := none, fn := fn, tmps := tm, params := #[19], assign := .skip, body := .skip, defers := Dk } L Dk)) l (some ⟨g, 64 * i, none⟩) (bs (CU.drop (64 * i))) := fun hm => by
            have h5 := (rdR (W := w') (Bo := keys (M 0 { state := .ready, pending := none, fn := fn, tmps := tm, params := #[19], assign := .skip, body := .skip, defers := Dk } L Dk)) hm).sa (i := 64 * i) (c := q.length) (s := 1) (by rw [bs_length]; omega)
            rw [sa_lt (by omega), Nat.mul_one, Nat.zero_add, ← bs_drop] at h5
            exact h5
          have hgd : (CU.drop (64 * i)).getD j 0 = q.getD (64 * i + j) 0 := by rw [getD_drop8, hcg]
          refine c_seq <| c_reg <| s_kt (y_lss (p := ((j : Nat) : Int)) (q := ((ch : Nat) : Int))) (by omega) <| s_nil <| q_then <| c_seq <| c_t <| c_skip <| q_then <| c_seq <| c_block <| c_seq <| c_reg <| s_y y_mv <| s_y (y_ixs1 (xs := bs BL) (i := ((j : Nat) : Int)) (hr := rdR (.head _)) (hl := by rw [bs_length]; omega)) <| s_y (y_ldb (q := BL) (i := j) (hr := rdR (.head _)) (hi := by omega)) <| s_y y_as <| s_y y_as <| s_nil <| q_then <| c_reg <| s_y y_mv <| s_y y_mv <| s_y (y_ixs1 (xs := bs (CU.drop (64 * i))) (i := ((j : Nat) : Int)) (hr := hrow (.tail _ (.tail _ (.tail _ (.tail _ (.tail _ (.tail _ (.head _)))))))) (hl := by rw [bs_length, List.length_drop]; omega)) <| s_y (y_ldb (q := CU.drop (64 * i)) (i := j) (hr := hrow (.tail _ (.tail _ (.tail _ (.tail _ (.tail _ (.tail _ (.head _)))))))) (hi := by rw [List.length_drop]; omega)) <| ?_
          rw [hgd]
          refine s_y y_mv <| s_y y_xor8 <| s_y (y_ixs1 (xs := bs (CU.drop (64 * i))) (i := ((j : Nat) : Int)) (hr := hrow (.tail _ (.tail _ (.tail _ (.tail _ (.tail _ (.tail _ (.head _)))))))) (hl := by rw [bs_length, List.length_drop]; omega)) <| ?_
          rw [show ad (some ⟨g, 64 * i, none⟩) ((j : Nat) : Int).toNat = ad (some ⟨g, 0, none⟩) (64 * i + j) by simp [ad]]
          refine s_str (a := some ⟨g, 0, none⟩) (i := 64 * i + j) (?_) (hi := by rw [bs_length]; omega)
          rw [bs_lset, hcs]
          refine s_nil <| q_nb <| q_then <| c_reg <| s_y (y_add (p := ((j : Nat) : Int)) (q := 1)) <| s_y y_mv <| s_nil <| ?_
          rw [show ((j : Nat) : Int) + 1 = ((j + 1 : Nat) : Int) by omega]
          exact q_round (j + 1) (by omega) (by omega) ⟨rfl, rfl, rfl, rfl, rfl, trivial⟩ (.refl _)
        · obtain rfl : j = ch := by omega
          have hnx : cur k n q (64 * i + j) = cur k n q (64 * (i + 1)) := by
            rcases hch1.2.2.2 with h5 | h5
            · rw [show 64 * i + j = 64 * (i + 1) by omega]
            · rw [cur_all k n q (show q.length ≤ 64 * i + j by omega), cur_all k n q (show q.length ≤ 64 * (i + 1) by omega)]
          rw [hnx]
          refine c_seq <| c_reg <| s_kf (y_lss (p := ((j : Nat) : Int)) (q := ((j : Nat) : Int))) (by omega) <| s_nil <| q_then <| c_seq <| c_f <| c_exit <| q_ex <| q_ex <| q_exb <| q_then <| c_reg <| s_y (y_ld (b := b8) (v := W32 (UInt32.ofNat (1 + i)))) <| s_y (y_add32 (p := UInt32.ofNat (1 + i)) (q := 1)) <| ?_
          rw [ofNat_succ]
          refine s_st (b := b8) (v := W32 (UInt32.ofNat (1 + (i + 1)))) (cs := #[W32 (UInt32.ofNat (1 + i))]) (hl := Nat.zero_lt_one) ?_
          subst hrb
          exact s_nil <| q_nb <| q_rn (.tail _ (.head _)) fun w3 h3 => ⟨(), trivial, rfl, h3.sub (.cons _ (.refl _))⟩
end Go.Proofs.YtejdjnkilikehaaGreatDoor
end
