/- The package schedule and its reference: ladders of path secrets. -/
import Derived.Test.YtmpjmjllfldjdaaDoorSchA
import Derived.Test.YtmpjmjllfldjdaaDoorRange
import Derived.Test.YtmpjmjllfldjdaaDoorPowX
namespace Eng
open Go Go.RowKit
section
variable {r : Option Nat} {P : Program} {n : Nat} {D : List Deferred} {W : World} {Bo : List Nat} {F F0 : List (Nat × Value)} {l : SH} {Q : Exit → Act → World → Prop} {c : Code}
/-- one round, in which memory may be made before the body -/
theorem round_okE {σ : Type} {F1 : σ → List (Nat × Value)} {l1 l2 : σ → SH} {tmps : Array Value} {ac : Act} {L : Nat} {rc : Loop} {R : Ending → World → Prop} {w : World} (hw : St W Bo w l) (hfr : Fr n F0 [] ac) (htm : { tmps := tmps, defers := [] } = ac)
    (hst : rc.state = .ready) (hL : ∀ x, Rep (.blk L (.loop rc)) (.blk L (.loop { rc with state := .busy })) (l1 x) (l2 x))
    (ha : CP (some L) P n [] W Bo rc.assign (Exit.then (fun a w => ∃ x, Fr n (F1 x) [] a ∧ St W Bo w (l1 x)) (fun _ _ _ => False)) F0 l)
    (hb : ∀ x, CP (some L) P n [] W Bo rc.body (roundPost P L R) (F1 x) (l2 x)) : RoundIn (Fw none) 0 P L rc.fn tmps rc.assign rc.body w R := by
  refine roundIn_of_wpIn (Fw_fn _ _) ?_
  rw [htm]
  refine wpIn_mono (ha _ w hfr hw) ?_
  intro e a1 w1 q
  cases e with
  | normal => obtain ⟨x, q1, q2⟩ := q; exact ⟨_, run_beginRound (q2.own _ (hL x).mem).1 hst, hb x _ _ q1 (q2.putObj (hL x))⟩
  | exit id => exact q
  | goto l => exact q
  | ret => exact q
  | panic ch => exact q
  | outgrown => exact q
theorem q_joinE {σ : Type} {F1 : σ → List (Nat × Value)} {l1 : σ → SH} (x : σ) (hs : Sub F (F1 x)) (hl : (l1 x).Sublist l) : QP n D W Bo (Exit.then (fun a w => ∃ x, Fr n (F1 x) D a ∧ St W Bo w (l1 x)) Q) .normal F l := fun _ _ ha hw => ⟨x, ha.weaken hs, hw.sub hl⟩
/-- memory known in another order -/
theorem c_permE {r : Option Nat} {l' : SH} (hp : ∀ w, St W Bo w l → St W Bo w l') (h : CP r P n D W Bo c Q F l') : CP r P n D W Bo c Q F l := fun a w ha hw => h a w ha (hp w hw)
/-- a function that takes over parts, and holds loops over functions -/
theorem enterML {k : FuncId} {fn : Func} {args : List Value} {R : Ending → World → Prop} {ps : SH} (hf : P.funcs[k]? = some fn) (hn : fn.ntmps = n) (hp : ∀ p ∈ ps, p.holds W) (hnd : (keys ps).Nodup)
    (h : CP none P n [] W (keys ps) c (bodyPostM (Fw none) 0 P fn R) (argsF 0 args) ps)
    (hb : fn.body = some c := by rfl) (hle : Nat.ble args.length n = true := by rfl) : Calls P k args.toArray W R := by
  refine (callsIn_wide (n := 0)).1 ?_
  refine callsIn_of_wp_marks hf hb trivial ?_
  have hle' := Nat.le_of_ble_eq_true hle
  refine h _ W ⟨by simp; omega, rfl, ?_⟩ (St.borrowL hp hnd)
  intro t v ht
  have := (argsF_look args 0 t v ht).2
  simp only [Nat.sub_zero] at this
  have hlt : t < args.length := by
    rcases Nat.lt_or_ge t args.length with h1 | h1
    · exact h1
    · rw [List.getElem?_eq_none h1] at this; cases this
  rw [Array.getElem?_append_left (by simpa using hlt)]
  simpa using this
end
end Eng
namespace Go.Proofs.YtmpjmjllfldjdaaDoor
open Go Eng Sha Cod

/-- path secrets -/
def pathN (k : List UInt8) : Nat → List UInt8
  | 0 => k
  | n + 1 => expand (pathN k n) lbPath []
theorem pathN_length {k : List UInt8} (h : k.length = 32) (n : Nat) : (pathN k n).length = 32 := by cases n with | zero => exact h | succ n => exact expand_length _ _ _
theorem pathN_add (k : List UInt8) (m n : Nat) : pathN (pathN k m) n = pathN k (m + n) := by
  induction n with
  | zero => rfl
  | succ n ih => show expand (pathN (pathN k m) n) lbPath [] = expand (pathN k (m + n)) lbPath []; rw [ih]
def rungs (k : List UInt8) (m : Nat) : List (List UInt8) := (List.range m).map (pathN k)
theorem rungs_succ (k : List UInt8) (m : Nat) : rungs k m ++ [pathN k m] = rungs k (m + 1) := by simp [rungs, List.range_succ]
theorem rungs_length (k : List UInt8) (m : Nat) : (rungs k m).length = m := by simp [rungs]
theorem rungs_32 {k : List UInt8} (h : k.length = 32) (m : Nat) : K32 (rungs k m) := fun x hx => by
  obtain ⟨i, _, rfl⟩ := List.mem_map.1 hx
  exact pathN_length h i
theorem rungs_get (k : List UInt8) {m i : Nat} (h : i < m) : (rungs k m).getD i [] = pathN k i := by
  rw [List.getD_eq_getElem?_getD, rungs, List.getElem?_map, List.getElem?_range h]; rfl
theorem rungs_drop (k : List UInt8) (m i : Nat) : (rungs k m).drop i = rungs (pathN k i) (m - i) := by
  apply List.ext_getElem
  · simp [rungs]
  · intro j h1 h2
    simp [rungs, pathN_add]
def aboveL (k : List UInt8) (n : Int) : List (List UInt8) := if n < 0 then [] else if 9 < n then [] else rungs k (10 - n.toNat)
def aboveE (n : Int) : Int := if n < 0 then 1 else if 9 < n then 1 else 0
theorem aboveL_32 {k : List UInt8} (h : k.length = 32) (n : Int) : K32 (aboveL k n) := by
  unfold aboveL; split
  · exact K32.nil
  · split
    · exact K32.nil
    · exact rungs_32 h _

theorem aboveL_le (k : List UInt8) (n : Int) : (aboveL k n).length ≤ 1000000000 := by
  unfold aboveL
  split
  · simp
  · split
    · simp
    · rw [rungs_length]; omega
theorem aboveL_bad (k : List UInt8) {n : Int} (h : n < 0 ∨ 9 < n) : aboveL k n = [] := by
  unfold aboveL
  rcases h with h | h
  · rw [if_pos h]
  · rw [if_neg (by omega), if_pos h]
theorem aboveE_bad {n : Int} (h : n < 0 ∨ 9 < n) : aboveE n = 1 := by
  unfold aboveE
  rcases h with h | h
  · rw [if_pos h]
  · rw [if_neg (by omega), if_pos h]
theorem rising_ok (w : World) (k : List UInt8) (n : Int) : Gives Tryd.prog 34 [.agg (bs k).toArray, I n] w [] (fun x : Nat × Nat => .func (.func 49) #[] #[.pointer (some ⟨x.1, 0, none⟩), .pointer (some ⟨x.2, 0, none⟩)]) (fun x => [.blk x.1 (.cells #[I n] 3 (0, 0)), .blk x.2 (.cells (bs k).toArray 23 (0, 0))]) (fun _ => True) := by
  refine enter Tryd.func34 Tryd.ntmps34 ?_
  refine c_seq <| c_reg <| s_box rfl fun b2 => s_box rfl fun b3 => s_y y_as <| s_nil <| q_then <| c_seq <| c_reg <| s_y y_func <| s_y y_as <| s_nil <| q_then <| c_ret <| ?_
  exact ret1 Tryd.results34 rv_t fun w' hw => ⟨(b3, b2), trivial, rfl, hw⟩

/-- memory between two rounds -/
def rsM (L Dk : Nat) (rc : Loop) (bl bk bo : Nat) (n : Int) (key : List UInt8) (a : Option Addr) (c : Nat) (ks : List (List UInt8)) : SH :=
  [.blk L (.loop rc), .blk Dk (.deferred (some [])), .row a c 23 32 ks.length (kcs ks), .blk bl (.cells #[I n] 3 (0, 0)), .blk bk (.cells (bs key).toArray 23 (0, 0)), .blk bo (.cells #[.slice a ks.length c] 25 (0, 0))]

theorem rising1_ok (w' : World) (rc : Loop) (L Dk bl bk bo n : Nat) (k : List UInt8) (hk : k.length = 32) (hn : n ≤ 10)
    (hs : ∀ p ∈ rsM L Dk rc bl bk bo n k none 0 [], p.holds w') (hnd : (keys (rsM L Dk rc bl bk bo n k none 0 [])).Nodup) (hpz : rc.params.size = 1)
    (hLS : ∀ w2 l2, St w' (keys (rsM L Dk rc bl bk bo n k none 0 [])) w2 l2 → LS w2)
    (hround : ∀ (j : Int) (key : List UInt8) (a : Option Addr) (c : Nat) (ks : List (List UInt8)) (w2 : World), key.length = 32 → K32 ks → ks.length ≤ 9 → St w' (keys (rsM L Dk rc bl bk bo n k none 0 [])) w2 (rsM L Dk rc bl bk bo j key a c ks) →
      RoundIn (Fw none) 0 Tryd.prog L rc.fn ((rc.params.zip #[.agg (bs key).toArray]).foldl (fun tmps (t, a) => tmps.setIfInBounds t a) rc.tmps) rc.assign rc.body w2 fun e w3 => ∃ x : Option Addr × Nat, True ∧ e = .returned (.bool true) ∧ St w' (keys (rsM L Dk rc bl bk bo n k none 0 [])) w3 (rsM L Dk { rc with state := .ready, pending := none } bl bk bo j key x.1 x.2 (ks ++ [key])))
    (hrdy : rc = { rc with state := .ready, pending := none } := by rfl) :
    Calls Tryd.prog 49 #[.func (.yield L) #[] #[], .pointer (some ⟨bl, 0, none⟩), .pointer (some ⟨bk, 0, none⟩)] w' fun e w2 => (∃ v, e = .returned v) ∧ ∃ x : Option Addr × Nat, St w' (keys (rsM L Dk rc bl bk bo n k none 0 [])) w2 (rsM L Dk rc bl bk bo 10 (pathN k (10 - n)) x.1 x.2 (rungs k (10 - n))) := by
  refine enterL (args := [.func (.yield L) #[] #[], .pointer (some ⟨bl, 0, none⟩), .pointer (some ⟨bk, 0, none⟩)]) Tryd.func49 Tryd.ntmps49 hs hnd ?_
  obtain ⟨bo', hbo⟩ : ∃ bo', bo' = keys (rsM L Dk rc bl bk bo n k none 0 []) := ⟨_, rfl⟩
  rw [← hbo] at hround hLS ⊢
  refine c_block <| c_loop3 (fun (_ : Nat) (_ : Option Addr) (_ : Nat) => [(0, .func (.yield L) #[] #[]), (1, .pointer (some ⟨bl, 0, none⟩)), (2, .pointer (some ⟨bk, 0, none⟩))]) (fun j a c => rsM L Dk rc bl bk bo ((n + j : Nat) : Int) (pathN k j) a c (rungs k j)) (fun j _ _ => n + j ≤ 10) (fun j _ _ => 10 - j) 0 none 0 (by omega) ⟨rfl, rfl, rfl, trivial⟩ (.refl _) ?_
  intro j a c hj
  refine c_seq <| c_seq <| c_reg <| s_y (y_ld (b := bl) (v := I ((n + j : Nat) : Int))) <| s_y (y_leq (p := ((n + j : Nat) : Int)) (q := 9)) <| s_nil <| q_then <| c_ifd (fun h5 => ?_) (fun h5 => ?_)
  · refine c_skip <| q_then <| c_seq <| c_block <| c_seq <| c_seq <| c_reg <| s_y y_mv <| s_y (y_lda (b := bk) (cs := (bs (pathN k j)).toArray) (hl := hz32 (pathN_length hk j))) <| ?_
    refine s_yield (L := L) (rc := rc) (σ := Option Addr × Nat) (fun _ => .bool true) (fun x => rsM L Dk { rc with state := .ready, pending := none } bl bk bo ((n + j : Nat) : Int) (pathN k j) x.1 x.2 (rungs k j ++ [pathN k j])) (fun _ => True) (.head _) hpz (fun w2 h2 => hround _ _ _ _ _ w2 (pathN_length hk j) (rungs_32 hk j) (by rw [rungs_length]; omega) h2) (fun x _ => ?_)
    rw [← hrdy, rungs_succ]
    refine s_y (v := .bool false) (y_not (b := true)) <| s_nil <| q_then <| c_f <| c_skip <| q_then <| c_reg <| s_y (y_lda (b := bk) (cs := (bs (pathN k j)).toArray) (hl := hz32 (pathN_length hk j))) <| s_pure (fun w2 h2 => derive_Expand_ok w2 (pathN k j) lbPath none 0 [] (hLS _ _ h2) (pathN_length hk j) (Rd.nil _ _) (by simp) (by decide) (by simp)) <| s_sta (b := bk) (vs := (bs (pathN k (j + 1))).toArray) (cs := (bs (pathN k j)).toArray) (h1 := fun v hv => bs_one (by simpa using hv)) (hl := by rw [hz32 (pathN_length hk (j + 1)), hz32 (pathN_length hk j)]) (hs1 := hz32 (pathN_length hk (j + 1))) ?_
    refine s_nil <| q_nb <| q_then <| c_reg <| s_y (y_ld (b := bl) (v := I ((n + j : Nat) : Int))) <| s_y (y_add (p := ((n + j : Nat) : Int)) (q := 1)) <| ?_
    rw [show ((n + j : Nat) : Int) + 1 = ((n + (j + 1) : Nat) : Int) by omega]
    refine s_st (b := bl) (v := I ((n + (j + 1) : Nat) : Int)) (cs := #[I ((n + j : Nat) : Int)]) (hl := Nat.zero_lt_one) ?_
    refine s_nil <| q_round3 (x := j) (y := a) (z := c) (j + 1) x.1 x.2 (by omega) (by omega) ⟨rfl, rfl, rfl, trivial⟩ (.refl _)
  · obtain rfl : j = 10 - n := by omega
    have e : n + (10 - n) = 10 := by omega
    rw [e]
    refine c_exit <| q_ex <| q_ex <| q_exb <| ?_
    exact ret0 Tryd.results49 (fun w2 h2 => ⟨⟨_, rfl⟩, (a, c), h2⟩) _ (.inr rfl)
end Go.Proofs.YtmpjmjllfldjdaaDoor
