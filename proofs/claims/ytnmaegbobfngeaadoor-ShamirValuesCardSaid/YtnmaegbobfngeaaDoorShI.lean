/- Values of polynomials, in the program. -/
import Derived.Test.YtnmaegbobfngeaaDoorShH
namespace Gf
open Go Eng
/-- the value of a polynomial, from the highest coefficient on -/
def hor (cs : List Nat) (x : Nat) : Nat := cs.foldr (fun a y => (y * x % 2305843009213688669 + a) % 2305843009213688669) 0
theorem hor_lt (cs : List Nat) (x : Nat) : hor cs x < 2305843009213688669 := by
  cases cs with
  | nil => exact Nat.zero_lt_succ _
  | cons a cs => exact Nat.mod_lt _ (by decide)
theorem hor_drop (cs : List Nat) (x i : Nat) (h : i < cs.length) : hor (cs.drop i) x = (hor (cs.drop (i + 1)) x * x % 2305843009213688669 + cs.getD i 0) % 2305843009213688669 := by
  rw [List.drop_eq_getElem_cons h, List.getD_eq_getElem?_getD, List.getElem?_eq_getElem h]; rfl
theorem any_sc (cs : List Nat) (h : ∀ a ∈ cs, a < 2305843009213688669) : ((ni cs).any fun n => !sc n) = false := by
  rw [List.any_eq_false]
  intro n hn
  obtain ⟨a, ha, rfl⟩ := List.mem_map.1 hn
  rw [sc_of (h a ha)]; decide
end Gf
namespace Go.Proofs.YtnmaegbobfngeaaDoor
open Go Eng Gf
set_option maxRecDepth 100000
theorem Backward_ok (w : World) (pa : Option Addr) (n pc : Nat) : Gives Tryd.prog 47 [.slice pa n pc] w [] (fun y : Nat => .func (.func 69) #[] #[.pointer (some ⟨y, 0, none⟩)]) (fun y => [.blk y (.cells #[.slice pa n pc] 49 (0, 0))]) (fun _ => True) := by
  refine enter Tryd.func47 Tryd.ntmps47 ?_
  refine c_seq <| c_reg <| s_box rfl fun b1 => s_y y_as <| s_nil <| q_then <| c_seq <| c_reg <| s_y y_func <| s_y y_as <| s_nil <| q_then <| c_ret <| ?_
  exact ret1 Tryd.results47 rv_t fun w' hw => ⟨b1, trivial, rfl, hw⟩
theorem backward1_ok (w' : World) (rc : Loop) (Lp b1 : Nat) (pa : Option Addr) (pc : Nat) (q : List Int) (M : Nat → SH) (hs : ∀ p ∈ M q.length, p.holds w') (hnd : (keys (M q.length)).Nodup) (hpz : rc.params.size = 2)
    (hL : ∀ i, Res.blk Lp (.loop rc) ∈ M i) (h1 : ∀ i, Res.blk b1 (.cells #[.slice pa q.length pc] 49 (0, 0)) ∈ M i) (hrd : ∀ i, RdS w' (keys (M q.length)) (M i) pa (is q)) (hl : q.length ≤ 1000000)
    (hround : ∀ (i : Nat) (_ : i < q.length) (w2 : World), St w' (keys (M q.length)) w2 (M (i + 1)) →
      RoundIn (Fw none) 0 Tryd.prog Lp rc.fn ((rc.params.zip #[I i, I (q.getD i 0)]).foldl (fun tmps (t, a) => tmps.setIfInBounds t a) rc.tmps) rc.assign rc.body w2 fun e' w3 => ∃ _ : Unit, True ∧ e' = .returned (.bool true) ∧ St w' (keys (M q.length)) w3 (M i)) :
    Calls Tryd.prog 69 #[.func (.yield Lp) #[] #[], .pointer (some ⟨b1, 0, none⟩)] w' fun e' w2 => (∃ v, e' = .returned v) ∧ St w' (keys (M q.length)) w2 (M 0) := by
  refine enterL (args := [.func (.yield Lp) #[] #[], .pointer (some ⟨b1, 0, none⟩)]) Tryd.func69 Tryd.ntmps69 hs hnd ?_
  refine c_seq <| c_reg <| s_y (y_ld (b := b1) (hm := h1 _) (v := .slice pa q.length pc)) <| s_y y_len <| s_y (y_sub (p := ((q.length : Nat) : Int)) (q := 1)) <| s_y y_as <| s_nil <| q_then <| c_block <| ?_
  refine c_loop (fun j : Nat => [(0, .func (.yield Lp) #[] #[]), (1, .pointer (some ⟨b1, 0, none⟩)), (3, I ((j : Int) - 1))]) M (fun j => j ≤ q.length) (fun j => j) q.length (Nat.le_refl _) ⟨rfl, rfl, rfl, trivial⟩ (.refl _) ?_
  intro j hj
  by_cases h0 : j = 0
  · subst h0
    refine c_seq <| c_seq <| c_reg <| s_y y_mv <| s_kf (y_geq (p := ((0 : Nat) : Int) - 1) (q := 0)) (by omega) <| s_nil <| q_then <| c_f <| c_exit <| q_ex <| q_ex <| q_exb <| ?_
    exact ret0 Tryd.results69 (fun w2 h2 => ⟨⟨_, rfl⟩, h2⟩) _ (.inr rfl)
  · obtain ⟨i, rfl⟩ : ∃ i, j = i + 1 := ⟨j - 1, by omega⟩
    rw [show ((i + 1 : Nat) : Int) - 1 = ((i : Nat) : Int) by omega]
    refine c_seq <| c_seq <| c_reg <| s_y y_mv <| s_kt (y_geq (p := ((i : Nat) : Int)) (q := 0)) (by omega) <| s_nil <| q_then <| c_t <| c_skip <| q_then <| c_seq <| c_block <| c_seq <| c_reg <| s_y y_mv <| s_y y_mv <| s_y (y_ld (b := b1) (hm := h1 _) (v := .slice pa q.length pc)) <| s_y y_mv <| s_y (y_ixs1 (xs := is q) (hr := hrd _) (hl := by rw [is_length]; omega)) <| s_y (y_ldi (i := i) (q := q) (hr := hrd _) (hi := by omega)) <| ?_
    refine s_yield2 (L := Lp) (rc := rc) (σ := Unit) (fun _ => .bool true) (fun _ => M i) (fun _ => True) (hL _) hpz (fun w2 h2 => hround i (by omega) w2 h2) (fun _ _ => ?_)
    refine s_y (v := .bool false) (y_not (b := true)) <| s_nil <| q_then <| c_f <| c_skip <| q_nb <| q_then <| c_reg <| s_y y_mv <| s_y (y_sub (p := ((i : Nat) : Int)) (q := 1)) <| s_y y_as <| s_nil <| ?_
    exact q_round i (by omega) (by omega) ⟨rfl, rfl, rfl, trivial⟩ (.refl _)
theorem f_Eval_yes (w : World) (a : Option Addr) (c : Nat) (cs : List Nat) (x : Nat) (hr : Rd w a (is (ni cs))) (hl : cs.length ≤ 1000000) (hcs : ∀ b ∈ cs, b < 2305843009213688669) (hx : x < 2305843009213688669) :
    Pure Tryd.prog 28 [.slice a cs.length c, I x] w (.tuple #[I (hor cs x : Nat), I 0]) := by
  have hnl := ni_length cs
  refine enterM Tryd.func28 Tryd.ntmps28 ?_
  refine c_seq <| c_reg <| s_box rfl fun b3 => s_alloc fun b4 => s_y y_as <| s_nil <| q_then <| c_seq <| c_seq <| c_reg <| s_y (y_ld (b := b3) (v := I x)) <| s_bslr (cs := is [(x : Int)]) fun b9 => s_pure (fun w' hw => (by have h9 := f_outside_ok w' (some ⟨b9, 0, none⟩) 1 [(x : Int)] (rdR (.head _) w' hw) (by simp); rw [show ([(x : Int)].any fun n => !sc n) = false by simp [sc_of hx]] at h9; exact h9)) <| s_y y_mv <| s_y y_mv <| s_pure (fun w' hw => (by have h9 := f_outside_ok w' a c (ni cs) (hr.st hw) (by rw [hnl]; omega); rw [any_sc cs hcs, hnl] at h9; exact h9)) <| s_y y_pk <| s_nil <| q_then <| c_f <| c_skip <| q_then <| ?_
  refine c_seq <| c_seq <| c_reg <| s_y y_mv <| s_gives (fun w' hw => Backward_ok w' a cs.length c) (fun b1 _ => s_nil <| q_then <| c_block <| ?_)
  let M : Nat → Loop → Nat → Nat → SH := fun i rc L Dk => [.blk L (.loop rc), .blk Dk (.deferred (some [])), .blk b1 (.cells #[.slice a cs.length c] 49 (0, 0)), .row (some ⟨b9, 0, none⟩) 1 3 1 1 (is [(x : Int)]), .blk b4 (.cells #[I (hor (cs.drop i) x : Nat)] 3 (0, 0)), .blk b3 (.cells #[I x] 3 (0, 0))]
  have hdl : hor (cs.drop cs.length) x = 0 := by rw [List.drop_length]; rfl
  refine c_rangeN (σ := Unit) (fun _ => [.blk b1 (.cells #[.slice a cs.length c] 49 (0, 0)), .row (some ⟨b9, 0, none⟩) 1 3 1 1 (is [(x : Int)]), .blk b4 (.cells #[I (hor cs x : Nat)] 3 (0, 0)), .blk b3 (.cells #[I x] 3 (0, 0))]) (fun _ => True) (fun fn tm Dk L hfr w' hw' => ?_) (fun Dk _ _ => ?_)
  rotate_left
  · refine q_nb <| q_then <| c_seq <| c_reg <| s_y (y_ld (b := b4) (v := I (hor cs x : Nat))) <| s_st (b := b4) (v := I (hor cs x : Nat)) (cs := #[I (hor cs x : Nat)]) (hl := Nat.zero_lt_one) ?_
    refine s_y y_as <| s_nil <| q_then <| c_ret <| ?_
    exact ret2D Tryd.results28 (.head _) (rv_cf (b := b4) (v := I (hor cs x : Nat))) rv_t fun w' hw => ⟨rfl, hw.sub (List.nil_sublist _)⟩
  · have hstart : ∀ rc, M cs.length rc L Dk = [.blk L (.loop rc), .blk Dk (.deferred (some [])), .blk b1 (.cells #[.slice a cs.length c] 49 (0, 0)), .row (some ⟨b9, 0, none⟩) 1 3 1 1 (is [(x : Int)]), .blk b4 (.cells #[I 0] 3 (0, 0)), .blk b3 (.cells #[I x] 3 (0, 0))] := fun rc => by
      show [_, _, _, _, _, _] = _
      rw [hdl]; rfl
    have cvt : ∀ rc, St w [] w' [.blk L (.loop rc), .blk Dk (.deferred (some [])), .blk b1 (.cells #[.slice a cs.length c] 49 (0, 0)), .row (some ⟨b9, 0, none⟩) 1 3 1 1 (is [(x : Int)]), .blk b4 (.cells #[I 0] 3 (0, 0)), .blk b3 (.cells #[I x] 3 (0, 0))] → St w [] w' (M cs.length rc L Dk) := fun rc h => by rw [hstart]; exact h
    have hw2 := cvt _ hw'
    have hps9 : ∀ rc, St w [] w' (M cs.length rc L Dk) → St w [] w' (M (ni cs).length rc L Dk ++ []) := fun rc h => by rw [List.append_nil, hnl]; exact h
    have hps0 := (hps9 _ hw2).has
    have hb := backward1_ok w' _ L b1 a c (ni cs) (fun i => M i _ L Dk) hps0.1 hps0.2 rfl (fun i => .head _) (fun i => by rw [hnl]; exact .tail _ (.tail _ (.head _))) (fun i => by rw [hnl]; exact rdOL hw2 hr) (by rw [hnl]; exact hl) (fun i hi w2 h2 => ?_)
    · rw [hnl] at hb
      refine hb.mono fun e' w2 ⟨hv, h2⟩ => ⟨hv, (), trivial, by have h9 := hw2.transL (l2 := []) (by rw [List.append_nil] <;> exact .refl _) h2; rw [List.append_nil] at h9; exact h9⟩
    · rw [hnl] at hi h2 ⊢
      rw [ni_get]
      obtain ⟨b, hb⟩ : ∃ b, cs.getD i 0 = b := ⟨_, rfl⟩
      have hbq : b < 2305843009213688669 := by
        rw [← hb, List.getD_eq_getElem?_getD, List.getElem?_eq_getElem hi]; exact hcs _ (List.getElem_mem hi)
      have hst := hor_drop cs x i hi
      rw [hb] at hst ⊢
      have hyq := hor_lt (cs.drop (i + 1)) x
      have hf9 := ((hfr []).put 17 (I (i : Int)) rfl).put 18 (I (b : Int)) rfl
      refine round_ok (F1 := [(3, .pointer (some ⟨b3, 0, none⟩)), (4, .pointer (some ⟨b4, 0, none⟩)), (7, I b)]) h2 hf9 (by simp [Act.put]) (by rfl) (.head _) (l1 := M (i + 1) _ L Dk) ?_ ?_
      · refine c_reg <| s_y y_as <| s_nil <| q_join ⟨rfl, rfl, rfl, trivial⟩ (List.Sublist.refl _)
      · refine c_block <| c_reg <| s_y (y_ld (b := b4) (v := I (hor (cs.drop (i + 1)) x : Nat))) <| s_y (y_ld (b := b3) (v := I x)) <| s_pure (fun w3 h3 => f_product_ok w3 (hor (cs.drop (i + 1)) x) x hyq hx) <| s_y y_mv <| s_y (y_add (p := ((hor (cs.drop (i + 1)) x * x % 2305843009213688669 : Nat) : Int)) (q := (b : Int))) <| s_y (y_rem (p := ((hor (cs.drop (i + 1)) x * x % 2305843009213688669 : Nat) : Int) + (b : Int)) (q := 2305843009213688669)) <| ?_
        rw [show (((hor (cs.drop (i + 1)) x * x % 2305843009213688669 : Nat) : Int) + (b : Int)) % 2305843009213688669 = ((hor (cs.drop i) x : Nat) : Int) by rw [hst]; omega]
        refine s_st (b := b4) (v := I (hor (cs.drop i) x : Nat)) (cs := #[I (hor (cs.drop (i + 1)) x : Nat)]) (hl := Nat.zero_lt_one) ?_
        exact s_nil <| q_nb <| q_rn (.head _) fun w3 h3 => ⟨(), trivial, rfl, h3⟩
end Go.Proofs.YtnmaegbobfngeaaDoor
