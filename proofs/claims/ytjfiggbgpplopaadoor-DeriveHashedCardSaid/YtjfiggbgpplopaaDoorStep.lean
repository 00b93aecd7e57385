/- Steps along the chain. -/
import Derived.Test.YtjfiggbgpplopaaDoorRange
import Derived.Test.YtjfiggbgpplopaaDoorScalX
namespace Go.Proofs.YtjfiggbgpplopaaDoor
open Go Eng Sha Cod

theorem derive_chain_ok (w : World) (k : List UInt8) : Gives Tryd.prog 29 [.agg (bs k).toArray] w [] (fun b : Nat => .func (.func 49) #[] #[.pointer (some ⟨b, 0, none⟩)]) (fun b => [.blk b (.cells (bs k).toArray 23 (0, 0))]) (fun _ => True) := by
  refine enter Tryd.func29 Tryd.ntmps29 ?_
  refine c_seq <| c_reg <| s_box rfl fun b1 => s_y y_as <| s_nil <| q_then <| c_seq <| c_reg <| s_y y_func <| s_y y_as <| s_nil <| q_then <| c_ret <| ?_
  exact ret1 Tryd.results29 rv_t fun w' hw => ⟨b1, trivial, rfl, hw⟩

abbrev zk : Array Value := (List.replicate 32 (.int .u8 0)).toArray
/-- memory between two rounds, and behind the last -/
def stM (b4 b3 b2 b1 : Nat) (key box : List UInt8) (acc : Array Value) (m : Int) : SH :=
  [.blk b1 (.cells (bs box).toArray 23 (0, 0)), .blk b4 (.cells acc 23 (0, 0)), .blk b3 (.cells #[I m] 3 (0, 0)), .blk b2 (.cells (bs key).toArray 23 (0, 0))]

theorem chain1_ok (w' : World) (rc : Loop) (L Dk b4 b3 b2 b1 : Nat) (k : List UInt8) (m : Nat) (hk : k.length = 32)
    (hs : ∀ p ∈ .blk L (.loop rc) :: .blk Dk (.deferred (some [])) :: stM b4 b3 b2 b1 k k zk m, p.holds w') (hnd : (keys (.blk L (.loop rc) :: .blk Dk (.deferred (some [])) :: stM b4 b3 b2 b1 k k zk m)).Nodup) (hpz : rc.params.size = 1)
    (hLS : ∀ w2 l2, St w' (keys (.blk L (.loop rc) :: .blk Dk (.deferred (some [])) :: stM b4 b3 b2 b1 k k zk m)) w2 l2 → LS w2)
    (hround : ∀ (j : Nat) (acc : Array Value) (w2 : World), j ≤ m → acc.size = 32 → St w' (keys (.blk L (.loop rc) :: .blk Dk (.deferred (some [])) :: stM b4 b3 b2 b1 k k zk m)) w2 (.blk L (.loop rc) :: .blk Dk (.deferred (some [])) :: stM b4 b3 b2 b1 k (stepN k j) acc ((m : Int) - j)) →
      RoundIn (Fw none) 0 Tryd.prog L rc.fn ((rc.params.zip #[.agg (bs (stepN k j)).toArray]).foldl (fun tmps (t, a) => tmps.setIfInBounds t a) rc.tmps) rc.assign rc.body w2 fun e w3 => ∃ x : Bool, (match x with | true => j < m | false => j = m) ∧ e = .returned (.bool x) ∧ St w' (keys (.blk L (.loop rc) :: .blk Dk (.deferred (some [])) :: stM b4 b3 b2 b1 k k zk m)) w3
        (match x with | true => .blk L (.loop { rc with state := .ready, pending := none }) :: .blk Dk (.deferred (some [])) :: stM b4 b3 b2 b1 k (stepN k j) (bs (stepN k j)).toArray ((m : Int) - j - 1) | false => .blk L (.loop { rc with state := .done, pending := some (.exit 1) }) :: .blk Dk (.deferred (some [])) :: stM b4 b3 b2 b1 k (stepN k j) (bs (stepN k j)).toArray 0))
    (hrdy : rc = { rc with state := .ready, pending := none } := by rfl) :
    Calls Tryd.prog 49 #[.func (.yield L) #[] #[], .pointer (some ⟨b1, 0, none⟩)] w' fun e w2 => (∃ v, e = .returned v) ∧ St w' (keys (.blk L (.loop rc) :: .blk Dk (.deferred (some [])) :: stM b4 b3 b2 b1 k k zk m)) w2 (.blk L (.loop { rc with state := .done, pending := some (.exit 1) }) :: .blk Dk (.deferred (some [])) :: stM b4 b3 b2 b1 k (stepN k m) (bs (stepN k m)).toArray 0) := by
  refine enterL (args := [.func (.yield L) #[] #[], .pointer (some ⟨b1, 0, none⟩)]) Tryd.func49 Tryd.ntmps49 hs hnd ?_
  obtain ⟨bo, hbo⟩ : ∃ bo, bo = keys (.blk L (.loop rc) :: .blk Dk (.deferred (some [])) :: stM b4 b3 b2 b1 k k zk m) := ⟨_, rfl⟩
  rw [← hbo] at hround hLS ⊢
  refine c_block <| c_loop2 (fun (_ : Nat) (_ : Array Value) => [(0, .func (.yield L) #[] #[]), (1, .pointer (some ⟨b1, 0, none⟩))]) (fun j acc => .blk L (.loop rc) :: .blk Dk (.deferred (some [])) :: stM b4 b3 b2 b1 k (stepN k j) acc ((m : Int) - j)) (fun j acc => j ≤ m ∧ acc.size = 32) (fun j _ => m - j) 0 zk ⟨by omega, rfl⟩ ⟨rfl, rfl, trivial⟩ (by rw [show (m : Int) - (0 : Nat) = m by omega]; exact .refl _) ?_
  intro j acc ⟨hj, hacc⟩
  have hsj : (bs (stepN k j)).toArray.size = 32 := by simp [bs_length, stepN_length hk]
  have hsj1 : (bs (stepN k (j + 1))).toArray.size = 32 := by simp [bs_length, stepN_length hk]
  refine c_seq <| c_seq <| c_reg <| s_y y_mv <| s_y (y_lda (b := b1) (cs := (bs (stepN k j)).toArray) (hl := hsj)) <| ?_
  refine s_yield (L := L) (rc := rc) (σ := Bool) (fun x => .bool x) (fun x => match x with | true => .blk L (.loop { rc with state := .ready, pending := none }) :: .blk Dk (.deferred (some [])) :: stM b4 b3 b2 b1 k (stepN k j) (bs (stepN k j)).toArray ((m : Int) - j - 1) | false => .blk L (.loop { rc with state := .done, pending := some (.exit 1) }) :: .blk Dk (.deferred (some [])) :: stM b4 b3 b2 b1 k (stepN k j) (bs (stepN k j)).toArray 0) (fun x => match x with | true => j < m | false => j = m) (.head _) hpz (fun w2 h2 => hround j acc w2 hj hacc h2) (fun x hx => ?_)
  cases x with
  | true =>
    have hx' : j < m := hx
    rw [← hrdy]
    refine s_nil <| q_then <| c_t <| c_skip <| q_then <| c_block <| c_reg <| s_y (y_lda (b := b1) (cs := (bs (stepN k j)).toArray) (hl := hsj)) <| s_pure (fun w2 h2 => derive_Expand_ok w2 (stepN k j) stepS none 0 [] (hLS _ _ h2) (stepN_length hk j) (Rd.nil _ _) (by simp) (by decide) (by simp)) <| s_sta (b := b1) (vs := (bs (stepN k (j + 1))).toArray) (cs := (bs (stepN k j)).toArray) (h1 := fun v hv => bs_one (by simpa using hv)) (hl := by rw [hsj1, hsj]) (hs1 := hsj1) ?_
    refine s_nil <| q_nb <| q_round2 (y := acc) (j + 1) (bs (stepN k j)).toArray ⟨by omega, hsj⟩ (by omega) ⟨rfl, rfl, trivial⟩ ?_
    rw [show (m : Int) - ((j + 1 : Nat) : Int) = m - j - 1 by omega]
    exact .refl _
  | false =>
    have hx' : j = m := hx
    subst hx'
    refine s_nil <| q_then <| c_f <| c_exit <| q_ex <| q_ex <| q_exb <| ?_
    exact ret0 Tryd.results49 (fun w2 h2 => ⟨⟨_, rfl⟩, h2⟩) _ (.inr rfl)

theorem derive_Step_ok (w : World) (k : List UInt8) (n : Int) (hg : LS w) (hk : k.length = 32) (hn : R64 n) :
    Pure Tryd.prog 11 [.agg (bs k).toArray, I n] w (if n < 0 then .tuple #[.agg (List.replicate 32 (.int .u8 0)).toArray, I 1] else if 65536 < n then .tuple #[.agg (List.replicate 32 (.int .u8 0)).toArray, I 2] else .tuple #[.agg (bs (stepN k n.toNat)).toArray, I 0]) := by
  refine enterM Tryd.func11 Tryd.ntmps11 ?_
  refine c_seq <| c_reg <| s_box rfl fun b2 => s_box rfl fun b3 => s_alloc fun b4 => s_y y_as <| s_nil <| q_then <| c_seq <| c_block <| c_seq <| c_reg <| s_y (y_ld (v := I n)) <| s_y y_lss <| s_y y_as <| s_nil <| q_then <| c_ifd (fun h6 => ?_) (fun h6 => ?_)
  · rw [if_pos h6]
    refine c_seq <| c_reg <| s_y (y_lda (b := b4) (cs := zk)) <| s_sta (b := b4) (vs := zk) (cs := zk) (h1 := by intro u hu; simp at hu; subst hu; rfl) (hl := by rfl) (hs1 := by rfl) ?_
    refine s_y y_as <| s_nil <| q_then <| c_ret <| q_retb <| q_ret <| ?_
    exact ret2M Tryd.results11 (rv_ca (b := b4) (cs := zk)) rv_t fun w' hw => ⟨rfl, hw.sub (List.nil_sublist _)⟩
  rw [if_neg h6]
  refine c_seq <| c_reg <| s_y (y_ld (v := I n)) <| s_y y_gtr <| s_y y_as <| s_nil <| q_then <| c_ifd (fun h10 => ?_) (fun h10 => ?_)
  · rw [if_pos h10]
    refine c_seq <| c_reg <| s_y (y_lda (b := b4) (cs := zk)) <| s_sta (b := b4) (vs := zk) (cs := zk) (h1 := by intro u hu; simp at hu; subst hu; rfl) (hl := by rfl) (hs1 := by rfl) ?_
    refine s_y y_as <| s_nil <| q_then <| c_ret <| q_retb <| q_ret <| ?_
    exact ret2M Tryd.results11 (rv_ca (b := b4) (cs := zk)) rv_t fun w' hw => ⟨rfl, hw.sub (List.nil_sublist _)⟩
  rw [if_neg h10]
  obtain ⟨m, rfl⟩ : ∃ m : Nat, n = (m : Int) := ⟨n.toNat, by omega⟩
  rw [Int.toNat_natCast]
  have hs0 : (bs k).toArray.size = 32 := by simp [bs_length, hk]
  have hsm : (bs (stepN k m)).toArray.size = 32 := by simp [bs_length, stepN_length hk]
  refine c_skip <| q_nb <| q_then <| c_seq <| c_seq <| c_reg <| s_y (y_lda (b := b2) (cs := (bs k).toArray) (hl := hs0)) <| s_gives (fun w' hw => derive_chain_ok w' k) fun b1 _ => s_nil <| q_then <| c_block <| ?_
  refine c_range (σ := Unit) (fun _ => stM b4 b3 b2 b1 k (stepN k m) (bs (stepN k m)).toArray 0) (fun _ => True) (id := 1) (fun fn tm Dk L hfr w' hw' => ?_) (fun Dk _ _ => ?_)
  rotate_left
  · refine q_exb <| q_then <| c_seq <| c_reg <| s_y (y_lda (b := b4) (cs := (bs (stepN k m)).toArray) (hl := hsm)) <| s_sta (b := b4) (vs := (bs (stepN k m)).toArray) (cs := (bs (stepN k m)).toArray) (h1 := fun v hv => bs_one (by simpa using hv)) (hl := rfl) (hs1 := hsm) ?_
    refine s_y y_as <| s_nil <| q_then <| c_ret <| ?_
    exact ret2D Tryd.results11 (.head _) (rv_ca (b := b4) (cs := (bs (stepN k m)).toArray) (hl := hsm)) rv_t fun w' hw => ⟨rfl, hw.sub (List.nil_sublist _)⟩
  · have hps := (show St w [] w' (.blk L (.loop _) :: .blk Dk (.deferred (some [])) :: stM b4 b3 b2 b1 k k zk m ++ []) by rw [List.append_nil]; exact hw').has
    have hLS : ∀ w2 l2, St w' (keys (.blk L (.loop _) :: .blk Dk (.deferred (some [])) :: stM b4 b3 b2 b1 k k zk m)) w2 l2 → LS w2 := fun w2 l2 h => hg.st (by simpa using hw'.transL (l2 := []) (by rw [List.append_nil]; exact .refl _) h)
    refine (chain1_ok w' _ L Dk b4 b3 b2 b1 k m hk hps.1 hps.2 rfl hLS (fun j acc w2 hj hacc h2 => ?_)).mono fun e w2 ⟨hv, h2⟩ => ⟨hv, (), trivial, by simpa using hw'.transL (l2 := []) (by rw [List.append_nil]; exact .refl _) h2⟩
    have hsj : (bs (stepN k j)).toArray.size = 32 := by simp [bs_length, stepN_length hk]
    have hf16 := (hfr []).put 16 (.agg (bs (stepN k j)).toArray) rfl
    refine round_ok (F1 := [(3, .pointer (some ⟨b3, 0, none⟩)), (4, .pointer (some ⟨b4, 0, none⟩))]) h2 hf16 (by simp [Act.put]) (by rfl) (.head _) (l1 := .blk L (.loop _) :: .blk Dk (.deferred (some [])) :: stM b4 b3 b2 b1 k (stepN k j) (bs (stepN k j)).toArray ((m : Int) - j)) ?_ ?_
    · refine c_reg <| s_sta (b := b4) (vs := (bs (stepN k j)).toArray) (cs := acc) (h1 := fun v hv => bs_one (by simpa using hv)) (hl := by rw [hsj, hacc]) (hs1 := hsj) ?_
      exact s_nil <| q_join ⟨rfl, rfl, trivial⟩ (List.Sublist.refl _)
    · refine c_block <| c_seq <| c_seq <| c_reg <| s_y (y_ld (v := I ((m : Int) - j))) <| s_y (y_eql (p := (m : Int) - j) (q := 0)) <| s_nil <| q_then <| c_ifd (fun h18 => ?_) (fun h18 => ?_)
      · obtain rfl : j = m := by omega
        refine c_exit <| q_ex <| q_exn rfl <| q_rx (.head _) fun w3 h3 => ⟨false, rfl, rfl, ?_⟩
        rw [show (j : Int) - j = 0 by omega] at h3
        exact h3
      · refine c_skip <| q_then <| c_reg <| s_y (y_ld (v := I ((m : Int) - j))) <| s_y (y_sub (p := (m : Int) - j) (q := 1)) <| s_st (b := b3) (v := I ((m : Int) - j - 1)) (cs := #[I ((m : Int) - j)]) (hl := Nat.zero_lt_one) ?_
        refine s_nil <| q_nb <| q_rn (.head _) fun w3 h3 => ⟨true, show j < m by omega, rfl, ?_⟩
        exact h3
end Go.Proofs.YtjfiggbgpplopaaDoor
