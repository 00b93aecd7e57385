/- Powers in the group. -/
import Derived.Test.YtjfiggbgpplopaaDoorTimes
namespace Go.Proofs.YtjfiggbgpplopaaDoor
open Go Eng Dv

theorem group_digits_ok (w : World) (e : Nat) : Gives Tryd.prog 63 [U e] w [] (fun b : Nat => .func (.func 85) #[] #[.pointer (some ⟨b, 0, none⟩)]) (fun b => [.blk b (.cells #[U e] 77 (0, 0))]) (fun _ => True) := by
  refine enter Tryd.func63 Tryd.ntmps63 ?_
  refine c_seq <| c_reg <| s_box rfl fun b1 => s_y y_as <| s_nil <| q_then <| c_seq <| c_reg <| s_y y_func <| s_y y_as <| s_nil <| q_then <| c_ret <| ?_
  exact ret1 Tryd.results63 rv_t fun w' hw => ⟨b1, trivial, rfl, hw⟩

def pwM (L Dk : Nat) (rc : Loop) (b5 b2 b1 e b acc : Nat) : SH :=
  [.blk L (.loop rc), .blk Dk (.deferred (some [])), .blk b1 (.cells #[U e] 77 (0, 0)), .blk b5 (.cells #[U acc] 77 (0, 0)), .blk b2 (.cells #[U b] 77 (0, 0))]

theorem digits1_ok (w' : World) (rc : Loop) (L Dk b5 b2 b1 e b p : Nat) (he : e < 18446744073709551616) (hp : 1 < p)
    (hs : ∀ q ∈ pwM L Dk rc b5 b2 b1 e b 1, q.holds w') (hnd : (keys (pwM L Dk rc b5 b2 b1 e b 1)).Nodup) (hpz : rc.params.size = 1)
    (hround : ∀ (i : Nat) (w2 : World), St w' (keys (pwM L Dk rc b5 b2 b1 e b 1)) w2 (pwM L Dk rc b5 b2 b1 e b (b ^ (e / 2 ^ (i + 1)) % p)) →
      RoundIn (Fw none) 0 Tryd.prog L rc.fn ((rc.params.zip #[.bool (decide (e / 2 ^ i % 2 = 1))]).foldl (fun tmps (t, a) => tmps.setIfInBounds t a) rc.tmps) rc.assign rc.body w2 fun e' w3 => ∃ _ : Unit, True ∧ e' = .returned (.bool true) ∧ St w' (keys (pwM L Dk rc b5 b2 b1 e b 1)) w3 (pwM L Dk { rc with state := .ready, pending := none } b5 b2 b1 e b (b ^ (e / 2 ^ i) % p)))
    (hrdy : rc = { rc with state := .ready, pending := none } := by rfl) :
    Calls Tryd.prog 85 #[.func (.yield L) #[] #[], .pointer (some ⟨b1, 0, none⟩)] w' fun e' w2 => (∃ v, e' = .returned v) ∧ St w' (keys (pwM L Dk rc b5 b2 b1 e b 1)) w2 (pwM L Dk rc b5 b2 b1 e b (b ^ e % p)) := by
  obtain ⟨len, hlen, hl1, _, hlz⟩ := bits_Len64_ok e he
  refine enterL (args := [.func (.yield L) #[] #[], .pointer (some ⟨b1, 0, none⟩)]) Tryd.func85 Tryd.ntmps85 hs hnd ?_
  obtain ⟨bo, hbo⟩ : ∃ bo, bo = keys (pwM L Dk rc b5 b2 b1 e b 1) := ⟨_, rfl⟩
  rw [← hbo] at hround ⊢
  have h1p : b ^ (e / 2 ^ len) % p = 1 := by rw [Nat.div_eq_of_lt hl1, Nat.pow_zero, Nat.mod_eq_of_lt hp]
  refine c_seq <| c_reg <| s_y (y_ld (v := U e)) <| s_pure (fun w2 _ => hlz w2) <| s_y (y_sub (p := len) (q := 1)) <| s_y y_as <| s_nil <| q_then <| c_block <| ?_
  refine c_loop (fun j : Nat => [(0, .func (.yield L) #[] #[]), (1, .pointer (some ⟨b1, 0, none⟩)), (3, I ((j : Int) - 1))]) (fun j => pwM L Dk rc b5 b2 b1 e b (b ^ (e / 2 ^ j) % p)) (fun j => j ≤ 64) (fun j => j) len hlen ⟨rfl, rfl, rfl, trivial⟩ (by rw [h1p]; exact .refl _) ?_
  intro j hj
  refine c_seq <| c_seq <| c_reg <| s_y y_mv <| s_y (y_geq (p := (j : Int) - 1) (q := 0)) <| s_nil <| q_then <| c_ifd (fun h8 => ?_) (fun h8 => ?_)
  · obtain ⟨i, rfl⟩ : ∃ i, j = i + 1 := ⟨j - 1, by omega⟩
    rw [show ((i + 1 : Nat) : Int) - 1 = (i : Int) by omega]
    refine c_skip <| q_then <| c_seq <| c_block <| c_seq <| c_reg <| s_y y_mv <| s_y (y_ld (v := U e)) <| s_y y_mv <| s_y (y_shrW i) <| s_y (y_mask (p := e / 2 ^ i) 1 (hp := by simp only [IntKind.bits]; exact Nat.lt_of_le_of_lt (Nat.div_le_self _ _) he)) <| s_y (y_eql (p := ((e / 2 ^ i % 2 ^ 1 : Nat) : Int)) (q := 1)) <| ?_
    rw [show decide (((e / 2 ^ i % 2 ^ 1 : Nat) : Int) = 1) = decide (e / 2 ^ i % 2 = 1) from decide_eq_decide.2 ⟨fun h => by omega, fun h => by omega⟩]
    refine s_yield (L := L) (rc := rc) (σ := Unit) (fun _ => .bool true) (fun _ => pwM L Dk { rc with state := .ready, pending := none } b5 b2 b1 e b (b ^ (e / 2 ^ i) % p)) (fun _ => True) (.head _) hpz (fun w2 h2 => hround i w2 h2) (fun _ _ => ?_)
    rw [← hrdy]
    refine s_y (v := .bool false) (y_not (b := true)) <| s_nil <| q_then <| c_f <| c_skip <| q_nb <| q_then <| c_reg <| s_y y_mv <| s_y (y_sub (p := (i : Int)) (q := 1)) <| s_y y_as <| s_nil <| q_round i (by omega) (by omega) ⟨rfl, rfl, rfl, trivial⟩ (.refl _)
  · obtain rfl : j = 0 := by omega
    rw [Nat.pow_zero, Nat.div_one]
    refine c_exit <| q_ex <| q_ex <| q_exb <| ?_
    exact ret0 Tryd.results85 (fun w2 h2 => ⟨⟨_, rfl⟩, h2⟩) _ (.inr rfl)

theorem group_power_ok (w : World) (b e : Nat) (hb : b < 4611686018427377339) (he : e < 18446744073709551616) :
    Pure Tryd.prog 42 [U b, U e] w (U (b ^ e % 4611686018427377339)) := by
  refine enterM Tryd.func42 Tryd.ntmps42 ?_
  refine c_seq <| c_reg <| s_box rfl fun b2 => s_y y_as <| s_nil <| q_then <| c_seq <| c_reg <| s_alloc fun b5 => s_st (b := b5) (v := U 1) (cs := #[U 0]) (hl := Nat.zero_lt_one) ?_
  refine s_nil <| q_then <| c_seq <| c_seq <| c_reg <| s_y y_mv <| s_gives (fun w' hw => group_digits_ok w' e) fun b1 _ => s_nil <| q_then <| c_block <| ?_
  refine c_rangeN (σ := Unit) (fun _ => [.blk b1 (.cells #[U e] 77 (0, 0)), .blk b5 (.cells #[U (b ^ e % 4611686018427377339)] 77 (0, 0)), .blk b2 (.cells #[U b] 77 (0, 0))]) (fun _ => True) (fun fn tm Dk L hfr w' hw' => ?_) (fun Dk _ _ => ?_)
  rotate_left
  · refine q_nb <| q_then <| c_seq <| c_reg <| s_y (y_ld (b := b5) (v := U (b ^ e % 4611686018427377339))) <| s_y y_as <| s_nil <| q_then <| c_ret <| ?_
    exact ret1E Tryd.results42 (.head _) rv_t fun w' hw => ⟨rfl, hw.sub (List.nil_sublist _)⟩
  · have hps := (show St w [] w' (pwM L Dk _ b5 b2 b1 e b 1 ++ []) by rw [List.append_nil]; exact hw').has
    refine (digits1_ok w' _ L Dk b5 b2 b1 e b 4611686018427377339 he (by decide) hps.1 hps.2 rfl (fun i w2 h2 => ?_)).mono fun e' w2 ⟨hv, h2⟩ => ⟨hv, (), trivial, by have h9 := hw'.transL (l2 := []) (by rw [List.append_nil]; exact .refl _) h2; rw [List.append_nil] at h9; exact h9⟩
    have hf9 := (hfr []).put 9 (.bool (decide (e / 2 ^ i % 2 = 1))) rfl
    have hst := pow_step b e i 4611686018427377339
    dsimp only at hst
    obtain ⟨a, ha⟩ : ∃ a, b ^ (e / 2 ^ (i + 1)) % 4611686018427377339 = a := ⟨_, rfl⟩
    have hal : a < 4611686018427377339 := by rw [← ha]; exact Nat.mod_lt _ (by decide)
    rw [ha] at hst h2
    refine round_ok (F1 := [(2, .pointer (some ⟨b2, 0, none⟩)), (5, .pointer (some ⟨b5, 0, none⟩)), (6, .bool (decide (e / 2 ^ i % 2 = 1)))]) h2 hf9 (by simp [Act.put]) (by rfl) (.head _) (l1 := pwM L Dk _ b5 b2 b1 e b a) ?_ ?_
    · refine c_reg <| s_y y_as <| s_nil <| q_join ⟨rfl, rfl, rfl, trivial⟩ (List.Sublist.refl _)
    · refine c_block <| c_seq <| c_reg <| s_y (y_ld (b := b5) (v := U a)) <| s_y (y_ld (b := b5) (v := U a)) <| s_pure (fun w3 h3 => group_times_ok w3 a a hal hal) <| s_st (b := b5) (v := U (a * a % 4611686018427377339)) (cs := #[U a]) (hl := Nat.zero_lt_one) ?_
      refine s_nil <| q_then <| c_seq <| c_reg <| s_y y_mv <| s_nil <| q_then <| c_ifd (fun h13 => ?_) (fun h13 => ?_)
      · rw [if_pos h13] at hst
        refine c_reg <| s_y (y_ld (b := b5) (v := U (a * a % 4611686018427377339))) <| s_y (y_ld (b := b2) (v := U b)) <| s_pure (fun w3 h3 => group_times_ok w3 (a * a % 4611686018427377339) b (Nat.mod_lt _ (by decide)) hb) <| s_st (b := b5) (v := U (a * a % 4611686018427377339 * b % 4611686018427377339)) (cs := #[U (a * a % 4611686018427377339)]) (hl := Nat.zero_lt_one) ?_
        refine s_nil <| q_nb <| q_rn (.head _) fun w3 h3 => ⟨(), trivial, rfl, ?_⟩
        rw [hst]; exact h3
      · rw [if_neg h13] at hst
        refine c_skip <| q_nb <| q_rn (.head _) fun w3 h3 => ⟨(), trivial, rfl, ?_⟩
        rw [hst]; exact h3
end Go.Proofs.YtjfiggbgpplopaaDoor
