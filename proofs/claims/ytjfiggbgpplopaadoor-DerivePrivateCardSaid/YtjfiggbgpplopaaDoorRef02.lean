/- The specification of digest: the same hash. -/
import Derived.Test.YtjfiggbgpplopaaDoorTag
namespace Eng
open Go Go.RowKit
section
variable {r : Option Nat} {P : Program} {n : Nat} {D : List Deferred} {W : World} {Bo : List Nat} {F : List (Nat × Value)} {l l' : SH}
  {d : Option Tmp} {dd : Nat} {ty : TypeId} {ps : String} {af : Array Edge} {g : Option (Nat × Bool)} {x y z : Operand} {v u : Value} {ta tb t e : TypeId}
theorem y_not32 {q : UInt32} (hx : evO F x = some (W32 q) := by rfl) : Y P n D W Bo ⟨d, .unOp .xor ta x, ty, ps, af, g⟩ F l (W32 (~~~q)) :=
  .mk (by simp) fun a w ha _ => by
    have e : (4294967295 : UInt32).toBitVec ^^^ q.toBitVec = (~~~q).toBitVec := by
      apply BitVec.eq_of_getLsbD_eq
      intro i hi
      rw [BitVec.getLsbD_xor, UInt32.toBitVec_not, BitVec.getLsbD_not]
      have : (4294967295 : UInt32).toBitVec.getLsbD i = true := by
        show (BitVec.allOnes 32).getLsbD i = true
        rw [BitVec.getLsbD_allOnes]; simp [hi]
      rw [this]
      simp [hi]
    have h := bits32 4294967295 q (· ^^^ ·) (~~~q) e
    simp only [execOp, ha.eval hx, Op.unary]
    show Result.ok (Next.value (.int .u32 (IntKind.u32.wrap _))) w = _
    exact congrArg (fun z => Result.ok (Next.value (.int .u32 z)) w) h
end
end Eng
namespace Go.Proofs.YtjfiggbgpplopaaDoor
open Go Eng Sha

theorem ref02_ror_ok (w : World) (v : UInt32) (k : Nat) (h0 : 0 < k) (h1 : k < 32) : Pure Tryd.prog 82 [W32 v, I k] w (W32 (rr v k)) := by
  refine enter Tryd.func82 Tryd.ntmps82 ?_
  refine c_seq <| c_reg <| s_y y_as <| s_nil <| q_then <| c_seq <| c_regd <| d_y y_mv <| d_y y_mv <| d_y (y_shr32 (h0 := by omega) (h1 := by omega)) <| d_y y_mv <| d_y y_mv <| d_y y_sub <| d_y (y_shl32 (h0 := by omega) (h1 := by omega)) <| d_y y_or32 <| d_y y_as <| d_nil <| q_then <| c_ret <| ?_
  rw [Int.toNat_natCast, show (32 - (k : Int)).toNat = 32 - k by omega]
  exact ret1 Tryd.results82 rv_t fun w' hw => ⟨rfl, hw⟩

theorem ref02_word_ok (w : World) (a : Option Addr) (m c : Nat) (q : List UInt8) (hr : Rd w a (bs q)) (hq : m ≤ q.length) (hm : 4 ≤ m) :
    Pure Tryd.prog 81 [.slice a m c] w (W32 (word q 0)) := by
  refine enter Tryd.func81 Tryd.ntmps81 ?_
  refine c_seq <| c_reg <| s_y y_as <| s_nil <| q_then <| c_seq <| c_regd <| d_y y_mv <| d_y (y_ixs1 (xs := bs q)) <| d_y (y_ldb (q := q) (i := 0)) <| d_y y_cv32 <| d_y y_shl32 <| d_y y_mv <| d_y (y_ixs1 (xs := bs q)) <| d_y (y_ldb (q := q) (i := 1)) <| d_y y_cv32 <| d_y y_shl32 <| d_y y_or32 <| d_y y_mv <| d_y (y_ixs1 (xs := bs q)) <| d_y (y_ldb (q := q) (i := 2)) <| d_y y_cv32 <| d_y y_shl32 <| d_y y_or32 <| d_y y_mv <| d_y (y_ixs1 (xs := bs q)) <| d_y (y_ldb (q := q) (i := 3)) <| d_y y_cv32 <| d_y y_or32 <| d_y y_as <| d_nil <| q_then <| c_ret <| ?_
  exact ret1 Tryd.results81 rv_t fun w' hw => ⟨rfl, hw⟩

set_option maxRecDepth 8000 in
theorem ref02_numbers_ok (w : World) : Pure Tryd.prog 83 [] w (.agg (ws K).toArray) := by
  refine enter Tryd.func83 Tryd.ntmps83 ?_
  refine c_seq <| c_reg <| s_alloc fun b0 => s_nil <| q_then <| c_seq <| c_reg <| s_y (y_blda (cs := ws K)) <| s_sta (vs := (ws K).toArray) (h1 := fun v hv => ws_one (by simpa using hv)) ?_
  refine s_nil <| q_then <| c_ret <| ?_
  exact ret1 Tryd.results83 rv_ca fun w' hw => ⟨rfl, hw.sub (List.nil_sublist _)⟩

theorem ref02_block_ok (w : World) (s : S8) (a : Option Addr) (c : Nat) (q : List UInt8) (hr : Rd w a (bs q)) (hq : 64 ≤ q.length) (hqc : q.length ≤ c) :
    Pure Tryd.prog 56 [.agg (ws s.l).toArray, .slice a 64 c] w (.agg (ws (blk s q).l).toArray) := by
  refine enter Tryd.func56 Tryd.ntmps56 ?_
  refine c_seq <| c_reg <| s_box rfl fun b2 => s_alloc fun b4 => s_nil <| q_then <| c_seq <| c_reg <| s_y (y_blda (cs := ws (wa q 0))) <| s_alloc fun b5 => s_sta (vs := (ws (wa q 0)).toArray) (h1 := fun v hv => ws_one (by simpa using hv)) ?_
  refine s_nil <| q_then <| c_seq <| c_seq <| c_reg <| s_y y_as <| s_nil <| q_then <| c_block <| ?_
  refine c_loop (fun t : Nat => [(1, .slice a 64 c), (2, .pointer (some ⟨b2, 0, none⟩)), (4, .pointer (some ⟨b4, 0, none⟩)), (5, .pointer (some ⟨b5, 0, none⟩)), (6, I t)]) (fun t => [.blk b5 (.cells (ws (wa q t)).toArray 104 (0, 0)), .blk b4 (.cells (ws [0, 0, 0, 0, 0, 0, 0, 0]).toArray 73 (0, 0)), .blk b2 (.cells (ws s.l).toArray 73 (0, 0))]) (fun t => t ≤ 16) (fun t => 16 - t) 0 (by omega) ⟨rfl, rfl, rfl, rfl, rfl, trivial⟩ (by exact List.Sublist.refl _) ?_
  intro t ht
  refine c_seq <| c_seq <| c_reg <| s_y y_mv <| s_y y_lss <| s_nil <| q_then <| c_ifd (fun h24 => ?_) (fun h24 => ?_)
  · have hd : (q.drop (4 * t)).length = q.length - 4 * t := by simp
    refine c_skip <| q_then <| c_seq <| c_block <| c_reg <| s_y y_mv <| s_y y_mv <| s_y y_mv <| s_y y_mul <| s_y y_mv <| s_y y_mul <| s_y y_add <| s_y y_sllh <| ?_
    rw [show (4 * (t : Int)).toNat = 4 * t by omega, show (4 * (t : Int) + 4).toNat - 4 * t = 4 by omega]
    refine s_pure (fun w' hw => ref02_word_ok w' (sa a (4 * t) c 1) 4 (c - 4 * t) (q.drop (4 * t)) (by have h1 := (rdW0 (l := []) hr).sa (i := 4 * t) (c := c) (s := 1) (by rw [bs_length]; omega) w (St.refl w); rw [Nat.mul_one, ← bs_drop] at h1; exact h1.st hw) (by omega) (by omega)) <| s_y (y_ixn t) <| s_stw (?_) (hl := ?_)
    · have e : (if t < 16 then word q (4 * t) else (wl q t).getD (t - 16) 0 + sg0 ((wl q t).getD (t - 15) 0) + (wl q t).getD (t - 7) 0 + sg1 ((wl q t).getD (t - 2) 0)) = word (q.drop (4 * t)) 0 := by
        rw [if_pos (by omega), word_drop]
      rw [← e, wa_set q (by omega)]
      exact s_nil <| q_nb <| q_then <| c_reg <| s_y y_mv <| s_y y_add <| s_y y_as <| s_nil <| q_round (t + 1) (by omega) (by omega) ⟨rfl, rfl, rfl, rfl, rfl, trivial⟩ (List.Sublist.refl _)
    · rw [wa_length q (by omega)]; omega
  · obtain rfl : t = 16 := by omega
    refine c_exit <| q_ex <| q_ex <| q_exb <| q_then <| c_seq <| c_seq <| c_reg <| s_y y_as <| s_nil <| q_then <| c_block <| ?_
    refine c_loop (fun t : Nat => [(2, .pointer (some ⟨b2, 0, none⟩)), (4, .pointer (some ⟨b4, 0, none⟩)), (5, .pointer (some ⟨b5, 0, none⟩)), (7, I t)]) (fun t => [.blk b5 (.cells (ws (wa q t)).toArray 104 (0, 0)), .blk b4 (.cells (ws [0, 0, 0, 0, 0, 0, 0, 0]).toArray 73 (0, 0)), .blk b2 (.cells (ws s.l).toArray 73 (0, 0))]) (fun t => 16 ≤ t ∧ t ≤ 64) (fun t => 64 - t) 16 (by omega) ⟨rfl, rfl, rfl, rfl, trivial⟩ (by exact List.Sublist.refl _) ?_
    rintro t ⟨ht, ht2⟩
    have hwl := wa_length q ht2
    refine c_seq <| c_seq <| c_reg <| s_y y_mv <| s_y y_lss <| s_nil <| q_then <| c_ifd (fun h38 => ?_) (fun h38 => ?_)
    · have e := wa_set q (t := t) (by omega)
      rw [if_neg (by omega), ← wa_get q (show t - 16 < t by omega), ← wa_get q (show t - 15 < t by omega), ← wa_get q (show t - 7 < t by omega), ← wa_get q (show t - 2 < t by omega)] at e
      refine c_skip <| q_then <| c_seq <| c_block <| c_seq <| c_reg <| s_y y_mv <| s_y y_sub <| s_y (y_ixn (t - 15)) <| s_y y_ldbw <| s_y y_as <| s_nil <| q_then <| c_seq <| c_reg <| s_y y_mv <| s_y y_sub <| s_y (y_ixn (t - 2)) <| s_y y_ldbw <| s_y y_as <| s_nil <| q_then <| ?_
      refine c_regF 29 <| f_y 0 rfl y_mv <| f_y 1 rfl y_mv <| f_y 2 rfl y_sub <| f_y 3 rfl (y_ixn (t - 16)) <| f_y 4 rfl y_ldbw <| f_y 5 rfl y_mv <| f_y 7 rfl y_mv <| f_y 10 rfl y_mv <| f_y 11 rfl y_shr32 <| f_y 14 rfl y_mv <| f_y 15 rfl y_sub <| f_y 16 rfl (y_ixn (t - 7)) <| f_y 17 rfl y_ldbw <| f_y 19 rfl y_mv <| f_y 21 rfl y_mv <| f_y 24 rfl y_mv <| f_y 25 rfl y_shr32 <| f_w 6 rfl <| s_pure (fun w' hw => ref02_ror_ok w' _ 7 (by decide) (by decide)) <| f_k <| f_w 8 rfl <| s_pure (fun w' hw => ref02_ror_ok w' _ 18 (by decide) (by decide)) <| f_k <| f_y 9 rfl y_xor32 <| f_y 12 rfl y_xor32 <| f_y 13 rfl y_add32 <| f_y 18 rfl y_add32 <| f_w 20 rfl <| s_pure (fun w' hw => ref02_ror_ok w' _ 17 (by decide) (by decide)) <| f_k <| f_w 22 rfl <| s_pure (fun w' hw => ref02_ror_ok w' _ 19 (by decide) (by decide)) <| f_k <| f_y 23 rfl y_xor32 <| f_y 26 rfl y_xor32 <| f_y 27 rfl y_add32 <| f_y 28 rfl (y_ixn t) <| f_w 29 rfl <| s_stw (p := (wa q t).getD (t - 16) 0 + sg0 ((wa q t).getD (t - 15) 0) + (wa q t).getD (t - 7) 0 + sg1 ((wa q t).getD (t - 2) 0)) ?_
      rw [e]
      refine f_z <| q_nb <| q_then <| c_reg <| s_y y_mv <| s_y y_add <| s_y y_as <| s_nil <| q_round (t + 1) (by omega) (by omega) ⟨rfl, rfl, rfl, rfl, trivial⟩ (List.Sublist.refl _)
    · obtain rfl : t = 64 := by omega
      rw [wa_64]
      have hwl4 : (wl q 64).length = 64 := wl_length _ _
      have hblk : blk s q = s.add (rnds K (wl q 64) s 64) := rfl
      rw [hblk]
      obtain ⟨WW, hW⟩ : ∃ WW, wl q 64 = WW := ⟨_, rfl⟩
      obtain ⟨KK, hKK⟩ : ∃ KK, K = KK := ⟨_, rfl⟩
      have hKl : KK.length = 64 := by rw [← hKK]; rfl
      have hnum : ∀ w', Pure Tryd.prog 83 [] w' (.agg (ws KK).toArray) := fun w' => by rw [← hKK]; exact ref02_numbers_ok w'
      rw [hW] at hwl4
      rw [hW, hKK]
      refine c_exit <| q_ex <| q_ex <| q_exb <| q_then <| c_seq <| c_reg <| s_pure (fun w' hw => hnum w') <| s_alloc fun b10 => s_sta (vs := (ws KK).toArray) (h1 := fun v hv => ws_one (by simpa using hv)) (hl := by rw [List.size_toArray, ws_length, hKl]; rfl) (hs1 := by rw [List.size_toArray, ws_length, hKl]) ?_
      refine s_nil <| q_then <| c_seq <| c_regd <| d_y y_ixa1 <| d_y (y_ld (v := W32 s.a)) <| d_y y_ixa1 <| d_y (y_ld (v := W32 s.b)) <| d_y y_ixa1 <| d_y (y_ld (v := W32 s.c)) <| d_y y_ixa1 <| d_y (y_ld (v := W32 s.d)) <| d_y y_ixa1 <| d_y (y_ld (v := W32 s.e)) <| d_y y_ixa1 <| d_y (y_ld (v := W32 s.f)) <| d_y y_ixa1 <| d_y (y_ld (v := W32 s.g)) <| d_y y_ixa1 <| d_y (y_ld (v := W32 s.h)) <| d_y y_as <| d_y y_as <| d_y y_as <| d_y y_as <| d_y y_as <| d_y y_as <| d_y y_as <| d_y y_as <| d_nil <| q_then <| c_seq <| c_seq <| c_reg <| s_y y_as <| s_nil <| q_then <| c_block <| ?_
      refine c_loop (fun t : Nat => [(2, .pointer (some ⟨b2, 0, none⟩)), (4, .pointer (some ⟨b4, 0, none⟩)), (5, .pointer (some ⟨b5, 0, none⟩)), (10, .pointer (some ⟨b10, 0, none⟩)), (11, W32 (rnds KK WW s t).a), (12, W32 (rnds KK WW s t).b), (13, W32 (rnds KK WW s t).c), (14, W32 (rnds KK WW s t).d), (15, W32 (rnds KK WW s t).e), (16, W32 (rnds KK WW s t).f), (17, W32 (rnds KK WW s t).g), (18, W32 (rnds KK WW s t).h), (19, I t)]) (fun t => [.blk b10 (.cells (ws KK).toArray 104 (0, 0)), .blk b5 (.cells (ws WW).toArray 104 (0, 0)), .blk b4 (.cells (ws [0, 0, 0, 0, 0, 0, 0, 0]).toArray 73 (0, 0)), .blk b2 (.cells (ws s.l).toArray 73 (0, 0))]) (fun t => t ≤ 64) (fun t => 64 - t) 0 (by omega) ⟨rfl, rfl, rfl, rfl, rfl, rfl, rfl, rfl, rfl, rfl, rfl, rfl, rfl, trivial⟩ (List.Sublist.refl _) ?_
      intro t ht3
      refine c_seq <| c_seq <| c_reg <| s_y y_mv <| s_y y_lss <| s_nil <| q_then <| c_ifd (fun h96 => ?_) (fun h96 => ?_)
      · have hrnd : rnds KK WW s (t + 1) = rnd (rnds KK WW s t) (KK.getD t 0) (WW.getD t 0) := rfl
        obtain ⟨v, hv⟩ : ∃ v, rnds KK WW s t = v := ⟨_, rfl⟩
        rw [hv] at hrnd
        rw [hv]
        refine c_skip <| q_then <| c_seq <| c_block <| c_seq <| c_regd <| d_y y_mv <| d_y y_mv <| d_pure (fun w' hw => ref02_ror_ok w' v.e 6 (by decide) (by decide)) <| d_y y_mv <| d_pure (fun w' hw => ref02_ror_ok w' v.e 11 (by decide) (by decide)) <| d_y y_xor32 <| d_y y_mv <| d_pure (fun w' hw => ref02_ror_ok w' v.e 25 (by decide) (by decide)) <| d_y y_xor32 <| d_y y_add32 <| d_y y_mv <| d_y y_mv <| d_y y_and32 <| d_y y_mv <| d_y y_not32 <| d_y y_mv <| d_y y_and32 <| d_y y_xor32 <| ?_
        rw [ch_eq]
        refine d_y y_add32 <| d_y y_mv <| d_y (y_ixn t) <| d_y (y_ldbw (q := KK)) <| d_y y_add32 <| d_y y_mv <| d_y (y_ixn t) <| d_y (y_ldbw (q := WW)) <| d_y y_add32 <| d_y (y_as (v := W32 (p1 v (KK.getD t 0) (WW.getD t 0)))) <| d_nil <| q_then <| c_seq <| c_reg <| s_y y_mv <| s_pure (fun w' hw => ref02_ror_ok w' v.a 2 (by decide) (by decide)) <| s_y y_mv <| s_pure (fun w' hw => ref02_ror_ok w' v.a 13 (by decide) (by decide)) <| s_y y_xor32 <| s_y y_mv <| s_pure (fun w' hw => ref02_ror_ok w' v.a 22 (by decide) (by decide)) <| s_y y_xor32 <| s_y y_mv <| s_y y_mv <| s_y y_and32 <| s_y y_mv <| s_y y_mv <| s_y y_and32 <| s_y y_xor32 <| s_y y_mv <| s_y y_mv <| s_y y_and32 <| s_y y_xor32 <| ?_
        rw [maj_eq]
        refine s_y y_add32 <| s_y (y_as (v := W32 (q1 v))) <| s_nil <| q_then <| c_reg <| s_y y_mv <| s_y y_mv <| s_y y_mv <| s_y y_mv <| s_y y_mv <| s_y y_add32 <| s_y y_mv <| s_y y_mv <| s_y y_mv <| s_y y_mv <| s_y y_mv <| s_y y_add32 <| s_y y_as <| s_y y_as <| s_y y_as <| s_y y_as <| s_y y_as <| s_y y_as <| s_y y_as <| s_y y_as <| s_nil <| q_nb <| q_then <| c_reg <| s_y y_mv <| s_y y_add <| s_y y_as <| s_nil <| q_round (t + 1) (by omega) (by omega) ?_ (List.Sublist.refl _)
        rw [hrnd]
        exact ⟨rfl, rfl, rfl, rfl, rfl, rfl, rfl, rfl, rfl, rfl, rfl, rfl, rfl, trivial⟩
      · obtain rfl : t = 64 := by omega
        obtain ⟨v, hv⟩ : ∃ v, rnds KK WW s 64 = v := ⟨_, rfl⟩
        rw [hv]
        refine c_exit <| q_ex <| q_ex <| q_exb <| q_then <| c_seq <| c_reg <| s_y y_ixa1 <| s_y (y_ld (v := W32 s.a)) <| s_y y_mv <| s_y y_add32 <| s_y y_ixa1 <| s_y (y_ld (v := W32 s.b)) <| s_y y_mv <| s_y y_add32 <| s_y y_ixa1 <| s_y (y_ld (v := W32 s.c)) <| s_y y_mv <| s_y y_add32 <| s_y y_ixa1 <| s_y (y_ld (v := W32 s.d)) <| s_y y_mv <| s_y y_add32 <| s_y y_ixa1 <| s_y (y_ld (v := W32 s.e)) <| s_y y_mv <| s_y y_add32 <| s_y y_ixa1 <| s_y (y_ld (v := W32 s.f)) <| s_y y_mv <| s_y y_add32 <| s_y y_ixa1 <| s_y (y_ld (v := W32 s.g)) <| s_y y_mv <| s_y y_add32 <| s_y y_ixa1 <| s_y (y_ld (v := W32 s.h)) <| s_y y_mv <| s_y y_add32 <| s_y (y_blda (cs := ws (s.add v).l)) <| s_sta (vs := (ws (s.add v).l).toArray) (h1 := fun v hv => ws_one (by simpa using hv)) ?_
        refine s_nil <| q_then <| c_ret <| ?_
        exact ret1 Tryd.results56 rv_ca fun w' hw => ⟨rfl, hw.sub (List.nil_sublist _)⟩

end Go.Proofs.YtjfiggbgpplopaaDoor
