/- Joined texts. -/
import Derived.Test.YtchpcabehchfjaaDoorTag
/- The specification of digest: the same hash. -/
namespace Eng
open Go Go.RowKit
section
variable {r : Option Nat} {P : Program} {n : Nat} {D : List Deferred} {W : World} {Bo : List Nat} {F : List (Nat × Value)} {l l' : SH}
  {d : Option Tmp} {dd : Nat} {ty : TypeId} {ps : String} {af : Array Edge} {g : Option (Nat × Bool)} {x y z : Operand} {v u : Value} {ta tb t e : TypeId}
theorem y_not32 {q : UInt32} (hx : evO F x = some (W32 q) := by rfl) : Y P n D W Bo ⟨d, .unOp .xor ta x, ty, ps, af, g⟩ F l (W32 (~~~q)) :=
  .mk (by simp) fun a w ha _ => by
    have e : (4294967295 : UInt32).toBitVec ^^^ q.toBitVec = (~~~q).toBitVec := by
      apply BitVec.eq_of_getLsbD_eq
      intro i hi
      rw [BitVec.getLsbD_xor, UInt32.toBitVec_not, BitVec.getLsbD_not]
      have : (4294967295 : UInt32).toBitVec.getLsbD i = true := by
        show (BitVec.allOnes 32).getLsbD i = true
        rw [BitVec.getLsbD_allOnes]; simp [hi]
      rw [this]
      simp [hi]
    have h := bits32 4294967295 q (· ^^^ ·) (~~~q) e
    simp only [execOp, ha.eval hx, Op.unary]
    show Result.ok (Next.value (.int .u32 (IntKind.u32.wrap _))) w = _
    exact congrArg (fun z => Result.ok (Next.value (.int .u32 z)) w) h
end
end Eng
namespace Go.Proofs.YtchpcabehchfjaaDoor
open Go Eng Sha

theorem ref02_ror_ok (w : World) (v : UInt32) (k : Nat) (h0 : 0 < k) (h1 : k < 32) : Pure Tryd.prog 105 [W32 v, I k] w (W32 (rr v k)) := by
  refine enter Tryd.func105 Tryd.ntmps105 ?_
  refine c_seq <| c_reg <| s_y y_as <| s_nil <| q_then <| c_seq <| c_regd <| d_y y_mv <| d_y y_mv <| d_y (y_shr32 (h0 := by omega) (h1 := by omega)) <| d_y y_mv <| d_y y_mv <| d_y y_sub <| d_y (y_shl32 (h0 := by omega) (h1 := by omega)) <| d_y y_or32 <| d_y y_as <| d_nil <| q_then <| c_ret <| ?_
  rw [Int.toNat_natCast, show (32 - (k : Int)).toNat = 32 - k by omega]
  exact ret1 Tryd.results105 rv_t fun w' hw => ⟨rfl, hw⟩

theorem ref02_word_ok (w : World) (a : Option Addr) (m c : Nat) (q : List UInt8) (hr : Rd w a (bs q)) (hq : m ≤ q.length) (hm : 4 ≤ m) :
    Pure Tryd.prog 104 [.slice a m c] w (W32 (word q 0)) := by
  refine enter Tryd.func104 Tryd.ntmps104 ?_
  refine c_seq <| c_reg <| s_y y_as <| s_nil <| q_then <| c_seq <| c_regd <| d_y y_mv <| d_y (y_ixs1 (xs := bs q)) <| d_y (y_ldb (q := q) (i := 0)) <| d_y y_cv32 <| d_y y_shl32 <| d_y y_mv <| d_y (y_ixs1 (xs := bs q)) <| d_y (y_ldb (q := q) (i := 1)) <| d_y y_cv32 <| d_y y_shl32 <| d_y y_or32 <| d_y y_mv <| d_y (y_ixs1 (xs := bs q)) <| d_y (y_ldb (q := q) (i := 2)) <| d_y y_cv32 <| d_y y_shl32 <| d_y y_or32 <| d_y y_mv <| d_y (y_ixs1 (xs := bs q)) <| d_y (y_ldb (q := q) (i := 3)) <| d_y y_cv32 <| d_y y_or32 <| d_y y_as <| d_nil <| q_then <| c_ret <| ?_
  exact ret1 Tryd.results104 rv_t fun w' hw => ⟨rfl, hw⟩

set_option maxRecDepth 8000 in
theorem ref02_numbers_ok (w : World) : Pure Tryd.prog 106 [] w (.agg (ws K).toArray) := by
  refine enter Tryd.func106 Tryd.ntmps106 ?_
  refine c_seq <| c_reg <| s_alloc fun b0 => s_nil <| q_then <| c_seq <| c_reg <| s_y (y_blda (cs := ws K)) <| s_sta (vs := (ws K).toArray) (h1 := fun v hv => ws_one (by simpa using hv)) ?_
  refine s_nil <| q_then <| c_ret <| ?_
  exact ret1 Tryd.results106 rv_ca fun w' hw => ⟨rfl, hw.sub (List.nil_sublist _)⟩

theorem ref02_block_ok (w : World) (s : S8) (a : Option Addr) (c : Nat) (q : List UInt8) (hr : Rd w a (bs q)) (hq : 64 ≤ q.length) (hqc : q.length ≤ c) :
    Pure Tryd.prog 91 [.agg (ws s.l).toArray, .slice a 64 c] w (.agg (ws (blk s q).l).toArray) := by
  refine enter Tryd.func91 Tryd.ntmps91 ?_
  refine c_seq <| c_reg <| s_box rfl fun b2 => s_alloc fun b4 => s_nil <| q_then <| c_seq <| c_reg <| s_y (y_blda (cs := ws (wa q 0))) <| s_alloc fun b5 => s_sta (vs := (ws (wa q 0)).toArray) (h1 := fun v hv => ws_one (by simpa using hv)) ?_
  refine s_nil <| q_then <| c_seq <| c_seq <| c_reg <| s_y y_as <| s_nil <| q_then <| c_block <| ?_
  refine c_loop (fun t : Nat => [(1, .slice a 64 c), (2, .pointer (some ⟨b2, 0, none⟩)), (4, .pointer (some ⟨b4, 0, none⟩)), (5, .pointer (some ⟨b5, 0, none⟩)), (6, I t)]) (fun t => [.blk b5 (.cells (ws (wa q t)).toArray 129 (0, 0)), .blk b4 (.cells (ws [0, 0, 0, 0, 0, 0, 0, 0]).toArray 99 (0, 0)), .blk b2 (.cells (ws s.l).toArray 99 (0, 0))]) (fun t => t ≤ 16) (fun t => 16 - t) 0 (by omega) ⟨rfl, rfl, rfl, rfl, rfl, trivial⟩ (by exact List.Sublist.refl _) ?_
  intro t ht
  refine c_seq <| c_seq <| c_reg <| s_y y_mv <| s_y y_lss <| s_nil <| q_then <| c_ifd (fun h24 => ?_) (fun h24 => ?_)
  · have hd : (q.drop (4 * t)).length = q.length - 4 * t := by simp
    refine c_skip <| q_then <| c_seq <| c_block <| c_reg <| s_y y_mv <| s_y y_mv <| s_y y_mv <| s_y y_mul <| s_y y_mv <| s_y y_mul <| s_y y_add <| s_y y_sllh <| ?_
    rw [show (4 * (t : Int)).toNat = 4 * t by omega, show (4 * (t : Int) + 4).toNat - 4 * t = 4 by omega]
    refine s_pure (fun w' hw => ref02_word_ok w' (sa a (4 * t) c 1) 4 (c - 4 * t) (q.drop (4 * t)) (by have h1 := (rdW0 (l := []) hr).sa (i := 4 * t) (c := c) (s := 1) (by rw [bs_length]; omega) w (St.refl w); rw [Nat.mul_one, ← bs_drop] at h1; exact h1.st hw) (by omega) (by omega)) <| s_y (y_ixn t) <| s_stw (?_) (hl := ?_)
    · have e : (if t < 16 then word q (4 * t) else (wl q t).getD (t - 16) 0 + sg0 ((wl q t).getD (t - 15) 0) + (wl q t).getD (t - 7) 0 + sg1 ((wl q t).getD (t - 2) 0)) = word (q.drop (4 * t)) 0 := by
        rw [if_pos (by omega), word_drop]
      rw [← e, wa_set q (by omega)]
      exact s_nil <| q_nb <| q_then <| c_reg <| s_y y_mv <| s_y y_add <| s_y y_as <| s_nil <| q_round (t + 1) (by omega) (by omega) ⟨rfl, rfl, rfl, rfl, rfl, trivial⟩ (List.Sublist.refl _)
    · rw [wa_length q (by omega)]; omega
  · obtain rfl : t = 16 := by omega
    refine c_exit <| q_ex <| q_ex <| q_exb <| q_then <| c_seq <| c_seq <| c_reg <| s_y y_as <| s_nil <| q_then <| c_block <| ?_
    refine c_loop (fun t : Nat => [(2, .pointer (some ⟨b2, 0, none⟩)), (4, .pointer (some ⟨b4, 0, none⟩)), (5, .pointer (some ⟨b5, 0, none⟩)), (7, I t)]) (fun t => [.blk b5 (.cells (ws (wa q t)).toArray 129 (0, 0)), .blk b4 (.cells (ws [0, 0, 0, 0, 0, 0, 0, 0]).toArray 99 (0, 0)), .blk b2 (.cells (ws s.l).toArray 99 (0, 0))]) (fun t => 16 ≤ t ∧ t ≤ 64) (fun t => 64 - t) 16 (by omega) ⟨rfl, rfl, rfl, rfl, trivial⟩ (by exact List.Sublist.refl _) ?_
    rintro t ⟨ht, ht2⟩
    have hwl := wa_length q ht2
    refine c_seq <| c_seq <| c_reg <| s_y y_mv <| s_y y_lss <| s_nil <| q_then <| c_ifd (fun h38 => ?_) (fun h38 => ?_)
    · have e := wa_set q (t := t) (by omega)
      rw [if_neg (by omega), ← wa_get q (show t - 16 < t by omega), ← wa_get q (show t - 15 < t by omega), ← wa_get q (show t - 7 < t by omega), ← wa_get q (show t - 2 < t by omega)] at e
      refine c_skip <| q_then <| c_seq <| c_block <| c_seq <| c_reg <| s_y y_mv <| s_y y_sub <| s_y (y_ixn (t - 15)) <| s_y y_ldbw <| s_y y_as <| s_nil <| q_then <| c_seq <| c_reg <| s_y y_mv <| s_y y_sub <| s_y (y_ixn (t - 2)) <| s_y y_ldbw <| s_y y_as <| s_nil <| q_then <| ?_
      refine c_regF 29 <| f_y 0 rfl y_mv <| f_y 1 rfl y_mv <| f_y 2 rfl y_sub <| f_y 3 rfl (y_ixn (t - 16)) <| f_y 4 rfl y_ldbw <| f_y 5 rfl y_mv <| f_y 7 rfl y_mv <| f_y 10 rfl y_mv <| f_y 11 rfl y_shr32 <| f_y 14 rfl y_mv <| f_y 15 rfl y_sub <| f_y 16 rfl (y_ixn (t - 7)) <| f_y 17 rfl y_ldbw <| f_y 19 rfl y_mv <| f_y 21 rfl y_mv <| f_y 24 rfl y_mv <| f_y 25 rfl y_shr32 <| f_w 6 rfl <| s_pure (fun w' hw => ref02_ror_ok w' _ 7 (by decide) (by decide)) <| f_k <| f_w 8 rfl <| s_pure (fun w' hw => ref02_ror_ok w' _ 18 (by decide) (by decide)) <| f_k <| f_y 9 rfl y_xor32 <| f_y 12 rfl y_xor32 <| f_y 13 rfl y_add32 <| f_y 18 rfl y_add32 <| f_w 20 rfl <| s_pure (fun w' hw => ref02_ror_ok w' _ 17 (by decide) (by decide)) <| f_k <| f_w 22 rfl <| s_pure (fun w' hw => ref02_ror_ok w' _ 19 (by decide) (by decide)) <| f_k <| f_y 23 rfl y_xor32 <| f_y 26 rfl y_xor32 <| f_y 27 rfl y_add32 <| f_y 28 rfl (y_ixn t) <| f_w 29 rfl <| s_stw (p := (wa q t).getD (t - 16) 0 + sg0 ((wa q t).getD (t - 15) 0) + (wa q t).getD (t - 7) 0 + sg1 ((wa q t).getD (t - 2) 0)) ?_
      rw [e]
      refine f_z <| q_nb <| q_then <| c_reg <| s_y y_mv <| s_y y_add <| s_y y_as <| s_nil <| q_round (t + 1) (by omega) (by omega) ⟨rfl, rfl, rfl, rfl, trivial⟩ (List.Sublist.refl _)
    · obtain rfl : t = 64 := by omega
      rw [wa_64]
      have hwl4 : (wl q 64).length = 64 := wl_length _ _
      have hblk : blk s q = s.add (rnds K (wl q 64) s 64) := rfl
      rw [hblk]
      obtain ⟨WW, hW⟩ : ∃ WW, wl q 64 = WW := ⟨_, rfl⟩
      obtain ⟨KK, hKK⟩ : ∃ KK, K = KK := ⟨_, rfl⟩
      have hKl : KK.length = 64 := by rw [← hKK]; rfl
      have hnum : ∀ w', Pure Tryd.prog 106 [] w' (.agg (ws KK).toArray) := fun w' => by rw [← hKK]; exact ref02_numbers_ok w'
      rw [hW] at hwl4
      rw [hW, hKK]
      refine c_exit <| q_ex <| q_ex <| q_exb <| q_then <| c_seq <| c_reg <| s_pure (fun w' hw => hnum w') <| s_alloc fun b10 => s_sta (vs := (ws KK).toArray) (h1 := fun v hv => ws_one (by simpa using hv)) (hl := by rw [List.size_toArray, ws_length, hKl]; rfl) (hs1 := by rw [List.size_toArray, ws_length, hKl]) ?_
      refine s_nil <| q_then <| c_seq <| c_regd <| d_y y_ixa1 <| d_y (y_ld (v := W32 s.a)) <| d_y y_ixa1 <| d_y (y_ld (v := W32 s.b)) <| d_y y_ixa1 <| d_y (y_ld (v := W32 s.c)) <| d_y y_ixa1 <| d_y (y_ld (v := W32 s.d)) <| d_y y_ixa1 <| d_y (y_ld (v := W32 s.e)) <| d_y y_ixa1 <| d_y (y_ld (v := W32 s.f)) <| d_y y_ixa1 <| d_y (y_ld (v := W32 s.g)) <| d_y y_ixa1 <| d_y (y_ld (v := W32 s.h)) <| d_y y_as <| d_y y_as <| d_y y_as <| d_y y_as <| d_y y_as <| d_y y_as <| d_y y_as <| d_y y_as <| d_nil <| q_then <| c_seq <| c_seq <| c_reg <| s_y y_as <| s_nil <| q_then <| c_block <| ?_
      refine c_loop (fun t : Nat => [(2, .pointer (some ⟨b2, 0, none⟩)), (4, .pointer (some ⟨b4, 0, none⟩)), (5, .pointer (some ⟨b5, 0, none⟩)), (10, .pointer (some ⟨b10, 0, none⟩)), (11, W32 (rnds KK WW s t).a), (12, W32 (rnds KK WW s t).b), (13, W32 (rnds KK WW s t).c), (14, W32 (rnds KK WW s t).d), (15, W32 (rnds KK WW s t).e), (16, W32 (rnds KK WW s t).f), (17, W32 (rnds KK WW s t).g), (18, W32 (rnds KK WW s t).h), (19, I t)]) (fun t => [.blk b10 (.cells (ws KK).toArray 129 (0, 0)), .blk b5 (.cells (ws WW).toArray 129 (0, 0)), .blk b4 (.cells (ws [0, 0, 0, 0, 0, 0, 0, 0]).toArray 99 (0, 0)), .blk b2 (.cells (ws s.l).toArray 99 (0, 0))]) (fun t => t ≤ 64) (fun t => 64 - t) 0 (by omega) ⟨rfl, rfl, rfl, rfl, rfl, rfl, rfl, rfl, rfl, rfl, rfl, rfl, rfl, trivial⟩ (List.Sublist.refl _) ?_
      intro t ht3
      refine c_seq <| c_seq <| c_reg <| s_y y_mv <| s_y y_lss <| s_nil <| q_then <| c_ifd (fun h96 => ?_) (fun h96 => ?_)
      · have hrnd : rnds KK WW s (t + 1) = rnd (rnds KK WW s t) (KK.getD t 0) (WW.getD t 0) := rfl
        obtain ⟨v, hv⟩ : ∃ v, rnds KK WW s t = v := ⟨_, rfl⟩
        rw [hv] at hrnd
        rw [hv]
        refine c_skip <| q_then <| c_seq <| c_block <| c_seq <| c_regd <| d_y y_mv <| d_y y_mv <| d_pure (fun w' hw => ref02_ror_ok w' v.e 6 (by decide) (by decide)) <| d_y y_mv <| d_pure (fun w' hw => ref02_ror_ok w' v.e 11 (by decide) (by decide)) <| d_y y_xor32 <| d_y y_mv <| d_pure (fun w' hw => ref02_ror_ok w' v.e 25 (by decide) (by decide)) <| d_y y_xor32 <| d_y y_add32 <| d_y y_mv <| d_y y_mv <| d_y y_and32 <| d_y y_mv <| d_y y_not32 <| d_y y_mv <| d_y y_and32 <| d_y y_xor32 <| ?_
        rw [ch_eq]
        refine d_y y_add32 <| d_y y_mv <| d_y (y_ixn t) <| d_y (y_ldbw (q := KK)) <| d_y y_add32 <| d_y y_mv <| d_y (y_ixn t) <| d_y (y_ldbw (q := WW)) <| d_y y_add32 <| d_y (y_as (v := W32 (p1 v (KK.getD t 0) (WW.getD t 0)))) <| d_nil <| q_then <| c_seq <| c_reg <| s_y y_mv <| s_pure (fun w' hw => ref02_ror_ok w' v.a 2 (by decide) (by decide)) <| s_y y_mv <| s_pure (fun w' hw => ref02_ror_ok w' v.a 13 (by decide) (by decide)) <| s_y y_xor32 <| s_y y_mv <| s_pure (fun w' hw => ref02_ror_ok w' v.a 22 (by decide) (by decide)) <| s_y y_xor32 <| s_y y_mv <| s_y y_mv <| s_y y_and32 <| s_y y_mv <| s_y y_mv <| s_y y_and32 <| s_y y_xor32 <| s_y y_mv <| s_y y_mv <| s_y y_and32 <| s_y y_xor32 <| ?_
        rw [maj_eq]
        refine s_y y_add32 <| s_y (y_as (v := W32 (q1 v))) <| s_nil <| q_then <| c_reg <| s_y y_mv <| s_y y_mv <| s_y y_mv <| s_y y_mv <| s_y y_mv <| s_y y_add32 <| s_y y_mv <| s_y y_mv <| s_y y_mv <| s_y y_mv <| s_y y_mv <| s_y y_add32 <| s_y y_as <| s_y y_as <| s_y y_as <| s_y y_as <| s_y y_as <| s_y y_as <| s_y y_as <| s_y y_as <| s_nil <| q_nb <| q_then <| c_reg <| s_y y_mv <| s_y y_add <| s_y y_as <| s_nil <| q_round (t + 1) (by omega) (by omega) ?_ (List.Sublist.refl _)
        rw [hrnd]
        exact ⟨rfl, rfl, rfl, rfl, rfl, rfl, rfl, rfl, rfl, rfl, rfl, rfl, rfl, trivial⟩
      · obtain rfl : t = 64 := by omega
        obtain ⟨v, hv⟩ : ∃ v, rnds KK WW s 64 = v := ⟨_, rfl⟩
        rw [hv]
        refine c_exit <| q_ex <| q_ex <| q_exb <| q_then <| c_seq <| c_reg <| s_y y_ixa1 <| s_y (y_ld (v := W32 s.a)) <| s_y y_mv <| s_y y_add32 <| s_y y_ixa1 <| s_y (y_ld (v := W32 s.b)) <| s_y y_mv <| s_y y_add32 <| s_y y_ixa1 <| s_y (y_ld (v := W32 s.c)) <| s_y y_mv <| s_y y_add32 <| s_y y_ixa1 <| s_y (y_ld (v := W32 s.d)) <| s_y y_mv <| s_y y_add32 <| s_y y_ixa1 <| s_y (y_ld (v := W32 s.e)) <| s_y y_mv <| s_y y_add32 <| s_y y_ixa1 <| s_y (y_ld (v := W32 s.f)) <| s_y y_mv <| s_y y_add32 <| s_y y_ixa1 <| s_y (y_ld (v := W32 s.g)) <| s_y y_mv <| s_y y_add32 <| s_y y_ixa1 <| s_y (y_ld (v := W32 s.h)) <| s_y y_mv <| s_y y_add32 <| s_y (y_blda (cs := ws (s.add v).l)) <| s_sta (vs := (ws (s.add v).l).toArray) (h1 := fun v hv => ws_one (by simpa using hv)) ?_
        refine s_nil <| q_then <| c_ret <| ?_
        exact ret1 Tryd.results91 rv_ca fun w' hw => ⟨rfl, hw.sub (List.nil_sublist _)⟩

end Go.Proofs.YtchpcabehchfjaaDoor
/- The specification of digest: the hash of bytes, under a tag. -/
namespace Go.Proofs.YtchpcabehchfjaaDoor
open Go Eng Sha

theorem ref02_padded_ok (w : World) (a : Option Addr) (c : Nat) (q : List UInt8) (hr : Rd w a (bs q)) (hl : q.length ≤ 140737488355000) :
    GivesB Tryd.prog 90 [.slice a q.length c] w (padded q) := by
  have hz := zn_spec q.length
  refine enter Tryd.func90 Tryd.ntmps90 ?_
  refine c_seq <| c_reg <| s_y y_as <| s_nil <| q_then <| c_seq <| c_reg <| s_bsl0 fun b6 => s_y y_mv <| s_app (m := q.length) (srcB (q := q) (rdW0 hr) rfl) (h1 := fun v hv => bs_one hv) fun a8 c8 h8 => ?_
  rw [List.nil_append, Nat.zero_add]
  refine s_bslr (cs := bs [128]) fun b9 => s_app (m := 1) (srcB (q := [128]) (rdR (.head _))) (h1 := fun v hv => bs_one hv) fun a10 c10 h10 => ?_
  rw [← bs_append]
  refine s_y y_as <| s_nil <| q_then <| c_seq <| c_block <| ?_
  refine c_loop3 (fun (k : Nat) (a' : Option Addr) (c' : Nat) => [(0, .slice a q.length c), (3, .slice a' (q.length + 1 + k) c')]) (fun k a' c' => [.row a' c' 5 1 (q.length + 1 + k) (bs (q ++ [128] ++ List.replicate k 0))]) (fun k _ _ => k ≤ zn q.length) (fun k _ _ => zn q.length - k) 0 a10 c10 (by omega) ⟨rfl, rfl, trivial⟩ (by rw [List.replicate_zero, List.append_nil]; exact .cons _ (.refl _)) ?_
  intro k a' c' hk
  refine c_seq <| c_seq <| c_reg <| s_y y_mv <| s_y y_len <| s_y y_rem <| s_y y_neq <| s_nil <| q_then <| c_ifn (fun h14 => ?_) (fun h14 => ?_)
  · have hlt : k < zn q.length := by unfold zn at *; omega
    refine c_skip <| q_then <| c_block <| c_reg <| s_y y_mv <| s_bslr (cs := bs [0]) fun b16 => s_app (m := 1) (srcB (q := [0]) (rdR (.head _))) (h1 := fun v hv => bs_one hv) fun a17 c17 h17 => s_y y_as <| s_nil <| q_nb <| ?_
    refine q_round3 (y := a') (z := c') (k + 1) a17 c17 (by omega) (by omega) ⟨rfl, rfl, trivial⟩ ?_
    rw [← bs_append, List.append_assoc (q ++ [128]), ← List.replicate_succ']
    exact List.sublist_cons_self _ _
  · have hk2 : k = zn q.length := by unfold zn at *; omega
    have hbl : (be (q.length * 8) 8).length = 8 := be_length _ _
    refine c_exit <| q_ex <| q_ex <| q_exb <| q_then <| c_seq <| c_reg <| s_y y_mv <| s_y y_len <| s_y y_cvn <| s_y (y_mul64 (q := 8)) <| s_y y_as <| s_nil <| q_then <| c_seq <| c_seq <| c_reg <| s_y y_as <| s_nil <| q_then <| c_block <| ?_
    have hP : ∀ j, j ≤ 8 → (q ++ [128] ++ List.replicate k 0 ++ (be (q.length * 8) 8).take j).length = q.length + 1 + k + j := by
      intro j hj
      simp only [List.length_append, List.length_replicate, List.length_take, List.length_cons, List.length_nil, hbl]; omega
    refine c_loop3 (fun (j : Nat) (a' : Option Addr) (c' : Nat) => [(3, .slice a' (q.length + 1 + k + j) c'), (4, U (q.length * 8)), (5, I (7 - (j : Int)))]) (fun j a' c' => [.row a' c' 5 1 (q.length + 1 + k + j) (bs (q ++ [128] ++ List.replicate k 0 ++ (be (q.length * 8) 8).take j))]) (fun j _ _ => j ≤ 8) (fun j _ _ => 8 - j) 0 a' c' (by omega) ⟨rfl, rfl, rfl, trivial⟩ (by rw [List.take_zero, List.append_nil]; exact List.Sublist.refl _) ?_
    intro j a2 c2 hj
    refine c_seq <| c_seq <| c_reg <| s_y y_mv <| s_y y_geq <| s_nil <| q_then <| c_ifd (fun h23 => ?_) (fun h23 => ?_)
    · have hg := be_get (q.length * 8) 8 j (by omega)
      have hx : UInt8.ofNat (((((q.length * 8 : Nat) : Int) / 2 ^ (8 * (7 - (j : Int))).toNat) % 256).toNat) = (be (q.length * 8) 8).getD j 0 := by
        rw [hg, show (8 * (7 - (j : Int))).toNat = 8 * (8 - 1 - j) by omega]
        apply UInt8.toNat_inj.1
        have e3 : (((q.length * 8 : Nat) : Int)) / 2 ^ (8 * (8 - 1 - j)) = ((q.length * 8 / 2 ^ (8 * (8 - 1 - j)) : Nat) : Int) := by simp
        rw [e3, UInt8.toNat_ofNat', UInt8.toNat_ofNat']
        omega
      refine c_skip <| q_then <| c_seq <| c_block <| c_reg <| s_y y_mv <| s_y y_mv <| s_y y_mv <| s_y y_mul <| s_y y_sar <| s_y y_cv8 <| ?_
      rw [hx]
      refine s_bslr (cs := bs [(be (q.length * 8) 8).getD j 0]) fun b32 => s_app (m := 1) (srcB (q := [(be (q.length * 8) 8).getD j 0]) (rdR (.head _))) (h1 := fun v hv => bs_one hv) fun a33 c33 h33 => s_y y_as <| s_nil <| q_nb <| q_then <| c_reg <| s_y y_mv <| s_y y_sub <| s_y y_as <| s_nil <| ?_
      rw [show (7 : Int) - (j : Int) - 1 = 7 - ((j + 1 : Nat) : Int) by omega]
      refine q_round3 (y := a2) (z := c2) (j + 1) a33 c33 (by omega) (by omega) ⟨rfl, rfl, rfl, trivial⟩ ?_
      rw [← bs_append, List.append_assoc (q ++ [128] ++ List.replicate k 0), ← take_snoc (be (q.length * 8) 8) j 0 (by omega)]
      exact List.sublist_cons_self _ _
    · obtain rfl : j = 8 := by omega
      have hpe : q ++ [128] ++ List.replicate k 0 ++ (be (q.length * 8) 8).take 8 = padded q := by
        rw [List.take_of_length_le (by omega), hk2, padded]; simp
      have hpl : q.length + 1 + k + 8 = (padded q).length := by rw [padded_length]; omega
      rw [hpe, hpl]
      refine c_exit <| q_ex <| q_ex <| q_exb <| q_then <| c_seq <| c_reg <| s_y y_mv <| s_y y_as <| s_nil <| q_then <| c_ret <| ?_
      exact ret1 Tryd.results90 rv_t fun w' hw => ⟨(a2, c2), trivial, rfl, hw⟩

theorem flat_get : ∀ (l : List UInt32) (j r : Nat), j < l.length → r < 4 → (l.flatMap (fun v => be v.toNat 4)).getD (4 * j + r) 0 = (be (l.getD j 0).toNat 4).getD r 0
  | [], _, _, h, _ => by simp at h
  | x :: l, 0, r, _, hr => by
    simp only [List.flatMap_cons, List.getD_eq_getElem?_getD, Nat.mul_zero, Nat.zero_add]
    rw [List.getElem?_append_left (by rw [be_length]; exact hr)]
    rfl
  | x :: l, j + 1, r, h, hr => by
    have ih := flat_get l j r (by simpa using h) hr
    simp only [List.flatMap_cons, List.getD_eq_getElem?_getD] at ih ⊢
    rw [List.getElem?_append_right (by rw [be_length]; omega), be_length, show 4 * (j + 1) + r - 4 = 4 * j + r by omega, ih]
    rfl
theorem out_get (s : S8) (i : Nat) (h : i < 32) : (out s).getD i 0 = UInt8.ofNat ((s.l.getD (i / 4) 0).toNat / 2 ^ (24 - 8 * (i % 4))) := by
  have h1 := flat_get s.l (i / 4) (i % 4) (by rw [l8]; omega) (by omega)
  have h2 : s.l.flatMap (fun v => be v.toNat 4) = out s := by simp [S8.l, out, List.append_assoc]
  rw [h2, Nat.div_add_mod] at h1
  rw [h1, be_get _ _ _ (by omega), show 8 * (4 - 1 - i % 4) = 24 - 8 * (i % 4) by omega]

theorem ref02_Sum_ok (w : World) (a : Option Addr) (c : Nat) (q : List UInt8) (hr : Rd w a (bs q)) (hl : q.length ≤ 140737488355000) :
    Pure Tryd.prog 70 [.slice a q.length c] w (.agg (bs (Sha.sum q)).toArray) := by
  have hp := zn_spec q.length
  have hpl := padded_length q
  refine enter Tryd.func70 Tryd.ntmps70 ?_
  refine c_seq <| c_reg <| s_alloc fun b2 => s_nil <| q_then <| c_seq <| c_reg <| s_y (y_blda (cs := ws init.l)) <| s_alloc fun b3 => s_sta (vs := (ws init.l).toArray) (h1 := fun v hv => ws_one (by simpa using hv)) ?_
  refine s_nil <| q_then <| c_seq <| c_reg <| s_y y_mv <| s_gives (fun w' hw => ref02_padded_ok w' a c q (hr.st (hw.sub (List.nil_sublist _))) hl) fun x4 _ => s_y y_as <| s_nil <| q_then <| c_row fun hx1 hx2 => c_seq <| c_seq <| c_reg <| s_y y_as <| s_nil <| q_then <| c_block <| ?_
  obtain ⟨p, hpe⟩ : ∃ p, padded q = p := ⟨_, rfl⟩
  have hsum : Sha.sum q = out (abs init p (p.length / 64)) := by rw [← hpe]; rfl
  rw [hsum]
  rw [hpe] at hpl hx1 ⊢
  refine c_loop (fun k : Nat => [(2, .pointer (some ⟨b2, 0, none⟩)), (3, .pointer (some ⟨b3, 0, none⟩)), (4, .slice x4.1 p.length x4.2), (5, I ((64 * k : Nat) : Int))]) (fun k => [.row x4.1 x4.2 5 1 p.length (bs p), .blk b3 (.cells (ws (abs init p k).l).toArray 99 (0, 0)), .blk b2 (.cells (bs (List.replicate 32 0)).toArray 47 (0, 0))]) (fun k => 64 * k ≤ p.length) (fun k => p.length - k) 0 (by omega) ⟨rfl, rfl, rfl, rfl, trivial⟩ (by exact List.Sublist.refl _) ?_
  intro k hk
  refine c_seq <| c_seq <| c_reg <| s_y y_mv <| s_y y_mv <| s_y y_len <| s_y y_lss <| s_nil <| q_then <| c_ifd (fun h14 => ?_) (fun h14 => ?_)
  · have hd : (p.drop (64 * k)).length = p.length - 64 * k := by simp
    have hm64 : p.length % 64 = 0 := by omega
    have hk2 : 64 * k + 64 ≤ p.length := by omega
    have hal : (ws (abs init p k).l).toArray.size = 8 := by rw [List.size_toArray, ws_length, l8]
    refine c_skip <| q_then <| c_seq <| c_block <| c_regF 7 <| f_y 0 rfl (y_lda (cs := (ws (abs init p k).l).toArray) (hl := hal)) <| f_y 1 rfl y_mv <| f_y 2 rfl y_mv <| f_y 3 rfl y_mv <| f_y 4 rfl y_add <| f_y 5 rfl y_sllh <| ?_
    rw [Int.toNat_natCast, show (((64 * k : Nat) : Int) + 64).toNat - 64 * k = 64 by omega]
    refine f_w 6 rfl <| s_pure (fun w' hw => ref02_block_ok w' (abs init p k) (sa x4.1 (64 * k) x4.2 1) (x4.2 - 64 * k) (p.drop (64 * k)) (by
      have h1 := RdS.sa (W := w) (Bo := []) (a := x4.1) (xs := bs p) (i := 64 * k) (c := x4.2) (s := 1) (rdR (List.Mem.head _)) (by rw [bs_length]; omega) w' hw
      rwa [Nat.mul_one, ← bs_drop] at h1) (by omega) (by omega)) <| f_k <| ?_
    rw [← abs_succ]
    refine f_w 7 rfl <| s_sta (vs := (ws (abs init p (k + 1)).l).toArray) (h1 := fun v hv => ws_one (by simpa using hv)) (hl := by rw [hal, List.size_toArray, ws_length, l8]) (hs1 := by rw [List.size_toArray, ws_length, l8]) ?_
    refine f_z <| q_nb <| q_then <| c_reg <| s_y y_mv <| s_y y_add <| s_y y_as <| s_nil <| ?_
    rw [show ((64 * k : Nat) : Int) + 64 = ((64 * (k + 1) : Nat) : Int) by omega]
    exact q_round (k + 1) (by omega) (by omega) ⟨rfl, rfl, rfl, rfl, trivial⟩ (List.Sublist.refl _)
  · have hk3 : k = p.length / 64 := by omega
    rw [← hk3]
    obtain ⟨s, hs⟩ : ∃ s, abs init p k = s := ⟨_, rfl⟩
    rw [hs]
    have hol := out_length s
    refine c_exit <| q_ex <| q_ex <| q_exb <| q_then <| c_seq <| c_reg <| s_y (y_blda (cs := bs (List.replicate 32 0))) <| s_alloc fun b6 => s_sta (vs := (bs (List.replicate 32 0)).toArray) (h1 := fun v hv => bs_one (by simpa using hv)) ?_
    refine s_nil <| q_then <| c_seq <| c_seq <| c_reg <| s_y y_as <| s_nil <| q_then <| c_block <| ?_
    refine c_loop (fun i : Nat => [(2, .pointer (some ⟨b2, 0, none⟩)), (3, .pointer (some ⟨b3, 0, none⟩)), (6, .pointer (some ⟨b6, 0, none⟩)), (7, I i)]) (fun i => [.blk b6 (.cells (bs ((out s).take i ++ List.replicate (32 - i) 0)).toArray 47 (0, 0)), .blk b3 (.cells (ws s.l).toArray 99 (0, 0)), .blk b2 (.cells (bs (List.replicate 32 0)).toArray 47 (0, 0))]) (fun i => i ≤ 32) (fun i => 32 - i) 0 (by omega) ⟨rfl, rfl, rfl, rfl, trivial⟩ (.cons_cons _ (.cons _ (.refl _))) ?_
    intro i hi
    refine c_seq <| c_seq <| c_reg <| s_y y_mv <| s_y y_lss <| s_nil <| q_then <| c_ifd (fun h26 => ?_) (fun h26 => ?_)
    · have hsl := l8 s
      have hx : UInt8.ofNat ((((s.l.getD (i / 4) 0 >>> UInt32.ofNat (24 - 8 * (i % 4))).toNat : Int) % 256).toNat) = (out s).getD i 0 := by
        rw [out_get s i (by omega), UInt32.toNat_shiftRight, Nat.shiftRight_eq_div_pow]
        have : (UInt32.ofNat (24 - 8 * (i % 4))).toNat % 32 = 24 - 8 * (i % 4) := by rw [UInt32.toNat_ofNat']; omega
        rw [this]
        apply UInt8.toNat_inj.1
        rw [UInt8.toNat_ofNat', UInt8.toNat_ofNat']
        omega
      have hsf := set_fill (out s) i 32 0 ((out s).getD i 0) 0 (by omega) (by omega) rfl
      have hml : ((out s).take i ++ List.replicate (32 - i) (0 : UInt8)).length = 32 := by rw [List.length_append, List.length_take, List.length_replicate]; omega
      refine c_skip <| q_then <| c_seq <| c_block <| c_reg <| s_y y_mv <| s_y y_mv <| s_y y_quo <| s_y (y_ixn (i / 4)) <| s_y (y_ldbw (q := s.l)) <| s_y y_mv <| s_y y_rem <| s_y y_mul <| s_y y_sub <| s_y (y_shr32 (h0 := by omega) (h1 := by omega)) <| s_y y_cv8 <| ?_
      rw [show (24 - 8 * ((i : Int) % 4)).toNat = 24 - 8 * (i % 4) by omega, hx]
      refine s_y (y_ixn i) <| s_stb (q := (out s).take i ++ List.replicate (32 - i) 0) (p := (out s).getD i 0) ?_
      rw [hsf]
      exact s_nil <| q_nb <| q_then <| c_reg <| s_y y_mv <| s_y y_add <| s_y y_as <| s_nil <| q_round (i + 1) (by omega) (by omega) ⟨rfl, rfl, rfl, rfl, trivial⟩ (List.Sublist.refl _)
    · obtain rfl : i = 32 := by omega
      have hfin : (out s).take 32 ++ List.replicate (32 - 32) 0 = out s := by rw [List.take_of_length_le (by omega)]; simp
      rw [hfin]
      have hbo : (bs (out s)).toArray.size = 32 := by rw [List.size_toArray, bs_length, hol]
      refine c_exit <| q_ex <| q_ex <| q_exb <| q_then <| c_seq <| c_reg <| s_y (y_lda (cs := (bs (out s)).toArray) (hl := hbo)) <| s_sta (vs := (bs (out s)).toArray) (h1 := fun v hv => bs_one (by simpa using hv)) (hl := by rw [hbo]; rfl) (hs1 := hbo) ?_
      refine s_nil <| q_then <| c_ret <| ?_
      exact ret1 Tryd.results70 (rv_ca (hl := hbo)) fun w' hw => ⟨rfl, hw.sub (List.nil_sublist _)⟩

theorem ref02_Tagged_ok (w : World) (t : List UInt8) (a : Option Addr) (c : Nat) (q : List UInt8) (ht : t.length ≤ 140737488355000) (hr : Rd w a (bs q)) (hl : q.length ≤ 140737488354000) :
    Pure Tryd.prog 53 [.string (sb t), .slice a q.length c] w (.agg (bs (tagged t q)).toArray) := by
  have hs32 : (bs (Sha.sum t)).toArray.size = 32 := by rw [List.size_toArray, bs_length, sum_length]
  have hs33 : (bs (tagged t q)).toArray.size = 32 := by rw [List.size_toArray, bs_length, tagged_length]
  have hsl := sum_length t
  refine enter Tryd.func53 Tryd.ntmps53 ?_
  refine c_seq <| c_reg <| s_alloc fun b4 => s_nil <| q_then <| c_seq <| c_reg <| s_y y_mv <| s_s2b (q := t) fun b7 cap cs fz hcs hcap => s_pure (fun w' hw => ref02_Sum_ok w' (some ⟨b7, 0, none⟩) cap t (rdB (.head _) (fun i v hv => by rw [Nat.zero_add]; exact hcs i v hv) w' hw) ht) <| s_alloc fun b5 => s_sta (vs := (bs (Sha.sum t)).toArray) (h1 := fun v hv => bs_one (by simpa using hv)) (hl := by rw [hs32]; rfl) (hs1 := hs32) ?_
  refine s_nil <| q_then <| c_seq <| c_reg <| s_bsl0 fun b9 => s_y y_sla <| s_app (m := 32) (srcB (q := Sha.sum t) (rd_blkB (.tail _ (.head _))) hsl) (h1 := fun v hv => bs_one hv) fun a11 c11 h11 => ?_
  rw [List.nil_append, Nat.zero_add]
  refine s_y y_mv <| s_app (m := q.length) (srcB (q := q) (rdW0 hr) rfl) (h1 := fun v hv => bs_one hv) fun a13 c13 h13 => ?_
  have hlen : 32 + q.length = (Sha.sum t ++ q).length := by rw [List.length_append, hsl]
  rw [← bs_append, hlen]
  refine s_pure (fun w' hw => ref02_Sum_ok w' a13 c13 (Sha.sum t ++ q) (Res.rd (hw.own _ (.head _)).1) (by omega)) <| s_sta (vs := (bs (tagged t q)).toArray) (h1 := fun v hv => bs_one (by simpa using hv)) (hl := by rw [hs33]; rfl) (hs1 := hs33) ?_
  refine s_nil <| q_then <| c_ret <| ?_
  exact ret1 Tryd.results53 (rv_ca (hl := hs33)) fun w' hw => ⟨rfl, hw.sub (List.nil_sublist _)⟩
end Go.Proofs.YtchpcabehchfjaaDoor
