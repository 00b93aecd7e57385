/- The package digest: a block, the hash. -/
import Derived.Test.YtjfiggbgpplopaaDoorSha
import Derived.Test.YtjfiggbgpplopaaDoorDrawF
namespace Go.Proofs.YtjfiggbgpplopaaDoor
open Go Eng Sha

theorem digest_absorb_ok (w : World) (b : Nat) (et : TypeId) (s : S8) (a : Option Addr) (c : Nat) (q : List UInt8) (hg : LS w) (hb : w.heap[b]? = some (.cells (ws s.l).toArray et (0, 0))) (hr : Rd w a (bs q))
    (hne : a.map (·.block) ≠ some b) (hgb : b ≠ 1) (hq : 64 ≤ q.length) (hc : 64 ≤ c) (hqc : q.length ≤ c) :
    Gives Tryd.prog 37 [.pointer (some ⟨b, 0, none⟩), .slice a 64 c] w [b] (fun _ : Unit => .tuple #[]) (fun _ => [.blk b (.cells (ws (blk s q).l).toArray et (0, 0))]) (fun _ => True) := by
  have hrB : ∀ {l : SH}, RdS w [b] l a (bs q) := rdW hr (by simpa using hne)
  have hKB : ∀ {l : SH}, RdS w [b] l (some ⟨1, 0, none⟩) (ws K) := rdW hg.2 (by simpa using Ne.symm hgb)
  refine enterB Tryd.func37 Tryd.ntmps37 hb ?_
  refine c_seq <| c_reg <| s_alloc fun b4 => s_nil <| q_then <| c_seq <| c_seq <| c_reg <| s_y y_mv <| s_nil <| q_then <| c_block <| ?_
  refine c_loop (fun t : Nat => [(0, .pointer (some ⟨b, 0, none⟩)), (1, .slice a 64 c), (4, .pointer (some ⟨b4, 0, none⟩)), (14, I t)]) (fun t => [.blk b4 (.cells (ws (wa q t)).toArray 104 (0, 0)), .blk b (.cells (ws s.l).toArray et (0, 0))]) (fun t => t ≤ 16) (fun t => 16 - t) 0 (by omega) ⟨rfl, rfl, rfl, rfl, trivial⟩ (by exact List.Sublist.refl _) ?_
  intro t ht
  refine c_seq <| c_reg <| s_y y_lss <| s_nil <| q_then <| c_seq <| c_ifd (fun h15 => ?_) (fun h15 => ?_)
  · have hd : (q.drop (4 * t)).length = q.length - 4 * t := by simp
    refine c_skip <| q_then <| c_seq <| c_block <| c_seq <| c_reg <| s_y y_mv <| s_y y_as <| s_nil <| q_then <| c_reg <| s_y y_mv <| s_y y_mv <| s_y y_mv <| s_y y_mul <| s_y y_sll <| ?_
    rw [show (4 * (t : Int)).toNat = 4 * t by omega]
    refine s_pure (fun w' hw => digest_word_ok w' (sa a (4 * t) c 1) (64 - 4 * t) (c - 4 * t) (q.drop (4 * t)) (by have h1 := (hrB (l := [])).sa (i := 4 * t) (c := c) (s := 1) (by rw [bs_length]; omega) w' (hw.sub (List.nil_sublist _)); rwa [Nat.mul_one, ← bs_drop] at h1) (by omega) (by omega)) <| s_y y_ixa1 <| s_stw (?_) (hl := ?_)
    · have e : (if t < 16 then word q (4 * t) else (wl q t).getD (t - 16) 0 + sg0 ((wl q t).getD (t - 15) 0) + (wl q t).getD (t - 7) 0 + sg1 ((wl q t).getD (t - 2) 0)) = word (q.drop (4 * t)) 0 := by
        rw [if_pos (by omega), word_drop]
      rw [Nat.zero_add, Int.toNat_natCast, ← e, wa_set q (by omega)]
      exact s_nil <| q_nb <| q_then <| c_reg <| s_y y_add <| s_y y_mv <| s_nil <| q_round (t + 1) (by omega) (by omega) ⟨rfl, rfl, rfl, rfl, trivial⟩ (List.Sublist.refl _)
    · rw [wa_length q (by omega)]; omega
  · obtain rfl : t = 16 := by omega
    refine c_exit <| q_ex <| q_ex <| q_exb <| q_then <| c_seq <| c_seq <| c_reg <| s_y y_as <| s_nil <| q_then <| c_block <| ?_
    refine c_loop (fun t : Nat => [(0, .pointer (some ⟨b, 0, none⟩)), (4, .pointer (some ⟨b4, 0, none⟩)), (6, I t)]) (fun t => [.blk b4 (.cells (ws (wa q t)).toArray 104 (0, 0)), .blk b (.cells (ws s.l).toArray et (0, 0))]) (fun t => 16 ≤ t ∧ t ≤ 64) (fun t => 64 - t) 16 (by omega) ⟨rfl, rfl, rfl, trivial⟩ (by exact List.Sublist.refl _) ?_
    rintro t ⟨ht, ht2⟩
    have hwl := wa_length q ht2
    refine c_seq <| c_seq <| c_reg <| s_y y_mv <| s_y y_lss <| s_nil <| q_then <| c_ifd (fun h26 => ?_) (fun h26 => ?_)
    · have e := wa_set q (t := t) (by omega)
      rw [if_neg (by omega), ← wa_get q (show t - 16 < t by omega), ← wa_get q (show t - 15 < t by omega), ← wa_get q (show t - 7 < t by omega), ← wa_get q (show t - 2 < t by omega)] at e
      refine c_skip <| q_then <| c_seq <| c_block <| c_seq <| c_regd <| d_y y_mv <| d_y y_sub <| d_y (y_ixn (t - 15)) <| d_y y_ldbw <| d_y y_mv <| d_y y_sub <| d_y (y_ixn (t - 2)) <| d_y y_ldbw <| d_y y_as <| d_y y_as <| d_nil <| q_then <| ?_
      refine c_regF 29 <| f_y 0 rfl y_mv <| f_y 1 rfl y_mv <| f_y 2 rfl y_sub <| f_y 3 rfl (y_ixn (t - 16)) <| f_y 4 rfl y_ldbw <| f_y 5 rfl y_mv <| f_y 7 rfl y_mv <| f_y 10 rfl y_mv <| f_y 11 rfl y_shr32 <| f_y 14 rfl y_mv <| f_y 15 rfl y_sub <| f_y 16 rfl (y_ixn (t - 7)) <| f_y 17 rfl y_ldbw <| f_y 19 rfl y_mv <| f_y 21 rfl y_mv <| f_y 24 rfl y_mv <| f_y 25 rfl y_shr32 <| f_w 6 rfl <| s_pure (fun w' hw => bits_RotateLeft32_ok w' _ 7 (by decide) (by decide)) <| f_k <| f_w 8 rfl <| s_pure (fun w' hw => bits_RotateLeft32_ok w' _ 18 (by decide) (by decide)) <| f_k <| f_y 9 rfl y_xor32 <| f_y 12 rfl y_xor32 <| f_y 13 rfl y_add32 <| f_y 18 rfl y_add32 <| f_w 20 rfl <| s_pure (fun w' hw => bits_RotateLeft32_ok w' _ 17 (by decide) (by decide)) <| f_k <| f_w 22 rfl <| s_pure (fun w' hw => bits_RotateLeft32_ok w' _ 19 (by decide) (by decide)) <| f_k <| f_y 23 rfl y_xor32 <| f_y 26 rfl y_xor32 <| f_y 27 rfl y_add32 <| f_y 28 rfl (y_ixn t) <| f_w 29 rfl <| s_stw (p := (wa q t).getD (t - 16) 0 + sg0 ((wa q t).getD (t - 15) 0) + (wa q t).getD (t - 7) 0 + sg1 ((wa q t).getD (t - 2) 0)) ?_
      rw [e]
      refine f_z <| q_nb <| q_then <| c_reg <| s_y y_mv <| s_y y_add <| s_y y_as <| s_nil <| q_round (t + 1) (by omega) (by omega) ⟨rfl, rfl, rfl, trivial⟩ (List.Sublist.refl _)
    · obtain rfl : t = 64 := by omega
      rw [wa_64]
      refine c_exit <| q_ex <| q_ex <| q_exb <| q_then <| c_seq <| c_reg <| s_y y_mv <| s_y y_nc <| s_y y_lda <| s_alloc fun b9 => s_sta (vs := (ws s.l).toArray) (h1 := fun v hv => ws_one (by simpa using hv)) ?_
      refine s_nil <| q_then <| c_seq <| c_seq <| c_reg <| s_y y_mv <| s_nil <| q_then <| c_block <| ?_
      refine c_loop (fun t : Nat => [(0, .pointer (some ⟨b, 0, none⟩)), (4, .pointer (some ⟨b4, 0, none⟩)), (9, .pointer (some ⟨b9, 0, none⟩)), (69, I t)]) (fun t => [.blk b9 (.cells (ws (rnds K (wl q 64) s t).l).toArray 74 (0, 0)), .blk b4 (.cells (ws (wl q 64)).toArray 104 (0, 0)), .blk b (.cells (ws s.l).toArray et (0, 0))]) (fun t => t ≤ 64) (fun t => 64 - t) 0 (by omega) ⟨rfl, rfl, rfl, rfl, trivial⟩ (by exact List.Sublist.refl _) ?_
      intro t ht3
      have hwl4 : (wl q 64).length = 64 := wl_length _ _
      refine c_seq <| c_reg <| s_y y_lss <| s_nil <| q_then <| c_seq <| c_ifd (fun h70 => ?_) (fun h70 => ?_)
      · have hK : t < K.length := by show t < 64; omega
        have hrnd : rnds K (wl q 64) s (t + 1) = rnd (rnds K (wl q 64) s t) (K.getD t 0) ((wl q 64).getD t 0) := rfl
        generalize hv : rnds K (wl q 64) s t = v at *
        generalize hW : wl q 64 = WW at *
        refine c_skip <| q_then <| c_seq <| c_block <| c_seq <| c_reg <| s_y y_mv <| s_y y_as <| s_nil <| q_then <| c_seq <| c_regd <| d_y y_ixa1 <| d_y (y_ld (v := W32 v.h)) <| d_y y_ixa1 <| d_y (y_ld (v := W32 v.e)) <| d_pure (fun w' hw => digest_rotated_ok w' v.e 6 11 25 (by decide) (by decide) (by decide)) <| d_y y_add32 <| d_y y_ixa1 <| d_y (y_ld (v := W32 v.g)) <| d_y y_ixa1 <| d_y (y_ld (v := W32 v.e)) <| d_y y_ixa1 <| d_y (y_ld (v := W32 v.f)) <| d_y y_ixa1 <| d_y (y_ld (v := W32 v.g)) <| d_y y_xor32 <| d_y y_and32 <| d_y y_xor32 <| d_y y_add32 <| d_y y_mv <| d_y y_ixa1 <| d_y (y_ldw (a := some ⟨1, 0, none⟩) (q := K) (hr := hKB) (hi := by rw [Int.toNat_natCast]; exact hK)) <| d_y y_add32 <| d_y y_mv <| d_y (y_ixn t) <| d_y (y_ldbw (q := WW)) <| d_y y_add32 <| d_y (y_as (v := W32 (p1 v (K.getD t 0) (WW.getD t 0)))) <| d_nil <| q_then <| ?_
        refine c_seq <| c_regd <| d_y y_ixa1 <| d_y (y_ld (v := W32 v.a)) <| d_pure (fun w' hw => digest_rotated_ok w' v.a 2 13 22 (by decide) (by decide) (by decide)) <| d_y y_ixa1 <| d_y (y_ld (v := W32 v.a)) <| d_y y_ixa1 <| d_y (y_ld (v := W32 v.b)) <| d_y y_and32 <| d_y y_ixa1 <| d_y (y_ld (v := W32 v.c)) <| d_y y_ixa1 <| d_y (y_ld (v := W32 v.a)) <| d_y y_ixa1 <| d_y (y_ld (v := W32 v.b)) <| d_y y_or32 <| d_y y_and32 <| d_y y_or32 <| d_y y_add32 <| d_y (y_as (v := W32 (q1 v))) <| d_nil <| q_then <| ?_
        generalize hp1 : p1 v (K.getD t 0) (WW.getD t 0) = pp at *
        refine c_seq <| c_regF 2 <| f_y 0 rfl y_slal <| f_y 1 rfl y_slah <| f_w 2 rfl <| s_cpv (k := 7) (m := 7) (off := 1) (cs := (ws v.l).toArray) (ys := ws v.l) (hr := rd_blkW) (h1 := fun v hv => ws_one hv) (hle := Nat.le_of_ble_eq_true rfl) (hrep := show Rep _ (.blk b9 (.cells (ws [v.a, v.a, v.b, v.c, v.d, v.e, v.f, v.g]).toArray 74 (0, 0))) _ _ from .head _) (hfit := Nat.le_of_ble_eq_true rfl) <| f_z <| q_then <| ?_
        refine c_seq <| c_reg <| s_y y_ixa1 <| s_y (y_ld (v := W32 v.d)) <| s_y y_mv <| s_y y_add32 <| s_y y_ixa1 <| s_stw (q := [v.a, v.a, v.b, v.c, v.d, v.e, v.f, v.g]) (hl := Nat.le_of_ble_eq_true rfl) ?_
        refine s_nil <| q_then <| c_reg <| s_y y_mv <| s_y y_mv <| s_y y_add32 <| s_y y_ixa1 <| s_stw (q := [v.a, v.a, v.b, v.c, v.d + pp, v.e, v.f, v.g]) (hl := Nat.le_of_ble_eq_true rfl) ?_
        refine s_nil <| q_nb <| q_then <| c_reg <| s_y y_add <| s_y y_mv <| s_nil <| ?_
        refine q_round (t + 1) (by omega) (by omega) ⟨rfl, rfl, rfl, rfl, trivial⟩ ?_
        rw [hrnd, show rnd v (K.getD t 0) (WW.getD t 0) = ⟨pp + q1 v, v.a, v.b, v.c, v.d + pp, v.e, v.f, v.g⟩ by rw [rnd, hp1]]
        exact List.Sublist.refl _
      · obtain rfl : t = 64 := by omega
        have hblk : blk s q = s.add (rnds K (wl q 64) s 64) := rfl
        rw [hblk]
        obtain ⟨v, hv⟩ : ∃ v, rnds K (wl q 64) s 64 = v := ⟨_, rfl⟩
        rw [hv]
        refine c_exit <| q_ex <| q_ex <| q_exb <| q_then <| c_seq <| c_reg <| s_y y_mv <| s_nil <| q_then <| c_block <| ?_
        refine c_loop (fun t : Nat => [(0, .pointer (some ⟨b, 0, none⟩)), (9, .pointer (some ⟨b9, 0, none⟩)), (129, I t)]) (fun t => [.blk b9 (.cells (ws v.l).toArray 74 (0, 0)), .blk b (.cells (ws ((s.add v).l.take t ++ s.l.drop t)).toArray et (0, 0))]) (fun t => t ≤ 8) (fun t => 8 - t) 0 (by omega) ⟨rfl, rfl, rfl, trivial⟩ (.cons_cons _ (.cons _ (List.Sublist.refl _))) ?_
        intro t ht4
        refine c_seq <| c_reg <| s_y y_lss <| s_nil <| q_then <| c_seq <| c_ifd (fun h130 => ?_) (fun h130 => ?_)
        · obtain ⟨hlen, hm⟩ := mix8 s v t (by omega)
          have hvl := l8 v
          obtain ⟨mm, hmm⟩ : ∃ mm, (s.add v).l.take t ++ s.l.drop t = mm := ⟨_, rfl⟩
          rw [hmm] at hlen hm ⊢
          refine c_skip <| q_then <| c_seq <| c_block <| c_seq <| c_reg <| s_y y_mv <| s_y y_as <| s_nil <| q_then <| c_regF 11 <| f_y 0 rfl y_mv <| f_y 1 rfl y_mv <| f_y 2 rfl y_nc <| f_y 3 rfl (y_ixn t) <| f_y 4 rfl (y_ldbw (q := mm)) <| f_y 5 rfl y_mv <| f_y 6 rfl (y_ixn t) <| f_y 7 rfl (y_ldbw (q := v.l)) <| f_y 8 rfl y_add32 <| f_w 9 rfl <| s_y y_nc <| f_k <| f_y 10 rfl (y_ixn t) <| f_w 11 rfl <| s_stw <| f_z <| ?_
          rw [hm]
          exact q_nb <| q_then <| c_reg <| s_y y_add <| s_y y_mv <| s_nil <| q_round (t + 1) (by omega) (by omega) ⟨rfl, rfl, rfl, trivial⟩ (List.Sublist.refl _)
        · obtain rfl : t = 8 := by omega
          refine c_exit <| q_ex <| q_ex <| q_exb <| ?_
          exact ret0 Tryd.results37 (fun w' hw => ⟨(), trivial, rfl, hw.sub (List.sublist_cons_self _ _)⟩) _ (.inr rfl)
end Go.Proofs.YtjfiggbgpplopaaDoor
