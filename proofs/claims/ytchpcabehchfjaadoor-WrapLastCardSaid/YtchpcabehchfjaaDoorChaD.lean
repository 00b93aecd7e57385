/- The cipher: bytes combined with the key stream, in both programs. -/
import Derived.Test.YtchpcabehchfjaaDoorChaC
namespace Eng
open Go Go.RowKit
section
variable {r : Option Nat} {P : Program} {n : Nat} {D : List Deferred} {W : World} {Bo : List Nat} {F : List (Nat × Value)} {l : SH} {Q : Exit → Act → World → Prop} {c : Code}
/-- a name for the loop's record -/
theorem c_gen {rc : Loop} (lx : Loop → SH) (h : ∀ rb, rb = rc → CP r P n D W Bo c Q F (lx rb)) : CP r P n D W Bo c Q F (lx rc) := h rc rfl
end
theorem Rd.none {W : World} {xs : List Value} (h : Rd W none xs) : xs = [] := by
  rcases h with h | ⟨b, off, cs, t, fz, e, _⟩
  · exact h
  · cases e
theorem rdO3 {W0 w : World} {l0 l : SH} (hs : St W0 [] w l0) {a : Option Addr} {xs : List Value} (h : Rd W0 a xs) : RdS w (keys l0) l a xs := fun w' hw => by
  by_cases hne : xs = []
  · rw [hne]; exact Rd.nil _ _
  · refine Rd.congr h fun b hb => ?_
    have h1 : b < W0.heap.size := h.lt hne hb
    rw [hw.old b (Nat.lt_of_lt_of_le h1 hs.size) ?_, hs.old b h1 (by simp)]
    intro hm
    obtain ⟨q, hq, hk⟩ := mem_keys.1 hm
    rcases (hs.own q hq).2 b hk with h2 | h2
    · omega
    · simp at h2
end Eng
namespace Cha
open Go Eng Sha
/-- so many bytes are combined -/
def cur (k n q : List UInt8) (t : Nat) : List UInt8 := (strm k n q).take t ++ q.drop t
theorem cur_length (k n q : List UInt8) (t : Nat) : (cur k n q t).length = q.length := by
  unfold cur; rw [List.length_append, List.length_take, List.length_drop, strm_length]; omega
theorem cur_all (k n q : List UInt8) {t : Nat} (h : q.length ≤ t) : cur k n q t = strm k n q := by
  unfold cur
  rw [List.take_of_length_le (by rw [strm_length]; exact h), List.drop_eq_nil_of_le h, List.append_nil]
theorem cur_get (k n q : List UInt8) {t : Nat} (h : t < q.length) : (cur k n q t).getD t 0 = q.getD t 0 := Go.Proofs.YtchpcabehchfjaaDoor.mix_get (strm k n q) q 0 t h (strm_length k n q)
theorem cur_set (k n q : List UInt8) {t : Nat} (h : t < q.length) : (cur k n q t).set t (q.getD t 0 ^^^ ks k n t) = cur k n q (t + 1) :=
  Go.Proofs.YtchpcabehchfjaaDoor.mix_set (strm k n q) q 0 _ t h (strm_length k n q) (strm_at k n q h)
theorem ks_in (k n : List UInt8) (i j : Nat) (h : j < 64) : ks k n (64 * i + j) = (blk k n (UInt32.ofNat (1 + i))).getD j 0 := by
  unfold ks
  rw [show (64 * i + j) / 64 = i by omega, show (64 * i + j) % 64 = j by omega]
theorem ofNat_succ (i : Nat) : UInt32.ofNat (1 + i) + 1 = UInt32.ofNat (1 + (i + 1)) := by
  apply UInt32.toNat_inj.1
  rw [UInt32.toNat_add, UInt32.toNat_ofNat', UInt32.toNat_ofNat']
  show ((1 + i) % 2 ^ 32 + 1) % 2 ^ 32 = (1 + (i + 1)) % 2 ^ 32
  omega
theorem bs_lset (q : List UInt8) (i : Nat) (x : UInt8) : (bs q).set i (B x) = bs (q.set i x) := by unfold bs; rw [List.map_set]
end Cha
namespace Go.Proofs.YtchpcabehchfjaaDoor
open Go Eng Sha Cha
set_option maxRecDepth 100000
theorem Clone_any (w : World) (a : Option Addr) (c : Nat) (q : List UInt8) (hr : Rd w a (bs q)) (hl : q.length < 1000000000) :
    Gives Tryd.prog 61 [.slice a q.length c] w [] (fun y : Option Addr × Nat => .slice y.1 q.length y.2) (fun y => [.row y.1 y.2 5 1 q.length (bs q)]) (fun y => 0 < q.length → y.1 ≠ none) := by
  by_cases hne : a = none
  · subst hne
    have h1 : q.length = 0 := by have := hr.none; rw [← bs_length, this]; rfl
    obtain rfl : q = [] := List.length_eq_zero_iff.1 h1
    exact (Clone_nil w 0 c).mono fun e w' ⟨h1, h2⟩ => ⟨(none, 0), (fun h => absurd h (by decide)), h1, h2.nilRow _ _⟩
  · exact (Clone_ok w a c q hr hl hne).mono fun e w' ⟨y, h1, h2⟩ => ⟨y, (fun _ => h1), h2⟩
theorem c_Stream_big (w : World) (a : Option Addr) (m c : Nat) (k n : List UInt8) (hm : 65536 < m) : Pure Tryd.prog 41 [.agg (bs k).toArray, .agg (bs n).toArray, .slice a m c] w (.tuple #[.slice none 0 0, I 60]) := by
  refine enterM Tryd.func41 Tryd.ntmps41 ?_
  refine c_seq <| c_reg <| s_box rfl fun b3 => s_box rfl fun b4 => s_y y_as <| s_y y_as <| s_nil <| q_then <| c_seq <| c_seq <| c_reg <| s_y y_mv <| s_y y_len <| s_kt (y_gtr (p := ((m : Nat) : Int)) (q := 65536)) (by omega) <| s_nil <| q_then <| c_t <| c_seq <| c_reg <| s_y y_as <| s_y y_as <| s_nil <| q_then <| c_ret <| q_ret <| ?_
  exact ret2M Tryd.results41 rv_t rv_t fun w' hw => ⟨rfl, hw.sub (List.nil_sublist _)⟩
theorem c_Stream_ok (w : World) (a : Option Addr) (c : Nat) (k n q : List UInt8) (hg : LC w) (hk : k.length = 32) (hn : n.length = 12) (hr : Rd w a (bs q)) (hl : q.length ≤ 65536) :
    Gives Tryd.prog 41 [.agg (bs k).toArray, .agg (bs n).toArray, .slice a q.length c] w [] (fun y : Option Addr × Nat => .tuple #[.slice y.1 q.length y.2, I 0]) (fun y => [.row y.1 y.2 5 1 q.length (bs (strm k n q))]) (fun _ => True) := by
  refine enterM Tryd.func41 Tryd.ntmps41 ?_
  refine c_seq <| c_reg <| s_box rfl fun b3 => s_box rfl fun b4 => s_y y_as <| s_y y_as <| s_nil <| q_then <| c_seq <| c_seq <| c_reg <| s_y y_mv <| s_y y_len <| s_kf (y_gtr (p := ((q.length : Nat) : Int)) (q := 65536)) (by omega) <| s_nil <| q_then <| c_f <| c_skip <| q_then <| c_seq <| c_reg <| s_y y_mv <| s_gives (fun w' hw => Clone_any w' a c q (hr.st hw) (by omega)) (fun y hy => ?_)
  obtain ⟨a0, c0⟩ := y
  refine s_row (fun hkc _ => ?_) (hm := .head _)
  refine s_y y_as <| s_nil <| q_then <| c_seq <| c_reg <| s_alloc fun b8 => s_st (b := b8) (v := W32 (UInt32.ofNat (1 + 0))) (cs := #[.int .u32 0]) (hl := Nat.zero_lt_one) ?_
  refine s_nil <| q_then <| c_seq <| c_seq <| c_reg <| s_y y_mv <| s_gives (fun w' hw => Chunk_ok w' a0 q.length c0) (fun y _ => ?_)
  obtain ⟨b62, b63⟩ := y
  refine s_nil <| q_then <| c_block <| ?_
  let M : Nat → Loop → Nat → Nat → SH := fun i rc L Dk => [.blk L (.loop rc), .blk Dk (.deferred (some [])), .blk b63 (.cells #[I 64] 3 (0, 0)), .blk b62 (.cells #[.slice a0 q.length c0] 22 (0, 0)), .blk b8 (.cells #[W32 (UInt32.ofNat (1 + i))] 94 (0, 0)), .row a0 c0 5 1 q.length (bs (cur k n q (64 * i))), .blk b4 (.cells (bs n).toArray 45 (0, 0)), .blk b3 (.cells (bs k).toArray 32 (0, 0))]
  refine c_rangeN (σ := Nat) (fun i => [.blk b63 (.cells #[I 64] 3 (0, 0)), .blk b62 (.cells #[.slice a0 q.length c0] 22 (0, 0)), .blk b8 (.cells #[W32 (UInt32.ofNat (1 + i))] 94 (0, 0)), .row a0 c0 5 1 q.length (bs (cur k n q (64 * i))), .blk b4 (.cells (bs n).toArray 45 (0, 0)), .blk b3 (.cells (bs k).toArray 32 (0, 0))]) (fun i => q.length ≤ 64 * i) (fun fn tm Dk L hfr w' hw' => ?_) (fun Dk i hi => ?_)
  rotate_left
  · rw [cur_all k n q hi]
    refine q_nb <| q_then <| c_seq <| c_reg <| s_y y_mv <| s_y y_as <| s_y y_as <| s_nil <| q_then <| c_ret <| ?_
    exact ret2D Tryd.results41 (.head _) rv_t rv_t fun w' hw => ⟨(a0, c0), trivial, rfl, hw.sub (.cons _ (.cons _ (.cons _ (.cons _ (.cons_cons _ (List.nil_sublist _))))))⟩
  · have hps9 : ∀ rc, St w [] w' (M 0 rc L Dk) → St w [] w' (M 0 rc L Dk ++ []) := fun rc h => by rw [List.append_nil]; exact h
    have hps0 := (hps9 _ hw').has
    have hb := chunk1_ok w' _ L b62 b63 a0 q.length c0 (fun i => M i _ L Dk) hps0.1 hps0.2 rfl (fun i => .head _) (fun i => .tail _ (.tail _ (.tail _ (.head _)))) (fun i => .tail _ (.tail _ (.head _))) (by omega) hkc (fun i hi w2 h2 => ?_)
    · exact hb.mono fun e' w2 ⟨hv, i, hi, h2⟩ => ⟨hv, i, hi, by have h9 := hw'.transL (l2 := []) (by rw [List.append_nil] <;> exact .refl _) h2; rw [List.append_nil] at h9; exact h9⟩
    · obtain ⟨g, rfl⟩ : ∃ g, a0 = some ⟨g, 0, none⟩ := by
        have h5 := (h2.own (.row a0 c0 5 1 q.length (bs (cur k n q (64 * i)))) (.tail _ (.tail _ (.tail _ (.tail _ (.tail _ (.head _))))))).1
        obtain ⟨_, _, h6⟩ := h5
        rcases h6 with ⟨h7, _⟩ | ⟨g, cc, h7, _⟩
        · exact absurd h7 (hy (by omega))
        · exact ⟨g, h7⟩
      obtain ⟨ch, hch⟩ : ∃ ch, chl q.length i = ch := ⟨_, rfl⟩
      have hch1 : 1 ≤ ch ∧ ch ≤ 64 ∧ 64 * i + ch ≤ q.length ∧ (ch = 64 ∨ 64 * i + ch = q.length) := by rw [← hch]; unfold chl; omega
      rw [hch, sa_lt (by omega), Nat.zero_add, Nat.mul_one]
      have hf9 := (hfr []).put 19 (.slice (some ⟨g, 64 * i, none⟩) ch ch) rfl
      refine round_ok (F1 := [(3, .pointer (some ⟨b3, 0, none⟩)), (4, .pointer (some ⟨b4, 0, none⟩)), (8, .pointer (some ⟨b8, 0, none⟩)), (9, .slice (some ⟨g, 64 * i, none⟩) ch ch)]) h2 hf9 (by simp [Act.put]) (by rfl) (.head _) (l1 := M i _ L Dk) ?_ ?_
      · refine c_reg <| s_y y_as <| s_nil <| q_join ⟨rfl, rfl, rfl, rfl, trivial⟩ (List.Sublist.refl _)
      · refine c_gen (fun rb => [.blk L (.loop rb), .blk Dk (.deferred (some [])), .blk b63 (.cells #[I 64] 3 (0, 0)), .blk b62 (.cells #[.slice (some ⟨g, 0, none⟩) q.length c0] 22 (0, 0)), .blk b8 (.cells #[W32 (UInt32.ofNat (1 + i))] 94 (0, 0)), .row (some ⟨g, 0, none⟩) c0 5 1 q.length (bs (cur k n q (64 * i))), .blk b4 (.cells (bs n).toArray 45 (0, 0)), .blk b3 (.cells (bs k).toArray 32 (0, 0))]) fun rb hrb => ?_
        refine c_block <| c_seq <| c_seq <| c_reg <| s_y (y_lda (b := b3) (cs := (bs k).toArray) (hl := hzn hk)) <| s_y (y_lda (b := b4) (cs := (bs n).toArray) (hl := hzn hn)) <| s_y (y_ld (b := b8) (v := W32 (UInt32.ofNat (1 + i)))) <| s_gives (fun w3 h3 => c_block_ok w3 k n (UInt32.ofNat (1 + i)) ⟨⟨rdO3 hw' hg.1.1 w3 h3, rdO3 hw' hg.1.2 w3 h3⟩, rdO3 hw' hg.2 w3 h3⟩ hk hn) (fun y _ => ?_)
        obtain ⟨ya, yc⟩ := y
        have hbl := blk_length k n (UInt32.ofNat (1 + i))
        have hkin := fun j hj => ks_in k n i j hj
        obtain ⟨BL, hBL⟩ : ∃ BL, blk k n (UInt32.ofNat (1 + i)) = BL := ⟨_, rfl⟩
        rw [hBL] at hbl ⊢
        simp only [hBL] at hkin
        refine s_row (fun hyc _ => ?_) (hm := .head _)
        refine s_y y_mv <| s_y y_len <| s_y (y_slh (j := ((ch : Nat) : Int))) <| ?_
        rw [Int.toNat_natCast]
        refine s_y y_len <| s_y y_mv <| s_nil <| q_then <| c_block <| ?_
        refine c_loop (fun j : Nat => [(8, .pointer (some ⟨b8, 0, none⟩)), (9, .slice (some ⟨g, 64 * i, none⟩) ch ch), (26, .slice ya ch yc), (27, I ch), (28, I j)]) (fun j => [.row ya yc 5 1 64 (bs BL), .blk L (.loop rb), .blk Dk (.deferred (some [])), .blk b63 (.cells #[I 64] 3 (0, 0)), .blk b62 (.cells #[.slice (some ⟨g, 0, none⟩) q.length c0] 22 (0, 0)), .blk b8 (.cells #[W32 (UInt32.ofNat (1 + i))] 94 (0, 0)), .row (some ⟨g, 0, none⟩) c0 5 1 q.length (bs (cur k n q (64 * i + j))), .blk b4 (.cells (bs n).toArray 45 (0, 0)), .blk b3 (.cells (bs k).toArray 32 (0, 0))]) (fun j => j ≤ ch) (fun j => ch - j) 0 (Nat.zero_le _) ⟨rfl, rfl, rfl, rfl, rfl, trivial⟩ (.refl _) ?_
        intro j hj
        by_cases hjc : j < ch
        · have hcg := cur_get k n q (t := 64 * i + j) (by omega)
          have hcs := cur_set k n q (t := 64 * i + j) (by omega)
          have hcl := cur_length k n q (64 * i + j)
          have hkj := hkin j (by omega)
          rw [hkj] at hcs
          obtain ⟨CU, hCU⟩ : ∃ CU, cur k n q (64 * i + j) = CU := ⟨_, rfl⟩
          rw [hCU] at hcg hcs hcl ⊢
          have hrow : ∀ {l : SH}, Res.row (some ⟨g, 0, none⟩) c0 5 1 q.length (bs CU) ∈ l → RdS w' (keys (M 0 { state := .ready, pending := none, fn := fn, tmps := tm, params := #[19], assign := .skip, body := .skip, defers := Dk } L Dk)) l (some ⟨g, 64 * i, none⟩) (bs (CU.drop (64 * i))) := fun hm => by
            have h5 := (rdR (W := w') (Bo := keys (M 0 { state := .ready, pending := none, fn := fn, tmps := tm, params := #[19], assign := .skip, body := .skip, defers := Dk } L Dk)) hm).sa (i := 64 * i) (c := q.length) (s := 1) (by rw [bs_length]; omega)
            rw [sa_lt (by omega), Nat.mul_one, Nat.zero_add, ← bs_drop] at h5
            exact h5
          have hgd : (CU.drop (64 * i)).getD j 0 = q.getD (64 * i + j) 0 := by rw [getD_drop8, hcg]
          refine c_seq <| c_reg <| s_kt (y_lss (p := ((j : Nat) : Int)) (q := ((ch : Nat) : Int))) (by omega) <| s_nil <| q_then <| c_seq <| c_t <| c_skip <| q_then <| c_seq <| c_block <| c_seq <| c_reg <| s_y y_mv <| s_y (y_ixs1 (xs := bs BL) (i := ((j : Nat) : Int)) (hr := rdR (.head _)) (hl := by rw [bs_length]; omega)) <| s_y (y_ldb (q := BL) (i := j) (hr := rdR (.head _)) (hi := by omega)) <| s_y y_as <| s_y y_as <| s_nil <| q_then <| c_reg <| s_y y_mv <| s_y y_mv <| s_y (y_ixs1 (xs := bs (CU.drop (64 * i))) (i := ((j : Nat) : Int)) (hr := hrow (.tail _ (.tail _ (.tail _ (.tail _ (.tail _ (.tail _ (.head _)))))))) (hl := by rw [bs_length, List.length_drop]; omega)) <| s_y (y_ldb (q := CU.drop (64 * i)) (i := j) (hr := hrow (.tail _ (.tail _ (.tail _ (.tail _ (.tail _ (.tail _ (.head _)))))))) (hi := by rw [List.length_drop]; omega)) <| ?_
          rw [hgd]
          refine s_y y_mv <| s_y y_xor8 <| s_y (y_ixs1 (xs := bs (CU.drop (64 * i))) (i := ((j : Nat) : Int)) (hr := hrow (.tail _ (.tail _ (.tail _ (.tail _ (.tail _ (.tail _ (.head _)))))))) (hl := by rw [bs_length, List.length_drop]; omega)) <| ?_
          rw [show ad (some ⟨g, 64 * i, none⟩) ((j : Nat) : Int).toNat = ad (some ⟨g, 0, none⟩) (64 * i + j) by simp [ad]]
          refine s_str (a := some ⟨g, 0, none⟩) (i := 64 * i + j) (?_) (hi := by rw [bs_length]; omega)
          rw [bs_lset, hcs]
          refine s_nil <| q_nb <| q_then <| c_reg <| s_y (y_add (p := ((j : Nat) : Int)) (q := 1)) <| s_y y_mv <| s_nil <| ?_
          rw [show ((j : Nat) : Int) + 1 = ((j + 1 : Nat) : Int) by omega]
          exact q_round (j + 1) (by omega) (by omega) ⟨rfl, rfl, rfl, rfl, rfl, trivial⟩ (.refl _)
        · obtain rfl : j = ch := by omega
          have hnx : cur k n q (64 * i + j) = cur k n q (64 * (i + 1)) := by
            rcases hch1.2.2.2 with h5 | h5
            · rw [show 64 * i + j = 64 * (i + 1) by omega]
            · rw [cur_all k n q (show q.length ≤ 64 * i + j by omega), cur_all k n q (show q.length ≤ 64 * (i + 1) by omega)]
          rw [hnx]
          refine c_seq <| c_reg <| s_kf (y_lss (p := ((j : Nat) : Int)) (q := ((j : Nat) : Int))) (by omega) <| s_nil <| q_then <| c_seq <| c_f <| c_exit <| q_ex <| q_ex <| q_exb <| q_then <| c_reg <| s_y (y_ld (b := b8) (v := W32 (UInt32.ofNat (1 + i)))) <| s_y (y_add32 (p := UInt32.ofNat (1 + i)) (q := 1)) <| ?_
          rw [ofNat_succ]
          refine s_st (b := b8) (v := W32 (UInt32.ofNat (1 + (i + 1)))) (cs := #[W32 (UInt32.ofNat (1 + i))]) (hl := Nat.zero_lt_one) ?_
          subst hrb
          exact s_nil <| q_nb <| q_rn (.tail _ (.head _)) fun w3 h3 => ⟨(), trivial, rfl, h3.sub (.cons _ (.refl _))⟩
end Go.Proofs.YtchpcabehchfjaaDoor
