/- The package digest: the hash of bytes. -/
import Derived.Test.YtjfiggbgpplopaaDoorSha2
import Derived.Test.YtjfiggbgpplopaaDoorShaLaw
namespace Eng
open Go Go.RowKit
section
variable {r : Option Nat} {P : Program} {n : Nat} {D : List Deferred} {W : World} {Bo : List Nat} {F : List (Nat × Value)} {l l' : SH}
  {d : Option Tmp} {dd : Nat} {ty : TypeId} {ps : String} {af : Array Edge} {g : Option (Nat × Bool)} {x y z : Operand} {v u : Value} {ta tb t e : TypeId}
  {Q : Exit → Act → World → Prop} {ops : Array Oper} {rest : List Oper} {td : TypeDesc} {c : Code}

/-- an element of an array that is a value -/
theorem y_ixv (j : Nat) {m : Nat} [hu : HU P t (.array m e)] {by' : Nat} [hs : HS P e 1 by'] [hf : HT P e true] {cs : Array Value} {k : IntKind} {i : Int} (hv : cs[j]? = some v) (hx : evO F x = some (.agg cs) := by rfl) (hy : evO F y = some (.int k i) := by rfl)
    (hj : i = (j : Int) := by omega) (h1 : j < m := by omega) : Y P n D W Bo ⟨d, .index t x y, ty, ps, af, g⟩ F l v :=
  .mk (by simp) fun a w ha _ => by
    subst hj
    have h2 : (0 : Int) ≤ (j : Int) ∧ (j : Int) < (m : Int) := by omega
    simp [execOp, ha.eval hx, ha.eval hy, Instr.index, asIntOf, run_underlying hu.h, h2, h1, part, run_isAgg hf, run_sizeOf' hs, hv]
/-- slices of the front of a slice, again and again -/
def ra (a : Option Addr) (c s : Nat) : Nat → Option Addr
  | 0 => a
  | k + 1 => sa (ra a c s k) s (c - s * k) 1
theorem sa_block (a : Option Addr) (i c s : Nat) : (sa a i c s).map (·.block) = a.map (·.block) := by
  unfold sa
  split
  · rfl
  · cases a with
    | none => rfl
    | some a =>
      simp only [Option.map_some]
      unfold Addr.add
      split <;> rfl
theorem ra_block (a : Option Addr) (c s : Nat) : ∀ k, (ra a c s k).map (·.block) = a.map (·.block)
  | 0 => rfl
  | k + 1 => by rw [ra, sa_block, ra_block a c s k]
theorem ra_rd {a : Option Addr} {c : Nat} (s : Nat) {xs : List Value} (h : RdS W Bo l a xs) (hl : xs.length ≤ c) : ∀ k, RdS W Bo l (ra a c s k) (xs.drop (s * k))
  | 0 => h
  | k + 1 => by
    have h1 := (ra_rd s h hl k).sa (i := s) (c := c - s * k) (s := 1) (by rw [List.length_drop]; omega)
    rw [List.drop_drop, Nat.mul_one] at h1
    rw [Nat.mul_succ]; exact h1
end

/-- what is known of a known block and of the memory from which the call came -/
theorem St.blk_at {W w : World} {Bo : List Nat} {l : SH} (h : St W Bo w l) {b : Nat} {o : Obj} (hm : Res.blk b o ∈ l := by repeat (first | exact .head _ | apply List.Mem.tail)) : w.heap[b]? = some o := (h.own _ hm).1
theorem St.new {W w : World} {l : SH} (h : St W [] w l) {b : Nat} {o : Obj} (hm : Res.blk b o ∈ l := by repeat (first | exact .head _ | apply List.Mem.tail)) : W.heap.size ≤ b := by
  rcases (h.own _ hm).2 b rfl with h1 | h1
  · exact h1
  · simp at h1
theorem Rd.apart {W : World} {a : Option Addr} {xs : List Value} (h : Rd W a xs) (hne : xs ≠ []) {b : Nat} (hb : W.heap.size ≤ b) : a.map (·.block) ≠ some b := fun e => by
  have := h.lt hne e
  omega
end Eng
namespace Go.Proofs.YtjfiggbgpplopaaDoor
open Go Eng Sha

theorem digest_Sum_ok (w : World) (a : Option Addr) (c : Nat) (q : List UInt8) (hg : LS w) (hr : Rd w a (bs q)) (hqc : q.length ≤ c) (hl : q.length < 1152921504606846976) :
    Pure Tryd.prog 21 [.slice a q.length c] w (.agg (bs (Sha.sum q)).toArray) := by
  have hgb : ∀ b, w.heap.size ≤ b → b ≠ 1 := fun b hb e => by
    have h1 := hg.2.lt (by simp [K, ws]) (b := 1) rfl
    omega
  refine enter Tryd.func21 Tryd.ntmps21 ?_
  refine c_seq <| c_reg <| s_alloc fun b2 => s_nil <| q_then <| c_seq <| c_reg <| s_y (y_ldra (a := some ⟨0, 0, none⟩) (i := 0) (cs := ws init.l) (rdW0 hg.1) rfl (fun j v hv => by rw [Nat.zero_add]; exact hv)) <| s_alloc fun b3 => s_sta (vs := (ws init.l).toArray) (h1 := fun v hv => ws_one (by simpa using hv)) ?_
  refine s_nil <| q_then <| c_seq <| c_reg <| s_y y_func <| s_y y_as <| s_nil <| q_then <| c_seq <| c_reg <| s_y y_mv <| s_y y_as <| s_nil <| q_then <| c_seq <| c_block <| ?_
  refine c_loop (fun k : Nat => [(0, .slice a q.length c), (2, .pointer (some ⟨b2, 0, none⟩)), (3, .pointer (some ⟨b3, 0, none⟩)), (4, .func (.func 37) #[.pointer (some ⟨b3, 0, none⟩)] #[]), (5, .slice (ra a c 64 k) (q.length - 64 * k) (c - 64 * k))]) (fun k => [.blk b3 (.cells (ws (abs init q k).l).toArray 74 (0, 0)), .blk b2 (.cells (bs (List.replicate 32 0)).toArray 38 (0, 0))]) (fun k => 64 * k ≤ q.length) (fun k => q.length - k) 0 (by omega) ⟨rfl, rfl, rfl, rfl, rfl, trivial⟩ (by exact List.Sublist.refl _) ?_
  intro k hk
  refine c_seq <| c_seq <| c_reg <| s_y y_mv <| s_y y_len <| s_y y_geq <| s_nil <| q_then <| c_ifd (fun h14 => ?_) (fun h14 => ?_)
  · refine c_skip <| q_then <| c_seq <| c_block <| c_reg <| s_y y_mv <| s_y y_mv <| s_y y_slh <| ?_
    have hd : (q.drop (64 * k)).length = q.length - 64 * k := by simp
    refine s_chg (b := b3) (fun w' hw => digest_absorb_ok w' b3 74 (abs init q k) (ra a c 64 k) (c - 64 * k) (q.drop (64 * k)) (hg.st hw) hw.blk_at (by rw [bs_drop]; exact ra_rd 64 (rdW0 hr) (by rw [bs_length]; omega) k w' hw) (by rw [ra_block]; exact hr.apart (by intro e; have := congrArg List.length e; rw [bs_length, List.length_nil] at this; omega) hw.new) (hgb _ hw.new) (by omega) (by omega) (by omega)) (fun _ => .head _) (fun _ _ => ?_)
    rw [← abs_succ]
    refine s_nil <| q_nb <| q_then <| c_reg <| s_y y_mv <| s_y y_sll <| s_y y_as <| s_nil <| ?_
    rw [show (64 : Int).toNat = 64 from rfl, show q.length - 64 * k - 64 = q.length - 64 * (k + 1) by omega, show c - 64 * k - 64 = c - 64 * (k + 1) by omega]
    exact q_round (k + 1) (by omega) (by omega) ⟨rfl, rfl, rfl, rfl, rfl, trivial⟩ (List.Sublist.refl _)
  · have hk2 : k = q.length / 64 := by omega
    have hmd := Nat.mod_add_div q.length 64
    have hml := Nat.mod_lt q.length (show 64 > 0 by decide)
    refine c_exit <| q_ex <| q_ex <| q_exb <| q_then <| c_seq <| c_reg <| s_mkb fun b21 => s_y y_as <| s_nil <| q_then <| c_seq <| c_reg <| s_y y_mv <| s_y y_mv <| ?_
    have hd : (q.drop (64 * k)).length = q.length % 64 := by simp; omega
    have hd2 : q.length - 64 * k = q.length % 64 := by omega
    have hmin : Nat.min (q.length % 64) 64 = q.length % 64 := Nat.min_eq_left (by omega)
    rw [hd2]
    refine s_cpb (m := 64) (k := q.length % 64) (off := 0) (ys := q.drop (64 * k)) (q := List.replicate 128 0) (hr := by rw [bs_drop]; exact ra_rd 64 (rdW0 hr) (by rw [bs_length]; omega) k) (hk := by omega) (hfit := by rw [hmin, List.length_replicate]; omega) ?_
    have hrest : (List.replicate 128 (0 : UInt8)).take 0 ++ (q.drop (64 * k)).take (Nat.min (q.length % 64) 64) ++ (List.replicate 128 0).drop (0 + Nat.min (q.length % 64) 64) = q.drop (64 * (q.length / 64)) ++ 0 :: List.replicate (127 - q.length % 64) 0 := by
      rw [hmin, List.take_zero, List.nil_append, List.take_of_length_le (by omega), hk2, Nat.zero_add, List.drop_replicate, show 128 - q.length % 64 = (127 - q.length % 64) + 1 by omega, List.replicate_succ]
    rw [hrest]
    have hd3 : (q.drop (64 * (q.length / 64))).length = q.length % 64 := by rw [← hk2]; exact hd
    refine s_nil <| q_then <| c_seq <| c_reg <| s_y y_mv <| s_y y_mv <| s_y y_len <| s_y y_ixb1 <| s_stb (p := 128) (q := q.drop (64 * (q.length / 64)) ++ 0 :: List.replicate (127 - q.length % 64) 0) (hl := by rw [List.length_append, List.length_cons, List.length_replicate]; omega) ?_
    rw [Nat.zero_add, Int.toNat_natCast]
    have hset : List.set (q.drop (64 * (q.length / 64)) ++ 0 :: List.replicate (127 - q.length % 64) 0) (q.length % 64) 128 = q.drop (64 * (q.length / 64)) ++ 128 :: List.replicate (127 - q.length % 64) 0 := by
      rw [List.set_append_right _ _ (by omega), hd3, Nat.sub_self]; rfl
    rw [hset]
    have hfl := fin_length q
    have hfm := (padded_blocks q).2
    have hfin : ∀ m, m = fm q → (q.drop (64 * (q.length / 64)) ++ 128 :: List.replicate (127 - q.length % 64) 0).take (m - 8) ++ be (q.length * 8) 8 ++ (q.drop (64 * (q.length / 64)) ++ 128 :: List.replicate (127 - q.length % 64) 0).drop m = fin q (fm q) := by
      intro m hm; rw [hm]; rfl
    have hE : (q.drop (64 * (q.length / 64)) ++ 128 :: List.replicate (127 - q.length % 64) 0).length = 128 := by rw [List.length_append, List.length_cons, List.length_replicate]; omega
    have habs : abs init q k = abs init (padded q) (q.length / 64) := by rw [hk2]; exact abs_pad q _ (by omega)
    rw [habs]
    generalize q.drop (64 * (q.length / 64)) ++ 128 :: List.replicate (127 - q.length % 64) 0 = E at *
    refine s_nil <| q_then <| c_join [(0, .slice a q.length c), (2, .pointer (some ⟨b2, 0, none⟩)), (3, .pointer (some ⟨b3, 0, none⟩)), (4, .func (.func 37) #[.pointer (some ⟨b3, 0, none⟩)] #[]), (6, .slice (some ⟨b21, 0, none⟩) (fm q) 128)] [.blk b21 (.cells (bs E).toArray 5 (0, 0)), .blk b3 (.cells (ws (abs init (padded q) (q.length / 64)).l).toArray 74 (0, 0)), .blk b2 (.cells (bs (List.replicate 32 0)).toArray 38 (0, 0))] ?_ ?_
    · refine c_seq <| c_reg <| s_y y_mv <| s_y y_len <| s_y y_gtr <| s_nil <| q_then <| c_ifd (fun h31 => ?_) (fun h31 => ?_)
      · have e : fm q = 128 := by unfold fm; rw [if_pos (by omega)]
        rw [e]
        exact c_reg <| s_y y_mv <| s_y y_slh <| s_y y_as <| s_nil <| q_join ⟨rfl, rfl, rfl, rfl, rfl, trivial⟩ (List.Sublist.refl _)
      · have e : fm q = 64 := by unfold fm; rw [if_neg (by omega)]
        rw [e]
        exact c_skip <| q_join ⟨rfl, rfl, rfl, rfl, rfl, trivial⟩ (List.Sublist.refl _)
    · have hm8 : ((fm q : Int) - 8).toNat = fm q - 8 := by omega
      refine c_seq <| c_reg <| s_y y_mv <| s_y y_mv <| s_y y_len <| s_y y_sub <| s_y y_sll <| s_y y_mv <| s_y y_len <| s_y y_cvn <| s_y (y_mul64 (q := 8)) <| ?_
      rw [hm8, sa_lt (by omega), Nat.zero_add, Nat.mul_one, show fm q - (fm q - 8) = 8 by omega]
      refine s_chg (b := b21) (fun w' hw => digest_put_ok w' b21 (fm q - 8) 8 (128 - (fm q - 8)) (q.length * 8) E 5 hw.blk_at (by omega) (by omega)) (fun _ => .head _) (fun _ _ => ?_)
      rw [show fm q - 8 + 8 = fm q by omega, hfin _ rfl]
      refine s_nil <| q_then <| c_seq <| c_block <| ?_
      refine c_loop (fun j : Nat => [(2, .pointer (some ⟨b2, 0, none⟩)), (3, .pointer (some ⟨b3, 0, none⟩)), (4, .func (.func 37) #[.pointer (some ⟨b3, 0, none⟩)] #[]), (6, .slice (ra (some ⟨b21, 0, none⟩) 128 64 j) (fm q - 64 * j) (128 - 64 * j))]) (fun j => [.blk b21 (.cells (bs (fin q (fm q))).toArray 5 (0, 0)), .blk b3 (.cells (ws (abs init (padded q) (q.length / 64 + j)).l).toArray 74 (0, 0)), .blk b2 (.cells (bs (List.replicate 32 0)).toArray 38 (0, 0))]) (fun j => 64 * j ≤ fm q) (fun j => 128 - j) 0 (by omega) ⟨rfl, rfl, rfl, rfl, trivial⟩ (List.Sublist.refl _) ?_
      intro j hj
      have hfd : ((fin q (fm q)).drop (64 * j)).length = 128 - 64 * j := by rw [List.length_drop, hfl]
      refine c_seq <| c_seq <| c_reg <| s_y y_mv <| s_y y_len <| s_y y_gtr <| s_nil <| q_then <| c_ifd (fun h46 => ?_) (fun h46 => ?_)
      · have hj2 : 64 * (j + 1) ≤ fm q := by omega
        refine c_skip <| q_then <| c_seq <| c_block <| c_reg <| s_y y_mv <| s_y y_mv <| s_y y_slh <| ?_
        refine s_chg (b := b3) (fun w' hw => digest_absorb_ok w' b3 74 (abs init (padded q) (q.length / 64 + j)) (ra (some ⟨b21, 0, none⟩) 128 64 j) (128 - 64 * j) ((fin q (fm q)).drop (64 * j)) (hg.st hw) hw.blk_at (by rw [bs_drop]; exact ra_rd 64 rd_blkB (Nat.le_of_eq (by rw [bs_length, hfl])) j w' hw) (by rw [ra_block]; intro e; have h9 := hw.nd; simp [keys, Res.key] at h9; cases e; exact h9.1.1 rfl) (hgb _ hw.new) (by omega) (by omega) (by omega)) (fun _ => .tail _ (.head _)) (fun _ _ => ?_)
        rw [fin_block q j hj2]
        refine s_nil <| q_nb <| q_then <| c_reg <| s_y y_mv <| s_y y_sll <| s_y y_as <| s_nil <| ?_
        rw [show (64 : Int).toNat = 64 from rfl, show fm q - 64 * j - 64 = fm q - 64 * (j + 1) by omega, show 128 - 64 * j - 64 = 128 - 64 * (j + 1) by omega]
        exact q_round (j + 1) (by omega) (by omega) ⟨rfl, rfl, rfl, rfl, trivial⟩ (List.Sublist.refl _)
      · have hj3 : j = fm q / 64 := by omega
        have hs : abs init (padded q) (q.length / 64 + j) = abs init (padded q) ((padded q).length / 64) := by rw [(padded_blocks q).1, hj3]
        have hsum : Sha.sum q = out (abs init (padded q) ((padded q).length / 64)) := rfl
        rw [hs, hsum]
        obtain ⟨s, hs2⟩ : ∃ s, abs init (padded q) ((padded q).length / 64) = s := ⟨_, rfl⟩
        rw [hs2]
        refine c_exit <| q_ex <| q_ex <| q_exb <| q_then <| c_seq <| c_seq <| c_reg <| s_y y_lda <| s_y y_mv <| s_nil <| q_then <| c_block <| ?_
        refine c_loop (fun i : Nat => [(2, .pointer (some ⟨b2, 0, none⟩)), (53, .agg (ws s.l).toArray), (54, I i)]) (fun i => [.blk b2 (.cells (bs (outs s.l i)).toArray 38 (0, 0))]) (fun i => i ≤ 8) (fun i => 8 - i) 0 (by omega) ⟨rfl, rfl, rfl, trivial⟩ (.cons _ (.cons _ (List.Sublist.refl _))) ?_
        intro i hi
        refine c_seq <| c_reg <| s_y y_lss <| s_nil <| q_then <| c_seq <| c_ifd (fun h55 => ?_) (fun h55 => ?_)
        · have hol := outs_length s.l i (by rw [l8]; omega) (by omega)
          have hst := outs_step s.l i (by rw [l8]; omega) (by omega)
          have hu := (s.l.getD i 0).toNat_lt
          refine c_skip <| q_then <| c_seq <| c_block <| c_seq <| c_reg <| s_y y_mv <| s_y (y_ixv i (v := W32 (s.l.getD i 0)) (by rw [List.getElem?_toArray]; exact ws_get (by rw [l8]; omega))) <| s_y y_as <| s_y y_as <| s_nil <| q_then <| c_reg <| s_y y_mv <| s_y y_mul <| s_y y_mv <| s_y y_mul <| s_y y_add <| s_y y_slalh <| s_y y_mv <| s_y (y_cvn (p := ((s.l.getD i 0).toNat : Int)) (hw := wrap_u64 (by omega) (by omega))) <| ?_
          rw [show (4 * (i : Int)).toNat = 4 * i by omega, show (4 * (i : Int) + 4).toNat - 4 * i = 4 by omega, Nat.zero_add, Nat.mul_one]
          refine s_chg (b := b2) (fun w' hw => digest_put_ok w' b2 (4 * i) 4 (32 - 4 * i) (s.l.getD i 0).toNat (outs s.l i) 38 hw.blk_at (by omega) (by omega)) (fun _ => .head _) (fun _ _ => ?_)
          rw [hst]
          exact s_nil <| q_nb <| q_then <| c_reg <| s_y y_add <| s_y y_mv <| s_nil <| q_round (i + 1) (by omega) (by omega) ⟨rfl, rfl, rfl, trivial⟩ (List.Sublist.refl _)
        · obtain rfl : i = 8 := by omega
          rw [outs_all]
          have hol := out_length s
          refine c_exit <| q_ex <| q_ex <| q_exb <| q_then <| c_seq <| c_reg <| s_y (y_lda (cs := (bs (out s)).toArray) (hl := by simp [bs_length, hol])) <| s_sta (vs := (bs (out s)).toArray) (h1 := fun v hv => bs_one (by simpa using hv)) (hl := by simp [bs_length, hol]) ?_
          refine s_nil <| q_then <| c_ret <| ?_
          exact ret1 Tryd.results21 (rv_ca (hl := by simp [bs_length, hol])) fun w' hw => ⟨rfl, hw.sub (List.nil_sublist _)⟩
end Go.Proofs.YtjfiggbgpplopaaDoor
