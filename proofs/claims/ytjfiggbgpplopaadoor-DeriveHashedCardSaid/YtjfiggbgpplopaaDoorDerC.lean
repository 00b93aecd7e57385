/- The package derive: Mix; the reference: Purpose, Expand, Mix. -/
import Derived.Test.YtjfiggbgpplopaaDoorDerB
namespace Go.Proofs.YtjfiggbgpplopaaDoor
open Go Eng Sha Cod

theorem ref07_Purpose_ok (w : World) (t : List UInt8) (an : Option Addr) (cn : Nat) (ns : List Int) (hn : Rd w an (is ns)) (hns : ∀ n ∈ ns, R64 n) (ht : t.length ≤ 1000000) (hnl : ns.length ≤ 1000000) :
    GivesB Tryd.prog 35 [.string (sb t), .slice an ns.length cn] w (der t ns).enc := by
  refine enter Tryd.func35 Tryd.ntmps35 ?_
  refine c_seq <| c_reg <| s_y y_as <| s_nil <| q_then <| c_seq <| c_reg <| s_y y_mv <| s_y (y_bval (cs := [I 2, I 0, .string (sb t), .slice none 0 0])) <| s_bslr (cs := [I 2, I 0, .string (sb t), .slice none 0 0]) fun b11 => s_y y_as <| s_nil <| q_then <| c_seq <| c_seq <| c_reg <| s_y y_as <| s_nil <| q_then <| c_block <| ?_
  refine c_loop3 (fun (i : Nat) (a' : Option Addr) (c' : Nat) => [(1, .slice an ns.length cn), (5, .slice a' (i + 1) c'), (6, I i)]) (fun i a' c' => [.row a' c' 48 4 (i + 1) (vcells t (ns.take i))]) (fun i _ _ => i ≤ ns.length) (fun i _ _ => ns.length - i) 0 (some ⟨b11, 0, none⟩) 1 (by omega) ⟨rfl, rfl, rfl, trivial⟩ (.refl _) ?_
  intro i a' c' hi
  refine c_seq <| c_seq <| c_reg <| s_y y_mv <| s_y y_mv <| s_y y_len <| s_y y_lss <| s_nil <| q_then <| c_ifd (fun h15 => ?_) (fun h15 => ?_)
  · have hil : i < ns.length := by omega
    refine c_skip <| q_then <| c_seq <| c_block <| c_reg <| s_y y_mv <| s_y y_mv <| s_y y_mv <| s_y (y_ixs1 (i := i) (xs := is ns)) <| s_y (y_ldi (i := i) (q := ns)) <| s_y (y_bval (cs := [I 1, I (ns.getD i 0), .string (sb []), .slice none 0 0])) <| s_bslr (cs := [I 1, I (ns.getD i 0), .string (sb []), .slice none 0 0]) fun b24 => s_app (m := 1) (fun w' hw => Src.slice (rdR (.head _) w' hw) rfl) (h1 := fun v hv => by simp at hv; rcases hv with rfl | rfl | rfl | rfl <;> rfl) (hm := .tail _ (.head _)) (hrep := fun _ _ => .tail _ (.head _)) fun a26 c26 h26 => ?_
    rw [vcells_succ t ns i hil]
    refine s_y y_as <| s_nil <| q_nb <| q_then <| c_reg <| s_y y_mv <| s_y y_add <| s_y y_as <| s_nil <| q_round3 (y := a') (z := c') (i + 1) a26 c26 (by omega) (by omega) ⟨rfl, rfl, rfl, trivial⟩ (.cons _ (.refl _))
  · have hil : i = ns.length := by omega
    subst hil
    rw [List.take_length]
    have hel := der_enc_le t ns hns ht hnl
    refine c_exit <| q_ex <| q_ex <| q_exb <| q_then <| c_seq <| c_reg <| s_y y_mv <| s_y (y_bval (cs := [I 3, I 0, .string (sb []), .slice a' (ns.length + 1) c'])) <| s_gives (fun w' hw => ref01_Encode_ok w' (der t ns) (.agg #[I 3, I 0, .string (sb []), .slice a' (ns.length + 1) c']) (Vv.der t ns (rdR (.head _) w' hw) hns (by omega) (by omega)) (by rw [der_dep]; decide) (by omega)) fun x _ => ?_
    rw [der_encd, der_chk]
    refine s_y y_mv <| s_y y_ext <| s_y y_ext <| s_y y_as <| s_y y_as <| s_nil <| q_then <| c_seq <| c_seq <| c_reg <| s_y y_mv <| s_nf (y_neq (p := 0) (q := 0)) (by omega) <| s_nil <| q_then <| c_f <| c_skip <| q_then <| c_seq <| c_reg <| s_y y_mv <| s_y y_as <| s_nil <| q_then <| c_ret <| ?_
    exact ret1 Tryd.results35 rv_t fun w' hw => ⟨x, trivial, rfl, hw.sub (.cons_cons _ (List.nil_sublist _))⟩

theorem ref07_Expand_ok (w : World) (k t : List UInt8) (an : Option Addr) (cn : Nat) (ns : List Int) (hk : k.length = 32) (hn : Rd w an (is ns)) (hns : ∀ n ∈ ns, R64 n) (ht : t.length ≤ 1000000) (hnl : ns.length ≤ 1000000) :
    Pure Tryd.prog 18 [.agg (bs k).toArray, .string (sb t), .slice an ns.length cn] w (.agg (bs (expand k t ns)).toArray) := by
  have hs33 : (bs (expand k t ns)).toArray.size = 32 := by simp [bs_length, expand_length]
  have hel := der_enc_le t ns hns ht hnl
  refine enter Tryd.func18 Tryd.ntmps18 ?_
  refine c_seq <| c_reg <| s_box rfl fun b3 => s_alloc fun b6 => s_nil <| q_then <| c_seq <| c_reg <| s_bsl0 fun b7 => s_y y_sla <| s_app (m := 32) (srcB (q := k) (rd_blkB (e := 23) (.tail _ (.tail _ (.head _)))) hk) (h1 := fun v hv => bs_one hv) (hm := .head _) (hrep := fun _ _ => .head _) fun a9 c9 h9 => ?_
  rw [List.nil_append]
  refine s_y y_mv <| s_y y_mv <| s_gives (fun w' hw => ref07_Purpose_ok w' t an cn ns (hn.st hw) hns ht hnl) fun x _ => s_app (m := (der t ns).enc.length) (srcB (q := (der t ns).enc) (rdR (.head _)) rfl) (h1 := fun v hv => bs_one hv) (hm := .tail _ (.head _)) (hrep := fun _ _ => .tail _ (.head _)) fun a13 c13 h13 => ?_
  rw [← bs_append, show 0 + 32 + (der t ns).enc.length = (k ++ (der t ns).enc).length by rw [List.length_append]; omega]
  refine s_pure (fun w' hw => ref02_Tagged_ok w' deriveS a13 c13 (k ++ (der t ns).enc) (by decide) (rdR (.tail _ (.head _)) w' hw) (by rw [List.length_append]; omega)) <| s_sta (vs := (bs (expand k t ns)).toArray) (cs := (List.replicate 32 (.int .u8 0)).toArray) (h1 := fun v hv => bs_one (by simpa using hv)) (hl := by rw [hs33]; rfl) (hs1 := hs33) ?_
  refine s_nil <| q_then <| c_ret <| ?_
  exact ret1 Tryd.results18 (rv_ca (hl := hs33)) fun w' hw => ⟨rfl, hw.sub (List.nil_sublist _)⟩

theorem derive_Mix_ok (w : World) (t a b : List UInt8) (hg : LS w) (ha : a.length = 32) (hb : b.length = 32) (ht : t.length ≤ 1000000) :
    Pure Tryd.prog 19 [.string (sb t), .agg (bs a).toArray, .agg (bs b).toArray] w (.agg (bs (mix t a b)).toArray) := by
  have hs1 : (bs a).toArray.size = 32 := by simp [bs_length, ha]
  have hs2 : (bs b).toArray.size = 32 := by simp [bs_length, hb]
  have hs33 : (bs (mix t a b)).toArray.size = 32 := by simp [bs_length, mix, tagged_length]
  refine enter Tryd.func19 Tryd.ntmps19 ?_
  refine c_seq <| c_reg <| s_box rfl fun b4 => s_box rfl fun b5 => s_alloc fun b6 => s_nil <| q_then <| c_seq <| c_reg <| s_alloc fun b7 => s_nil <| q_then <| c_nilrow 5 1 <| c_seq <| ?_
  obtain ⟨l2, hl2⟩ : ∃ l2 : SH, [.blk b6 (.cells (List.replicate 32 (.int .u8 0)).toArray 23 (0, 0)), .blk b5 (.cells (bs b).toArray 23 (0, 0)), .blk b4 (.cells (bs a).toArray 23 (0, 0))] = l2 := ⟨_, rfl⟩
  refine c_regL [.blk b5 (.cells (bs b).toArray 23 (0, 0)), .blk b4 (.cells (bs a).toArray 23 (0, 0))] <| r_y 0 rfl y_mv <| r_y 4 rfl (y_lda (cs := (bs a).toArray) (hl := hs1)) <| r_y 6 rfl (y_lda (cs := (bs b).toArray) (hl := hs2)) <| r_W 1 rfl <| s_s2b (q := t) fun b9 cap cs fz hcs hcap => r_K <| r_W 2 rfl <| s_pure (fun w' hw => digest_Sum_ok w' (some ⟨b9, 0, none⟩) cap t (hg.st hw) (rdB (.head _) (fun i v hv => by rw [Nat.zero_add]; exact hcs i v hv) w' hw) hcap (by omega)) <| r_K <| r_W 3 rfl <| ?_
  refine s_updL (ps0 := [bblk b7 63 none 0 0, .row none 0 5 1 0 []]) (l2 := .blk b9 (.cells cs 5 fz) :: l2) (by rw [← hl2]; exact (List.Perm.swap _ _ _).trans (.trans (.cons _ (.swap _ _ _)) (.swap _ _ _))) (fun w' hw => key_ok w' b7 63 none 0 [] (Sha.sum t) hw.has.1 hw.has.2 (sum_length t) (.inl ⟨rfl, rfl, rfl⟩)) (fun x hx => ?_)
  rw [List.nil_append]
  have hx64 : x.2 = 64 := hx.1 rfl
  have hsl := sum_length t
  subst hl2
  obtain ⟨l2, hl2⟩ : ∃ l2 : SH, (.blk b9 (.cells cs 5 fz) : Res) :: [.blk b6 (.cells (List.replicate 32 (.int .u8 0)).toArray 23 (0, 0)), .blk b5 (.cells (bs b).toArray 23 (0, 0)), .blk b4 (.cells (bs a).toArray 23 (0, 0))] = l2 := ⟨_, rfl⟩
  refine r_K <| r_W 5 rfl <| ?_
  rw [hl2]
  refine s_updL (ps0 := [bblk b7 63 (some ⟨x.1, 0, none⟩) (Sha.sum t).length x.2, .row (some ⟨x.1, 0, none⟩) x.2 5 1 (Sha.sum t).length (bs (Sha.sum t))]) (l2 := l2) (.refl _) (fun w' hw => key_ok w' b7 63 (some ⟨x.1, 0, none⟩) x.2 (Sha.sum t) a hw.has.1 hw.has.2 ha (.inr ⟨x.1, rfl, by omega, by omega⟩)) (fun y hy => ?_)
  have hy64 : y.2 = 64 := by rw [← hx64]; exact hy.2 (by omega)
  have hal : (Sha.sum t ++ a).length = 64 := by rw [List.length_append]; omega
  rw [← hl2]
  refine r_K <| r_W 7 rfl <| ?_
  rw [hl2]
  refine s_updL (ps0 := [bblk b7 63 (some ⟨y.1, 0, none⟩) (Sha.sum t ++ a).length y.2, .row (some ⟨y.1, 0, none⟩) y.2 5 1 (Sha.sum t ++ a).length (bs (Sha.sum t ++ a))]) (l2 := l2) (.refl _) (fun w' hw => key_ok w' b7 63 (some ⟨y.1, 0, none⟩) y.2 (Sha.sum t ++ a) b hw.has.1 hw.has.2 hb (.inr ⟨y.1, rfl, by omega, by omega⟩)) (fun z hz => ?_)
  rw [← hl2]
  refine r_K <| r_W 8 rfl <| s_pure (fun w' hw => under_ok w' b7 (some ⟨z.1, 0, none⟩) z.2 mixS (Sha.sum t ++ a ++ b) (rdB (.head _) (fun i v h => by rw [Nat.zero_add]; simpa using h) w' hw) (rdR (.tail _ (.head _)) w' hw) (hg.st hw) (by decide) (by rw [List.length_append]; omega)) <| r_K <| r_W 9 rfl <| s_sta (vs := (bs (mix t a b)).toArray) (cs := (List.replicate 32 (.int .u8 0)).toArray) (h1 := fun v hv => bs_one (by simpa using hv)) (hl := by rw [hs33]; rfl) (hs1 := hs33) ?_
  refine r_K <| r_E <| q_then <| c_ret <| ?_
  exact ret1 Tryd.results19 (rv_ca (hl := hs33)) fun w' hw => ⟨rfl, hw.sub (List.nil_sublist _)⟩

theorem ref07_Mix_ok (w : World) (t a b : List UInt8) (ha : a.length = 32) (hb : b.length = 32) (ht : t.length ≤ 1000000) :
    Pure Tryd.prog 20 [.string (sb t), .agg (bs a).toArray, .agg (bs b).toArray] w (.agg (bs (mix t a b)).toArray) := by
  have hs32 : (bs (Sha.sum t)).toArray.size = 32 := by simp [bs_length, sum_length]
  have hs33 : (bs (mix t a b)).toArray.size = 32 := by simp [bs_length, mix, tagged_length]
  have hsl := sum_length t
  refine enter Tryd.func20 Tryd.ntmps20 ?_
  refine c_seq <| c_reg <| s_box rfl fun b4 => s_box rfl fun b5 => s_alloc fun b6 => s_nil <| q_then <| c_seq <| c_reg <| s_y y_mv <| s_s2b (q := t) fun b10 cap cs fz hcs hcap => s_pure (fun w' hw => ref02_Sum_ok w' (some ⟨b10, 0, none⟩) cap t (rdB (.head _) (fun i v hv => by rw [Nat.zero_add]; exact hcs i v hv) w' hw) (by omega)) <| s_alloc fun b7 => s_sta (vs := (bs (Sha.sum t)).toArray) (h1 := fun v hv => bs_one (by simpa using hv)) (hl := by rw [hs32]; rfl) (hs1 := hs32) ?_
  refine s_nil <| q_then <| c_seq <| c_regL [.blk b7 (.cells (bs (Sha.sum t)).toArray 38 (0, 0)), .blk b5 (.cells (bs b).toArray 23 (0, 0)), .blk b4 (.cells (bs a).toArray 23 (0, 0))] <| r_y 1 rfl y_sla <| r_y 3 rfl y_sla <| r_W 0 rfl <| s_bsl0 fun b12 => r_K <| r_W 2 rfl <| s_app (m := 32) (srcB (q := Sha.sum t) (rd_blkB (e := 38) (.tail _ (.head _))) hsl) (h1 := fun v hv => bs_one hv) (hm := .head _) (hrep := fun _ _ => .head _) fun a14 c14 h14 => ?_
  rw [List.nil_append]
  refine r_K <| r_W 4 rfl <| s_app (m := 32) (srcB (q := a) (rd_blkB (b := b4) (e := 23)) ha) (h1 := fun v hv => bs_one hv) (hm := .head _) (hrep := fun _ _ => .head _) fun a16 c16 h16 => ?_
  rw [← bs_append]
  refine r_K <| r_y 5 rfl y_as <| r_E <| q_then <| c_seq <| c_reg <| s_y y_mv <| s_y y_sla <| s_app (m := 32) (srcB (q := b) (rd_blkB (b := b5) (e := 23)) hb) (h1 := fun v hv => bs_one hv) (hm := .head _) (hrep := fun _ _ => .head _) fun a19 c19 h19 => ?_
  rw [← bs_append, show 0 + 32 + 32 + 32 = (Sha.sum t ++ a ++ b).length by rw [List.length_append, List.length_append]; omega]
  refine s_pure (fun w' hw => ref02_Tagged_ok w' mixS a19 c19 (Sha.sum t ++ a ++ b) (by decide) (rdR (.head _) w' hw) (by rw [List.length_append, List.length_append]; omega)) <| s_sta (vs := (bs (mix t a b)).toArray) (cs := (List.replicate 32 (.int .u8 0)).toArray) (h1 := fun v hv => bs_one (by simpa using hv)) (hl := by rw [hs33]; rfl) (hs1 := hs33) ?_
  refine s_nil <| q_then <| c_ret <| ?_
  exact ret1 Tryd.results20 (rv_ca (hl := hs33)) fun w' hw => ⟨rfl, hw.sub (List.nil_sublist _)⟩
end Go.Proofs.YtjfiggbgpplopaaDoor
