/- The laws on derive. -/
import Derived.Test.YtjfiggbgpplopaaDoorEqA
namespace Go.Proofs.YtjfiggbgpplopaaDoor
open Go Eng Sha Cod

abbrev pathS : List UInt8 := [112, 97, 116, 104]
abbrev nodeS : List UInt8 := [110, 111, 100, 101]
abbrev c0 : List UInt8 := 1 :: 2 :: 3 :: List.replicate 29 0
/-- what Step gives -/
def stepK (k : List UInt8) (n : Int) : List UInt8 := if n < 0 then List.replicate 32 0 else if 65536 < n then List.replicate 32 0 else stepN k n.toNat
def stepC (n : Int) : Int := if n < 0 then 1 else if 65536 < n then 2 else 0
theorem stepK_length {k : List UInt8} (h : k.length = 32) (n : Int) : (stepK k n).length = 32 := by
  unfold stepK; split
  · simp
  · split
    · simp
    · exact stepN_length h _
theorem stepV (k : List UInt8) (n : Int) : (if n < 0 then .tuple #[.agg (List.replicate 32 (.int .u8 0)).toArray, I 1] else if 65536 < n then .tuple #[.agg (List.replicate 32 (.int .u8 0)).toArray, I 2] else .tuple #[.agg (bs (stepN k n.toNat)).toArray, I 0] : Value) = .tuple #[.agg (bs (stepK k n)).toArray, I (stepC n)] := by
  unfold stepK stepC
  split
  · rfl
  · split
    · rfl
    · rfl
theorem Step_ok (w : World) (k : List UInt8) (n : Int) (hg : LS w) (hk : k.length = 32) (hn : R64 n) : Pure Tryd.prog 11 [.agg (bs k).toArray, I n] w (.tuple #[.agg (bs (stepK k n)).toArray, I (stepC n)]) := by
  rw [← stepV]; exact derive_Step_ok w k n hg hk hn
theorem refStep_ok (w : World) (k : List UInt8) (n : Int) (hk : k.length = 32) (hn : R64 n) : Pure Tryd.prog 12 [.agg (bs k).toArray, I n] w (.tuple #[.agg (bs (stepK k n)).toArray, I (stepC n)]) := by
  rw [← stepV]; exact ref07_Step_ok w k n hk hn
theorem hgk : (Tryd.prog).eqGuardType (Tryd.prog).depth 23 = false := by kernel_rfl

theorem sane_ok (w : World) (hg : LS w) : Pure Tryd.prog 10 [] w (.bool true) := by
  refine enter Tryd.func10 Tryd.ntmps10 ?_
  refine c_seq <| c_reg <| s_y y_as <| s_nil <| q_then <| c_seq <| c_reg <| s_y (y_blda (cs := bs c0)) <| ?_
  obtain ⟨c, hc⟩ : ∃ c : List UInt8, c0 = c := ⟨_, rfl⟩
  have hcl : c.length = 32 := by rw [← hc]; rfl
  rw [hc]
  have hz : ∀ (k : List UInt8), k.length = 32 → (bs k).toArray.size = 32 := fun k h => by simp [bs_length, h]
  have hone : ∀ (k : List UInt8), ∀ u ∈ (bs k).toArray.toList, u.oneCell' = true := fun k v hv => bs_one (by simpa using hv)
  refine s_alloc fun b1 => s_sta (b := b1) (vs := (bs c).toArray) (cs := zk) (h1 := hone c) (hl := by rw [hz c hcl]; rfl) (hs1 := hz c hcl) ?_
  refine s_nil <| q_then <| ?_
  refine c_seq <| c_reg <| s_y (y_lda (b := b1) (cs := (bs c).toArray) (hl := hz _ hcl)) <| s_pure (fun w' hw => Step_ok w' c 0 (hg.st hw) hcl (by unfold R64; omega)) <| ?_
  rw [show stepK c 0 = stepN c 0 from rfl, show stepC 0 = 0 from rfl]
  refine s_y y_mv <| s_y y_ext <| s_y y_ext <| s_alloc fun b2 => s_sta (b := b2) (vs := (bs (stepN c 0)).toArray) (cs := zk) (h1 := hone _) (hl := by rw [hz _ (stepN_length hcl 0)]; rfl) (hs1 := hz _ (stepN_length hcl 0)) ?_
  refine s_y y_as <| s_nil <| q_then <| ?_
  refine c_seq <| c_reg <| s_y (y_lda (b := b1) (cs := (bs c).toArray) (hl := hz _ hcl)) <| s_pure (fun w' hw => Step_ok w' c 1 (hg.st hw) hcl (by unfold R64; omega)) <| ?_
  rw [show stepK c 1 = stepN c 1 from rfl, show stepC 1 = 0 from rfl]
  refine s_y y_mv <| s_y y_ext <| s_y y_ext <| s_alloc fun b4 => s_sta (b := b4) (vs := (bs (stepN c 1)).toArray) (cs := zk) (h1 := hone _) (hl := by rw [hz _ (stepN_length hcl 1)]; rfl) (hs1 := hz _ (stepN_length hcl 1)) ?_
  refine s_y y_as <| s_nil <| q_then <| ?_
  refine c_seq <| c_reg <| s_y (y_lda (b := b1) (cs := (bs c).toArray) (hl := hz _ hcl)) <| s_pure (fun w' hw => Step_ok w' c 2 (hg.st hw) hcl (by unfold R64; omega)) <| ?_
  rw [show stepK c 2 = stepN c 2 from rfl, show stepC 2 = 0 from rfl]
  refine s_y y_mv <| s_y y_ext <| s_y y_ext <| s_alloc fun b6 => s_sta (b := b6) (vs := (bs (stepN c 2)).toArray) (cs := zk) (h1 := hone _) (hl := by rw [hz _ (stepN_length hcl 2)]; rfl) (hs1 := hz _ (stepN_length hcl 2)) ?_
  refine s_y y_as <| s_nil <| q_then <| ?_
  refine c_seq <| c_reg <| s_y (y_lda (b := b4) (cs := (bs (stepN c 1)).toArray) (hl := hz _ (stepN_length hcl 1))) <| s_pure (fun w' hw => Step_ok w' (stepN c 1) 1 (hg.st hw) (stepN_length hcl 1) (by unfold R64; omega)) <| ?_
  rw [show stepK (stepN c 1) 1 = stepN (stepN c 1) 1 from rfl, show stepC 1 = 0 from rfl]
  refine s_y y_mv <| s_y y_ext <| s_y y_ext <| s_alloc fun b8 => s_sta (b := b8) (vs := (bs (stepN (stepN c 1) 1)).toArray) (cs := zk) (h1 := hone _) (hl := by rw [hz _ (stepN_length (stepN_length hcl 1) 1)]; rfl) (hs1 := hz _ (stepN_length (stepN_length hcl 1) 1)) ?_
  refine s_y y_as <| s_nil <| q_then <| ?_
  refine c_seq <| c_reg <| s_y (y_lda (b := b1) (cs := (bs c).toArray) (hl := hz _ hcl)) <| s_pure (fun w' hw => Step_ok w' c (-1) (hg.st hw) hcl (by unfold R64; omega)) <| ?_
  rw [show stepC (-1) = 1 from rfl]
  refine s_y y_mv <| s_y y_ext <| s_y y_ext <| s_alloc fun b10 => s_sta (b := b10) (vs := (bs (stepK c (-1))).toArray) (cs := zk) (h1 := hone _) (hl := by rw [hz _ (stepK_length hcl (-1))]; rfl) (hs1 := hz _ (stepK_length hcl (-1))) ?_
  refine s_y y_as <| s_nil <| q_then <| ?_
  refine c_seq <| c_reg <| s_y (y_lda (b := b1) (cs := (bs c).toArray) (hl := hz _ hcl)) <| s_pure (fun w' hw => Step_ok w' c 65537 (hg.st hw) hcl (by unfold R64; omega)) <| ?_
  rw [show stepC 65537 = 2 from rfl]
  refine s_y y_mv <| s_y y_ext <| s_y y_ext <| s_alloc fun b12 => s_sta (b := b12) (vs := (bs (stepK c 65537)).toArray) (cs := zk) (h1 := hone _) (hl := by rw [hz _ (stepK_length hcl 65537)]; rfl) (hs1 := hz _ (stepK_length hcl 65537)) ?_
  refine s_y y_as <| s_nil <| q_then <| ?_
  refine c_seq <| c_reg <| s_y (y_bval (cs := [I 2, I 0, .string (sb pathS), .slice none 0 0])) <| s_bslr (cs := [I 2, I 0, .string (sb pathS), .slice none 0 0]) fun b50 => s_y (y_bval (cs := [I 3, I 0, .string (sb []), .slice (some ⟨b50, 0, none⟩) 1 1])) <| s_gives (fun w' hw => codec_Encode_ok w' (der pathS []) (.agg #[I 3, I 0, .string (sb []), .slice (some ⟨b50, 0, none⟩) 1 1]) (Vv.der pathS [] (rdR (.head _) w' hw) (by simp) (by decide) (by decide)) (by rw [der_dep]; decide) (by have := der_enc_le pathS [] (by simp) (by decide) (by decide); omega)) fun x _ => ?_
  rw [der_encd, der_chk]
  have hep := der_enc_pos pathS []
  have hel := der_enc_le pathS [] (by simp) (by decide) (by decide)
  obtain ⟨enc, henc⟩ : ∃ enc, (der pathS []).enc = enc := ⟨_, rfl⟩
  rw [henc] at hep hel ⊢
  have hsc := scal_lt scalarS (expand c nodeS [])
  refine s_y y_mv <| s_y y_ext <| s_y y_ext <| s_y y_as <| s_y y_as <| s_nil <| q_then <| c_seq <| c_seq <| c_reg <| s_y y_mv <| s_nf (y_neq (p := 0) (q := 0)) (by omega) <| s_y y_mv <| s_y y_mv <| s_nf (y_neq (p := 0) (q := 0)) (by omega) <| s_y y_pk <| s_y y_mv <| s_y y_mv <| s_nf (y_neq (p := 0) (q := 0)) (by omega) <| s_y y_pk <| s_y y_mv <| s_y y_mv <| s_nf (y_neq (p := 0) (q := 0)) (by omega) <| s_y y_pk <| s_y y_mv <| s_y y_mv <| s_nf (y_neq (p := 1) (q := 1)) (by omega) <| s_y y_pk <| s_y y_mv <| s_y y_mv <| s_nf (y_neq (p := 2) (q := 2)) (by omega) <| s_y y_pk <| s_y y_mv <| s_y y_mv <| s_nf (y_neq (p := 0) (q := 0)) (by omega) <| s_y y_pk <| s_y y_mv <| s_y y_mv <| s_y y_len <| s_kf (y_eql (p := enc.length) (q := 0)) (by omega) <| s_y y_pk <| s_nil <| q_then <| c_f <| c_skip <| q_then <| c_seq <| c_reg <| s_y (y_lda (b := b1) (cs := (bs c).toArray) (hl := hz c hcl)) <| s_pure (fun w' hw => derive_Scalar_ok w' c nodeS (hg.st hw) hcl (by decide)) <| s_y y_as <| s_nil <| q_then <| c_seq <| ?_
  rw [show scal scalarS (expand c nodeS []) = dscal c nodeS from rfl] at hsc
  refine c_regL [.row x.1 x.2 5 1 enc.length (bs enc), .blk b8 (.cells (bs (stepN (stepN c 1) 1)).toArray 23 (0, 0)), .blk b6 (.cells (bs (stepN c 2)).toArray 23 (0, 0)), .blk b2 (.cells (bs (stepN c 0)).toArray 23 (0, 0)), .blk b1 (.cells (bs c).toArray 23 (0, 0))] <| r_y 0 rfl (y_lda (b := b2) (cs := (bs (stepN c 0)).toArray) (hl := hz _ (stepN_length hcl 0))) <| r_y 1 rfl (y_lda (b := b1) (cs := (bs c).toArray) (hl := hz c hcl)) <| r_y 2 rfl (y_eqla (p := stepN c 0) (q := c) (stepN_length hcl 0) hcl hgk) <| ?_
  rw [decide_eq_true (show stepN c 0 = c from rfl)]
  refine r_y 3 rfl y_mv <| r_y 4 rfl (y_lda (b := b6) (cs := (bs (stepN c 2)).toArray) (hl := hz _ (stepN_length hcl 2))) <| r_y 5 rfl (y_lda (b := b8) (cs := (bs (stepN (stepN c 1) 1)).toArray) (hl := hz _ (stepN_length (stepN_length hcl 1) 1))) <| r_y 6 rfl (y_eqla (p := stepN c 2) (q := stepN (stepN c 1) 1) (stepN_length hcl 2) (stepN_length (stepN_length hcl 1) 1) hgk) <| ?_
  rw [decide_eq_true (show stepN c 2 = stepN (stepN c 1) 1 by rw [stepN_add])]
  refine r_y 7 rfl y_pk <| r_y 8 rfl y_mv <| r_W 9 rfl <| s_pure (fun w' hw => derive_First_ok w' none 0 [] (hg.st hw) (Rd.nil _ _) (by simp)) <| r_K <| r_W 10 rfl <| s_pure (fun w' hw => digest_Tagged_ok w' seedS none 0 [] (hg.st hw) (by decide) (Rd.nil _ _) (by simp)) <| r_K <| r_y 11 rfl (y_eqla (p := tagged seedS []) (q := tagged seedS []) (tagged_length _ _) (tagged_length _ _) hgk) <| ?_
  rw [decide_eq_true (show tagged seedS [] = tagged seedS [] from rfl)]
  refine r_y 12 rfl y_pk <| r_y 13 rfl y_mv <| r_y 14 rfl (y_lda (b := b1) (cs := (bs c).toArray) (hl := hz c hcl)) <| r_y 17 rfl y_sla <| r_y 19 rfl y_mv <| r_w2 15 16 rfl rfl ?_ ?_ (hsub := by repeat (first | exact List.nil_sublist _ | exact List.Sublist.refl _ | apply List.Sublist.cons_cons | apply List.Sublist.cons))
  · refine s_pure (fun w' hw => derive_Expand_ok w' c pathS none 0 [] (hg.st hw) hcl (Rd.nil _ _) (by simp) (by decide) (by simp)) <| r_K <| r_W 16 rfl <| s_bsl0 fun b104 => r_K <| r_W 18 rfl <| s_app (m := 32) (srcB (q := c) (rd_blkB (b := b1) (e := 23)) hcl) (h1 := fun v hv => bs_one hv) (hm := .head _) (hrep := fun _ _ => .head _) fun a106 c106 h106 => ?_
    rw [List.nil_append]
    refine r_K <| r_W 20 rfl <| s_app (m := enc.length) (srcB (q := enc) (rdR (.tail _ (.head _))) rfl) (h1 := fun v hv => bs_one hv) (hm := .head _) (hrep := fun _ _ => .head _) fun a108 c108 h108 => ?_
    rw [← bs_append, show 0 + 32 + enc.length = (c ++ enc).length by rw [List.length_append]; omega]
    refine r_K <| r_W 21 rfl <| s_pure (fun w' hw => digest_Tagged_ok w' deriveS a108 c108 (c ++ enc) (hg.st hw) (by decide) (rdR (.head _) w' hw) (by rw [List.length_append]; omega)) <| r_K <| r_y 22 rfl (y_eqla (p := expand c pathS []) (q := tagged deriveS (c ++ enc)) (expand_length _ _ _) (tagged_length _ _) hgk) <| ?_
    rw [decide_eq_true (show expand c pathS [] = tagged deriveS (c ++ enc) by rw [← henc]; rfl)]
    refine r_y 23 rfl y_pk <| r_y 24 rfl y_mv <| r_y 25 rfl y_mv <| r_y 26 rfl (y_gtr (p := (dscal c nodeS : Int)) (q := 0)) <| ?_
    rw [decide_eq_true (show (0 : Int) < (dscal c nodeS : Int) by omega)]
    refine r_y 27 rfl y_pk <| r_y 28 rfl y_mv <| r_y 29 rfl y_mv <| r_y 30 rfl (y_lss (p := (dscal c nodeS : Int)) (q := 2305843009213688669)) <| ?_
    rw [decide_eq_true (show (dscal c nodeS : Int) < 2305843009213688669 by omega)]
    refine r_y 31 rfl y_pk <| r_y 32 rfl y_as <| r_E <| q_then <| c_ret <| ?_
    exact ret1 Tryd.results10 rv_t fun w' hw => ⟨rfl, hw.sub (List.nil_sublist _)⟩
  · refine s_bsl0 fun b104 => r_K <| r_W 15 rfl <| s_pure (fun w' hw => derive_Expand_ok w' c pathS none 0 [] (hg.st hw) hcl (Rd.nil _ _) (by simp) (by decide) (by simp)) <| r_K <| r_W 18 rfl <| s_app (m := 32) (srcB (q := c) (rd_blkB (b := b1) (e := 23)) hcl) (h1 := fun v hv => bs_one hv) (hm := .head _) (hrep := fun _ _ => .head _) fun a106 c106 h106 => ?_
    rw [List.nil_append]
    refine r_K <| r_W 20 rfl <| s_app (m := enc.length) (srcB (q := enc) (rdR (.tail _ (.head _))) rfl) (h1 := fun v hv => bs_one hv) (hm := .head _) (hrep := fun _ _ => .head _) fun a108 c108 h108 => ?_
    rw [← bs_append, show 0 + 32 + enc.length = (c ++ enc).length by rw [List.length_append]; omega]
    refine r_K <| r_W 21 rfl <| s_pure (fun w' hw => digest_Tagged_ok w' deriveS a108 c108 (c ++ enc) (hg.st hw) (by decide) (rdR (.head _) w' hw) (by rw [List.length_append]; omega)) <| r_K <| r_y 22 rfl (y_eqla (p := expand c pathS []) (q := tagged deriveS (c ++ enc)) (expand_length _ _ _) (tagged_length _ _) hgk) <| ?_
    rw [decide_eq_true (show expand c pathS [] = tagged deriveS (c ++ enc) by rw [← henc]; rfl)]
    refine r_y 23 rfl y_pk <| r_y 24 rfl y_mv <| r_y 25 rfl y_mv <| r_y 26 rfl (y_gtr (p := (dscal c nodeS : Int)) (q := 0)) <| ?_
    rw [decide_eq_true (show (0 : Int) < (dscal c nodeS : Int) by omega)]
    refine r_y 27 rfl y_pk <| r_y 28 rfl y_mv <| r_y 29 rfl y_mv <| r_y 30 rfl (y_lss (p := (dscal c nodeS : Int)) (q := 2305843009213688669)) <| ?_
    rw [decide_eq_true (show (dscal c nodeS : Int) < 2305843009213688669 by omega)]
    refine r_y 31 rfl y_pk <| r_y 32 rfl y_as <| r_E <| q_then <| c_ret <| ?_
    exact ret1 Tryd.results10 rv_t fun w' hw => ⟨rfl, hw.sub (List.nil_sublist _)⟩
end Go.Proofs.YtjfiggbgpplopaaDoor
