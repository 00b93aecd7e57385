/- The law on what is hashed. -/
import Derived.Test.YtjfiggbgpplopaaDoorLawD07
import Derived.Test.YtjfiggbgpplopaaDoorSameV
namespace Go.Proofs.YtjfiggbgpplopaaDoor
open Go Eng Sha Cod
set_option maxRecDepth 100000
theorem der_okk (t : List UInt8) (ns : List Int) : (der t ns).ok = true := by
  have h := der_chk t ns
  rw [V.chk] at h
  by_cases h1 : (der t ns).ok = true
  · exact h1
  · rw [if_neg h1] at h; cases h
theorem row_cap {w : World} {a : Option Addr} {c e s n : Nat} {xs : List Value} (h : (Res.row a c e s n xs).holds w) : n ≤ c ∧ c ≤ 9223372036854775807 := by
  obtain ⟨_, h1, h2⟩ := h
  refine ⟨h1, ?_⟩
  rcases h2 with ⟨_, rfl⟩ | ⟨_, _, _, _, h3, _⟩
  · exact Nat.zero_le _
  · simpa only [maxLen] using h3
theorem law_Hashed_ok (w : World) (k t : List UInt8) (an : Option Addr) (cn : Nat) (ns : List Int) (hg : LS w) (hk : k.length = 32) (hn : Rd w an (is ns)) (hns : ∀ n ∈ ns, R64 n) :
    Pure Tryd.prog 9 [.agg (bs k).toArray, .string (sb t), .slice an ns.length cn] w (.bool true) := by
  refine enter Tryd.func9 Tryd.ntmps9 ?_
  refine c_seq <| c_reg <| s_box rfl fun b3 => s_y y_as <| s_nil <| q_then <| c_seq <| c_seq <| c_reg <| s_pure (fun w' hw => sane_ok w' (hg.st hw)) <| s_y (v := .bool false) (y_not (b := true)) <| s_nil <| q_then <| c_f <| c_skip <| q_then <| c_seq <| c_seq <| c_reg <| s_y y_mv <| s_y y_lens <| ?_
  rw [sb_size]
  refine s_ifd (y_gtr (p := t.length) (q := 500)) (fun h15 => ?_) (fun h15 => ?_)
  · refine s_y y_mv <| s_no <| s_no <| s_no <| s_y y_pk <| s_nil <| q_then <| c_t <| c_seq <| c_reg <| s_y y_as <| s_nil <| q_then <| c_ret <| q_ret <| ?_
    exact ret1 Tryd.results9 rv_t fun w' hw => ⟨rfl, hw.sub (List.nil_sublist _)⟩
  refine s_y y_mv <| s_y y_mv <| s_y y_len <| s_y (y_gtr (p := ns.length) (q := 40)) <| s_y (y_pk (v := .bool (decide ((40 : Int) < (ns.length : Int))))) <| s_nil <| q_then <| c_ifd (fun h25 => ?_) (fun h25 => ?_)
  · refine c_seq <| c_reg <| s_y y_as <| s_nil <| q_then <| c_ret <| q_ret <| ?_
    exact ret1 Tryd.results9 rv_t fun w' hw => ⟨rfl, hw.sub (List.nil_sublist _)⟩
  have ht : t.length ≤ 1000000 := by omega
  have hnl : ns.length ≤ 1000000 := by omega
  refine c_skip <| q_then <| c_seq <| c_reg <| s_y y_mv <| s_y (y_bval (cs := [I 2, I 0, .string (sb t), .slice none 0 0])) <| s_bslr (cs := [I 2, I 0, .string (sb t), .slice none 0 0]) fun b25 => s_y y_as <| s_nil <| q_then <| c_seq <| c_seq <| c_reg <| s_y y_as <| s_nil <| q_then <| c_block <| ?_
  refine c_loop3 (fun (i : Nat) (a' : Option Addr) (c' : Nat) => [(1, .string (sb t)), (2, .slice an ns.length cn), (3, .pointer (some ⟨b3, 0, none⟩)), (7, .slice a' (i + 1) c'), (8, I i)]) (fun i a' c' => [.row a' c' 48 4 (i + 1) (vcells t (ns.take i)), .blk b3 (.cells (bs k).toArray 23 (0, 0))]) (fun i _ _ => i ≤ ns.length) (fun i _ _ => ns.length - i) 0 (some ⟨b25, 0, none⟩) 1 (by omega) ⟨rfl, rfl, rfl, rfl, rfl, trivial⟩ (.refl _) ?_
  intro i a' c' hi
  by_cases hil : i < ns.length
  · refine c_seq <| c_seq <| c_reg <| s_y y_mv <| s_y y_mv <| s_y y_len <| s_kt (y_lss (p := ((i : Nat) : Int)) (q := ((ns.length : Nat) : Int))) (by omega) <| s_nil <| q_then <| c_t <| c_skip <| q_then <| c_seq <| c_block <| c_reg <| s_y y_mv <| s_y y_mv <| s_y y_mv <| s_y (y_ixs1 (i := i) (xs := is ns)) <| s_y (y_ldi (i := i) (q := ns)) <| s_y (y_bval (cs := [I 1, I (ns.getD i 0), .string (sb []), .slice none 0 0])) <| s_bslr (cs := [I 1, I (ns.getD i 0), .string (sb []), .slice none 0 0]) fun b24 => s_app (m := 1) (fun w' hw => Src.slice (rdR (.head _) w' hw) rfl) (h1 := fun v hv => by simp at hv; rcases hv with rfl | rfl | rfl | rfl <;> rfl) (hm := .tail _ (.head _)) (hrep := fun _ _ => .tail _ (.head _)) fun a26 c26 h26 => ?_
    rw [vcells_succ t ns i hil]
    refine s_y y_as <| s_nil <| q_nb <| q_then <| c_reg <| s_y y_mv <| s_y (y_add (p := ((i : Nat) : Int)) (q := 1)) <| s_y y_as <| s_nil <| ?_
    rw [show ((i : Nat) : Int) + 1 = ((i + 1 : Nat) : Int) by omega]
    exact q_round3 (y := a') (z := c') (i + 1) a26 c26 (by omega) (by omega) ⟨rfl, rfl, rfl, rfl, rfl, trivial⟩ (.cons _ (.refl _))
  have hil : i = ns.length := by omega
  subst hil
  rw [List.take_length]
  have hel := der_enc_le t ns hns ht hnl
  have hrv : ∀ {w' : World}, Vv w' (der t ns) (.agg #[I 3, I 0, .string (sb []), .slice a' (ns.length + 1) c']) → rdVal 16 (der t ns).enc = some (der t ns, []) := fun {w'} hv => by
    have h := rdVal_enc w' (der t ns) _ 16 [] hv (der_okk t ns) (by rw [der_dep]; decide)
    rwa [List.append_nil] at h
  refine c_seq <| c_seq <| c_reg <| s_y y_mv <| s_y y_mv <| s_y y_len <| s_kf (y_lss (p := ((ns.length : Nat) : Int)) (q := ((ns.length : Nat) : Int))) (by omega) <| s_nil <| q_then <| c_f <| c_exit <| q_ex <| q_ex <| q_exb <| q_then <| ?_
  refine c_seq <| c_reg <| s_y y_mv <| s_y (y_bval (cs := [I 3, I 0, .string (sb []), .slice a' (ns.length + 1) c'])) <| s_gives (fun w' hw => codec_Encode_ok w' (der t ns) (.agg #[I 3, I 0, .string (sb []), .slice a' (ns.length + 1) c']) (Vv.der t ns (rdR (.head _) w' hw) hns (by omega) (by omega)) (by rw [der_dep]; decide) (by omega)) fun x _ => ?_
  rw [der_encd, der_chk]
  refine s_y y_mv <| s_y y_ext <| s_y y_ext <| s_y y_as <| s_y y_as <| s_nil <| q_then <| c_seq <| c_seq <| c_reg <| s_y y_mv <| s_nf (y_neq (p := 0) (q := 0)) rfl <| s_nil <| q_then <| c_f <| c_skip <| q_then <| ?_
  refine c_seq <| c_reg <| s_y y_mv <| s_gives (fun w' hw => Decode_ok w' x.1 x.2 (der t ns).enc (der t ns) (rdR (.head _) w' hw) (row_cap (hw.own _ (.head _)).1).1 (row_cap (hw.own _ (.head _)).1).2 (by omega) (hrv (Vv.der t ns (rdR (.tail _ (.head _)) w' hw) hns (by omega) (by omega)))) fun y hy => s_perm (List.perm_append_comm_assoc [_, _, _] _ _) ?_
  obtain ⟨va, vc, rs⟩ := y
  simp only at hy
  refine s_y y_mv <| s_y y_ext <| s_y y_ext <| s_alloc fun b11 => s_sta (b := b11) (vs := #[I (der t ns).k, I (der t ns).n, .string (sb (der t ns).s), .slice va (der t ns).l.length vc]) (cs := #[I 0, I 0, .string (sb []), .slice none 0 0]) (h1 := by intro u hu; simp at hu; rcases hu with rfl | rfl | rfl | rfl <;> rfl) (hl := rfl) (hs1 := rfl) ?_
  refine s_y y_as <| s_nil <| q_then <| c_seq <| c_seq <| c_reg <| s_y y_mv <| s_nf (y_neq (p := 0) (q := 0)) rfl <| s_y y_mv <| s_y (y_lda (b := b11) (cs := #[I (der t ns).k, I (der t ns).n, .string (sb (der t ns).s), .slice va (der t ns).l.length vc]) (hl := rfl)) <| s_y y_mv <| s_y (y_bval (cs := [I 3, I 0, .string (sb []), .slice a' (ns.length + 1) c'])) <| s_pure (fun w' hw => Same_ok (der t ns) w' _ _ (hy w' fun p hp => (hw.own p (List.mem_append_right [_, _, _, _] (List.mem_append_left _ hp))).1) (Vv.der t ns (rdR (.tail _ (.tail _ (.head _))) w' hw) hns (by omega) (by omega))) <| s_y (v := .bool false) (y_not (b := true)) <| s_y y_pk <| s_nil <| q_then <| c_f <| c_skip <| q_then <| ?_
  refine c_seq <| c_regL [.blk b3 (.cells (bs k).toArray 23 (0, 0))] <| r_y 0 rfl (y_lda (b := b3) (cs := (bs k).toArray) (hl := hz32 hk)) <| r_y 1 rfl y_mv <| r_y 2 rfl y_mv <| r_y 5 rfl y_sla <| r_y 7 rfl y_mv <| r_w2 3 4 rfl rfl ?_ ?_ (hsub := by repeat (first | exact List.nil_sublist _ | exact List.Sublist.refl _ | apply List.Sublist.cons_cons | apply List.Sublist.cons))
  · refine s_pure (fun w' hw => derive_Expand_ok w' k t an cn ns (hg.st hw) hk (hn.st hw) hns ht hnl) <| r_K <| r_W 4 rfl <| s_bsl0 fun b73 => r_K <| r_W 6 rfl <| s_app (m := 32) (srcB (q := k) (rd_blkB (b := b3) (e := 23)) hk) (h1 := fun v hv => bs_one hv) (hm := .head _) (hrep := fun _ _ => .head _) fun a75 c75 h75 => ?_
    rw [List.nil_append]
    refine r_K <| r_W 8 rfl <| s_app (m := (der t ns).enc.length) (srcB (q := (der t ns).enc) (rdR (.tail _ (.tail _ (.head _)))) rfl) (h1 := fun v hv => bs_one hv) (hm := .head _) (hrep := fun _ _ => .head _) fun a77 c77 h77 => ?_
    rw [← bs_append, show 0 + 32 + (der t ns).enc.length = (k ++ (der t ns).enc).length by rw [List.length_append]; omega]
    refine r_K <| r_W 9 rfl <| s_pure (fun w' hw => digest_Tagged_ok w' deriveS a77 c77 (k ++ (der t ns).enc) (hg.st hw) (by decide) (rdR (.head _) w' hw) (by rw [List.length_append]; omega)) <| r_K <| r_y 10 rfl (y_eqla (p := expand k t ns) (q := tagged deriveS (k ++ (der t ns).enc)) (expand_length _ _ _) (tagged_length _ _) hgk) <| ?_
    rw [decide_eq_true (show expand k t ns = tagged deriveS (k ++ (der t ns).enc) from rfl)]
    refine r_y 11 rfl y_as <| r_E <| q_then <| c_ret <| ?_
    exact ret1 Tryd.results9 rv_t fun w' hw => ⟨rfl, hw.sub (List.nil_sublist _)⟩
  · refine s_bsl0 fun b73 => r_K <| r_W 3 rfl <| s_pure (fun w' hw => derive_Expand_ok w' k t an cn ns (hg.st hw) hk (hn.st hw) hns ht hnl) <| r_K <| r_W 6 rfl <| s_app (m := 32) (srcB (q := k) (rd_blkB (b := b3) (e := 23)) hk) (h1 := fun v hv => bs_one hv) (hm := .head _) (hrep := fun _ _ => .head _) fun a75 c75 h75 => ?_
    rw [List.nil_append]
    refine r_K <| r_W 8 rfl <| s_app (m := (der t ns).enc.length) (srcB (q := (der t ns).enc) (rdR (.tail _ (.tail _ (.head _)))) rfl) (h1 := fun v hv => bs_one hv) (hm := .head _) (hrep := fun _ _ => .head _) fun a77 c77 h77 => ?_
    rw [← bs_append, show 0 + 32 + (der t ns).enc.length = (k ++ (der t ns).enc).length by rw [List.length_append]; omega]
    refine r_K <| r_W 9 rfl <| s_pure (fun w' hw => digest_Tagged_ok w' deriveS a77 c77 (k ++ (der t ns).enc) (hg.st hw) (by decide) (rdR (.head _) w' hw) (by rw [List.length_append]; omega)) <| r_K <| r_y 10 rfl (y_eqla (p := expand k t ns) (q := tagged deriveS (k ++ (der t ns).enc)) (expand_length _ _ _) (tagged_length _ _) hgk) <| ?_
    rw [decide_eq_true (show expand k t ns = tagged deriveS (k ++ (der t ns).enc) from rfl)]
    refine r_y 11 rfl y_as <| r_E <| q_then <| c_ret <| ?_
    exact ret1 Tryd.results9 rv_t fun w' hw => ⟨rfl, hw.sub (List.nil_sublist _)⟩
end Go.Proofs.YtjfiggbgpplopaaDoor
