/- The cipher: tags; bytes sealed and opened; both programs. -/
import Derived.Test.YtchpcabehchfjaaDoorChaD
import Derived.Test.YtchpcabehchfjaaDoorConc
import Derived.Test.YtchpcabehchfjaaDoorTag
import Derived.Test.YtchpcabehchfjaaDoorKeys
import Derived.Test.YtchpcabehchfjaaDoorRef02X
namespace Cha
open Go Eng Sha
abbrev lbTag : List UInt8 := [116, 97, 103]
def tg (k n h c : List UInt8) : List UInt8 := (tagged lbTag (k ++ n ++ be h.length 8 ++ h ++ c)).take 16
theorem tg_length (k n h c : List UInt8) : (tg k n h c).length = 16 := by unfold tg; rw [List.length_take, tagged_length]; rfl
theorem sar8 (n k : Nat) : UInt8.ofNat (((n : Int) / 2 ^ k) % 256).toNat = UInt8.ofNat (n / 2 ^ k) := by
  apply UInt8.toNat_inj.1
  have e3 : (n : Int) / 2 ^ k = ((n / 2 ^ k : Nat) : Int) := by simp
  rw [e3, UInt8.toNat_ofNat', UInt8.toNat_ofNat']
  omega
theorem cvn8 (m : Nat) : UInt8.ofNat (((m : Nat) : Int) % 256).toNat = UInt8.ofNat m := by
  apply UInt8.toNat_inj.1
  rw [UInt8.toNat_ofNat', UInt8.toNat_ofNat']
  omega
/-- what was sealed, and is opened -/
def sealB (k n h b : List UInt8) : List UInt8 := strm k n b ++ tg k n h (strm k n b)
theorem sealB_length (k n h b : List UInt8) : (sealB k n h b).length = b.length + 16 := by unfold sealB; rw [List.length_append, strm_length, tg_length]
/-- the key stream behind the reference's loop -/
def xs (k n : List UInt8) (i : Nat) : List UInt8 := if i = 0 then [] else blk k n (UInt32.ofNat (1 + (i - 1) / 64))
theorem xs_next (k n : List UInt8) (i : Nat) : xs k n (i + 1) = blk k n (UInt32.ofNat (1 + i / 64)) := by unfold xs; rw [if_neg (by omega), Nat.add_sub_cancel]
theorem xs_same (k n : List UInt8) {i : Nat} (h : i % 64 ≠ 0) : xs k n i = blk k n (UInt32.ofNat (1 + i / 64)) := by
  unfold xs; rw [if_neg (by omega), show (i - 1) / 64 = i / 64 by omega]
end Cha
namespace Go.Proofs.YtchpcabehchfjaaDoor
open Go Eng Sha Cha
set_option maxRecDepth 100000
theorem c_eight_ok (w : World) (n : Nat) (hn : n ≤ 1000000) : Gives Tryd.prog 64 [I n] w [] (fun y : Option Addr × Nat => .slice y.1 8 y.2) (fun y => [.row y.1 y.2 5 1 8 (bs (be n 8))]) (fun _ => True) := by
  have hbl := be_length n 8
  refine enter Tryd.func64 Tryd.ntmps64 ?_
  refine c_seq <| c_reg <| s_y y_as <| s_nil <| q_then <| c_seq <| c_seq <| c_reg <| s_y y_mv <| s_nil <| q_then <| c_nilrow 5 1 <| c_block <| ?_
  refine c_loop3 (fun (i : Nat) (a : Option Addr) (c : Nat) => [(0, I n), (2, .slice a i c), (4, I i)]) (fun i a c => [.row a c 5 1 i (bs ((be n 8).take i))]) (fun i _ _ => i ≤ 8) (fun i _ _ => 8 - i) 0 none 0 (by omega) ⟨rfl, rfl, rfl, trivial⟩ (.refl _) ?_
  intro i a c hi
  by_cases h8 : i < 8
  · refine c_seq <| c_reg <| s_kt (y_lss (p := ((i : Nat) : Int)) (q := 8)) (by omega) <| s_nil <| q_then <| c_seq <| c_t <| c_skip <| q_then <| c_seq <| c_block <| c_seq <| c_reg <| s_y y_mv <| s_y y_as <| s_nil <| q_then <| c_reg <| s_y y_mv <| s_y y_mv <| s_y y_mv <| s_y (y_mul (p := 8) (q := ((i : Nat) : Int))) <| s_y (y_sub (p := 56) (q := 8 * ((i : Nat) : Int))) <| ?_
    rw [show (56 : Int) - 8 * ((i : Nat) : Int) = ((56 - 8 * i : Nat) : Int) by omega]
    refine s_y (y_sar (p := ((n : Nat) : Int)) (q := ((56 - 8 * i : Nat) : Int))) <| ?_
    rw [Int.toNat_natCast]
    refine s_y y_cv8 <| ?_
    rw [sar8, show UInt8.ofNat (n / 2 ^ (56 - 8 * i)) = (be n 8).getD i 0 by rw [be_get n 8 i h8, show 8 * (8 - 1 - i) = 56 - 8 * i by omega]]
    refine s_bslr (cs := bs [(be n 8).getD i 0]) fun b14 => s_app (m := 1) (srcB (q := [(be n 8).getD i 0]) (rdR (.head _)) rfl) (h1 := fun v hv => bs_one hv) (hm := .tail _ (.head _)) (hrep := fun _ _ => .tail _ (.head _)) fun a15 c15 h15 => ?_
    rw [← bs_append, ← Eng.take_snoc (be n 8) i 0 (by omega)]
    refine s_y y_as <| s_nil <| q_nb <| q_then <| c_reg <| s_y (y_add (p := ((i : Nat) : Int)) (q := 1)) <| s_y y_mv <| s_nil <| ?_
    rw [show ((i : Nat) : Int) + 1 = ((i + 1 : Nat) : Int) by omega]
    exact q_round3 (x := i) (y := a) (z := c) (i + 1) a15 c15 (by omega) (by omega) ⟨rfl, rfl, rfl, trivial⟩ (.cons _ (.refl _))
  · obtain rfl : i = 8 := by omega
    rw [List.take_of_length_le (by omega)]
    refine c_seq <| c_reg <| s_kf (y_lss (p := ((8 : Nat) : Int)) (q := 8)) (by omega) <| s_nil <| q_then <| c_seq <| c_f <| c_exit <| q_ex <| q_ex <| q_exb <| q_then <| c_seq <| c_reg <| s_y y_mv <| s_y y_as <| s_nil <| q_then <| c_ret <| ?_
    exact ret1 Tryd.results64 rv_t fun w' hw => ⟨(a, c), trivial, rfl, hw⟩
theorem c_tag_ok (w : World) (ha ca : Option Addr) (hc cc : Nat) (k n h c : List UInt8) (hg : LS w) (hk : k.length = 32) (hn : n.length = 12) (hrh : Rd w ha (bs h)) (hrc : Rd w ca (bs c)) (hlh : h.length ≤ 100000) (hlc : c.length ≤ 100000) :
    Gives Tryd.prog 42 [.agg (bs k).toArray, .agg (bs n).toArray, .slice ha h.length hc, .slice ca c.length cc] w [] (fun b : Nat => .slice (some ⟨b, 0, none⟩) 16 32) (fun b => [.blk b (.cells (bs (tagged lbTag (k ++ n ++ be h.length 8 ++ h ++ c))).toArray 47 (0, 0))]) (fun _ => True) := by
  have hbe := be_length h.length 8
  refine enter Tryd.func42 Tryd.ntmps42 ?_
  refine c_seq <| c_reg <| s_box rfl fun b4 => s_box rfl fun b5 => s_y y_as <| s_nil <| q_then <| c_seq <| c_regL [.blk b5 (.cells (bs n).toArray 45 (0, 0)), .blk b4 (.cells (bs k).toArray 32 (0, 0))] <| r_y 0 rfl y_sla <| r_y 1 rfl y_sla <| r_y 2 rfl y_mv <| r_y 3 rfl y_len <| r_y 5 rfl y_mv <| r_y 6 rfl y_mv <| r_w2 4 10 rfl rfl ?_ ?_ (hsub := by repeat (first | exact List.nil_sublist _ | exact List.Sublist.refl _ | apply List.Sublist.cons_cons | apply List.Sublist.cons))
  · refine s_gives (fun w' hw => c_eight_ok w' h.length (by omega)) fun x14 _ => r_K <| r_w2 7 10 rfl rfl ?_ ?_ (hsub := by repeat (first | exact List.nil_sublist _ | exact List.Sublist.refl _ | apply List.Sublist.cons_cons | apply List.Sublist.cons))
    · refine s_bslr (cs := [.slice (some ⟨b4, 0, none⟩) 32 32, .slice (some ⟨b5, 0, none⟩) 12 12, .slice x14.1 8 x14.2, .slice ha h.length hc, .slice ca c.length cc]) fun b17 => r_K <| r_w2 8 10 rfl rfl ?_ ?_ (hsub := by repeat (first | exact List.nil_sublist _ | exact List.Sublist.refl _ | apply List.Sublist.cons_cons | apply List.Sublist.cons))
      · refine s_gives (fun w' hw => slices_Concat_ok w' (some ⟨b17, 0, none⟩) 5 [.slice (some ⟨b4, 0, none⟩) 32 32, .slice (some ⟨b5, 0, none⟩) 12 12, .slice x14.1 8 x14.2, .slice ha h.length hc, .slice ca c.length cc] [k, n, be h.length 8, h, c] (rdR (.head _) w' hw) (by have h9 := (SlL.cons (c := 32) (rd_blkB (e := 32) (.tail _ (.tail _ (.tail _ (.head _)))) w' hw) (SlL.cons (c := 12) (rd_blkB (e := 45) (.tail _ (.tail _ (.head _))) w' hw) (SlL.cons (c := x14.2) (rdR (.tail _ (.head _)) w' hw) (SlL.cons (c := hc) (hrh.st hw) (SlL.cons (c := cc) (hrc.st hw) (SlL.nil w')))))); simp only [hk, hn, be_length h.length 8] at h9; exact h9) (by simp only [List.flatten_cons, List.flatten_nil, List.length_append, List.length_nil]; omega) (show 5 < 1000000000 by decide)) fun x18 _ => ?_
        rw [show [k, n, be h.length 8, h, c].flatten = k ++ n ++ (be h.length 8) ++ h ++ c by simp]
        refine r_K <| r_w2 9 10 rfl rfl ?_ ?_ (hsub := by repeat (first | exact List.nil_sublist _ | exact List.Sublist.refl _ | apply List.Sublist.cons_cons | apply List.Sublist.cons))
        · refine s_pure (fun w' hw => digest_Tagged_ok w' lbTag x18.1 x18.2 (k ++ n ++ (be h.length 8) ++ h ++ c) (hg.st hw) (by decide) (rdR (.head _) w' hw) (by simp only [List.length_append]; omega)) <| r_K <| r_W 10 rfl <| s_alloc fun b9 => r_K <| r_W 11 rfl <| s_sta (b := b9) (vs := (bs (tagged lbTag (k ++ n ++ (be h.length 8) ++ h ++ c))).toArray) (cs := (bs (List.replicate 32 0)).toArray) (h1 := fun v hv => bs_one (by simpa using hv)) (hl := ((hz32 (tagged_length _ _))).trans ((hz32 List.length_replicate)).symm) (hs1 := (hz32 (tagged_length _ _))) ?_
          refine r_K <| r_E <| q_then <| c_seq <| c_reg <| s_y (y_slah (j := 16)) <| s_y y_as <| s_nil <| q_then <| c_ret <| ?_
          exact ret1 Tryd.results42 rv_t fun w' hw => ⟨b9, trivial, rfl, hw.sub (.cons_cons _ (List.nil_sublist _))⟩
        · refine s_alloc fun b9 => r_K <| r_W 9 rfl <| s_pure (fun w' hw => digest_Tagged_ok w' lbTag x18.1 x18.2 (k ++ n ++ (be h.length 8) ++ h ++ c) (hg.st hw) (by decide) (rdR (.tail _ (.head _)) w' hw) (by simp only [List.length_append]; omega)) <| r_K <| r_W 11 rfl <| s_sta (b := b9) (vs := (bs (tagged lbTag (k ++ n ++ (be h.length 8) ++ h ++ c))).toArray) (cs := (bs (List.replicate 32 0)).toArray) (h1 := fun v hv => bs_one (by simpa using hv)) (hl := ((hz32 (tagged_length _ _))).trans ((hz32 List.length_replicate)).symm) (hs1 := (hz32 (tagged_length _ _))) ?_
          refine r_K <| r_E <| q_then <| c_seq <| c_reg <| s_y (y_slah (j := 16)) <| s_y y_as <| s_nil <| q_then <| c_ret <| ?_
          exact ret1 Tryd.results42 rv_t fun w' hw => ⟨b9, trivial, rfl, hw.sub (.cons_cons _ (List.nil_sublist _))⟩
      · refine s_alloc fun b9 => r_K <| r_W 8 rfl <| s_gives (fun w' hw => slices_Concat_ok w' (some ⟨b17, 0, none⟩) 5 [.slice (some ⟨b4, 0, none⟩) 32 32, .slice (some ⟨b5, 0, none⟩) 12 12, .slice x14.1 8 x14.2, .slice ha h.length hc, .slice ca c.length cc] [k, n, be h.length 8, h, c] (rdR (.tail _ (.head _)) w' hw) (by have h9 := (SlL.cons (c := 32) (rd_blkB (e := 32) (.tail _ (.tail _ (.tail _ (.tail _ (.head _))))) w' hw) (SlL.cons (c := 12) (rd_blkB (e := 45) (.tail _ (.tail _ (.tail _ (.head _)))) w' hw) (SlL.cons (c := x14.2) (rdR (.tail _ (.tail _ (.head _))) w' hw) (SlL.cons (c := hc) (hrh.st hw) (SlL.cons (c := cc) (hrc.st hw) (SlL.nil w')))))); simp only [hk, hn, be_length h.length 8] at h9; exact h9) (by simp only [List.flatten_cons, List.flatten_nil, List.length_append, List.length_nil]; omega) (show 5 < 1000000000 by decide)) fun x18 _ => ?_
        rw [show [k, n, be h.length 8, h, c].flatten = k ++ n ++ (be h.length 8) ++ h ++ c by simp]
        refine r_K <| r_W 9 rfl <| s_pure (fun w' hw => digest_Tagged_ok w' lbTag x18.1 x18.2 (k ++ n ++ (be h.length 8) ++ h ++ c) (hg.st hw) (by decide) (rdR (.head _) w' hw) (by simp only [List.length_append]; omega)) <| r_K <| r_W 11 rfl <| s_sta (b := b9) (vs := (bs (tagged lbTag (k ++ n ++ (be h.length 8) ++ h ++ c))).toArray) (cs := (bs (List.replicate 32 0)).toArray) (h1 := fun v hv => bs_one (by simpa using hv)) (hl := ((hz32 (tagged_length _ _))).trans ((hz32 List.length_replicate)).symm) (hs1 := (hz32 (tagged_length _ _))) ?_
        refine r_K <| r_E <| q_then <| c_seq <| c_reg <| s_y (y_slah (j := 16)) <| s_y y_as <| s_nil <| q_then <| c_ret <| ?_
        exact ret1 Tryd.results42 rv_t fun w' hw => ⟨b9, trivial, rfl, hw.sub (.cons _ (.cons_cons _ (List.nil_sublist _)))⟩
    · refine s_alloc fun b9 => r_K <| r_W 7 rfl <| s_bslr (cs := [.slice (some ⟨b4, 0, none⟩) 32 32, .slice (some ⟨b5, 0, none⟩) 12 12, .slice x14.1 8 x14.2, .slice ha h.length hc, .slice ca c.length cc]) fun b17 => r_K <| r_W 8 rfl <| s_gives (fun w' hw => slices_Concat_ok w' (some ⟨b17, 0, none⟩) 5 [.slice (some ⟨b4, 0, none⟩) 32 32, .slice (some ⟨b5, 0, none⟩) 12 12, .slice x14.1 8 x14.2, .slice ha h.length hc, .slice ca c.length cc] [k, n, be h.length 8, h, c] (rdR (.head _) w' hw) (by have h9 := (SlL.cons (c := 32) (rd_blkB (e := 32) (.tail _ (.tail _ (.tail _ (.tail _ (.head _))))) w' hw) (SlL.cons (c := 12) (rd_blkB (e := 45) (.tail _ (.tail _ (.tail _ (.head _)))) w' hw) (SlL.cons (c := x14.2) (rdR (.tail _ (.tail _ (.head _))) w' hw) (SlL.cons (c := hc) (hrh.st hw) (SlL.cons (c := cc) (hrc.st hw) (SlL.nil w')))))); simp only [hk, hn, be_length h.length 8] at h9; exact h9) (by simp only [List.flatten_cons, List.flatten_nil, List.length_append, List.length_nil]; omega) (show 5 < 1000000000 by decide)) fun x18 _ => ?_
      rw [show [k, n, be h.length 8, h, c].flatten = k ++ n ++ (be h.length 8) ++ h ++ c by simp]
      refine r_K <| r_W 9 rfl <| s_pure (fun w' hw => digest_Tagged_ok w' lbTag x18.1 x18.2 (k ++ n ++ (be h.length 8) ++ h ++ c) (hg.st hw) (by decide) (rdR (.head _) w' hw) (by simp only [List.length_append]; omega)) <| r_K <| r_W 11 rfl <| s_sta (b := b9) (vs := (bs (tagged lbTag (k ++ n ++ (be h.length 8) ++ h ++ c))).toArray) (cs := (bs (List.replicate 32 0)).toArray) (h1 := fun v hv => bs_one (by simpa using hv)) (hl := ((hz32 (tagged_length _ _))).trans ((hz32 List.length_replicate)).symm) (hs1 := (hz32 (tagged_length _ _))) ?_
      refine r_K <| r_E <| q_then <| c_seq <| c_reg <| s_y (y_slah (j := 16)) <| s_y y_as <| s_nil <| q_then <| c_ret <| ?_
      exact ret1 Tryd.results42 rv_t fun w' hw => ⟨b9, trivial, rfl, hw.sub (.cons _ (.cons _ (.cons_cons _ (List.nil_sublist _))))⟩
  · refine s_alloc fun b9 => r_K <| r_W 4 rfl <| s_gives (fun w' hw => c_eight_ok w' h.length (by omega)) fun x14 _ => r_K <| r_W 7 rfl <| s_bslr (cs := [.slice (some ⟨b4, 0, none⟩) 32 32, .slice (some ⟨b5, 0, none⟩) 12 12, .slice x14.1 8 x14.2, .slice ha h.length hc, .slice ca c.length cc]) fun b17 => r_K <| r_W 8 rfl <| s_gives (fun w' hw => slices_Concat_ok w' (some ⟨b17, 0, none⟩) 5 [.slice (some ⟨b4, 0, none⟩) 32 32, .slice (some ⟨b5, 0, none⟩) 12 12, .slice x14.1 8 x14.2, .slice ha h.length hc, .slice ca c.length cc] [k, n, be h.length 8, h, c] (rdR (.head _) w' hw) (by have h9 := (SlL.cons (c := 32) (rd_blkB (e := 32) (.tail _ (.tail _ (.tail _ (.tail _ (.head _))))) w' hw) (SlL.cons (c := 12) (rd_blkB (e := 45) (.tail _ (.tail _ (.tail _ (.head _)))) w' hw) (SlL.cons (c := x14.2) (rdR (.tail _ (.head _)) w' hw) (SlL.cons (c := hc) (hrh.st hw) (SlL.cons (c := cc) (hrc.st hw) (SlL.nil w')))))); simp only [hk, hn, be_length h.length 8] at h9; exact h9) (by simp only [List.flatten_cons, List.flatten_nil, List.length_append, List.length_nil]; omega) (show 5 < 1000000000 by decide)) fun x18 _ => ?_
    rw [show [k, n, be h.length 8, h, c].flatten = k ++ n ++ (be h.length 8) ++ h ++ c by simp]
    refine r_K <| r_W 9 rfl <| s_pure (fun w' hw => digest_Tagged_ok w' lbTag x18.1 x18.2 (k ++ n ++ (be h.length 8) ++ h ++ c) (hg.st hw) (by decide) (rdR (.head _) w' hw) (by simp only [List.length_append]; omega)) <| r_K <| r_W 11 rfl <| s_sta (b := b9) (vs := (bs (tagged lbTag (k ++ n ++ (be h.length 8) ++ h ++ c))).toArray) (cs := (bs (List.replicate 32 0)).toArray) (h1 := fun v hv => bs_one (by simpa using hv)) (hl := ((hz32 (tagged_length _ _))).trans ((hz32 List.length_replicate)).symm) (hs1 := (hz32 (tagged_length _ _))) ?_
    refine r_K <| r_E <| q_then <| c_seq <| c_reg <| s_y (y_slah (j := 16)) <| s_y y_as <| s_nil <| q_then <| c_ret <| ?_
    exact ret1 Tryd.results42 rv_t fun w' hw => ⟨b9, trivial, rfl, hw.sub (.cons _ (.cons _ (.cons _ (.cons_cons _ (List.nil_sublist _)))))⟩
theorem r6_Tag_ok (w : World) (ha ca : Option Addr) (hc cc : Nat) (k n h c : List UInt8) (hk : k.length = 32) (hn : n.length = 12) (hrh : Rd w ha (bs h)) (hrc : Rd w ca (bs c)) (hlh : h.length ≤ 100000) (hlc : c.length ≤ 100000) :
    Gives Tryd.prog 50 [.agg (bs k).toArray, .agg (bs n).toArray, .slice ha h.length hc, .slice ca c.length cc] w [] (fun y : Option Addr × Nat => .slice y.1 16 y.2) (fun y => [.row y.1 y.2 5 1 16 (bs (tg k n h c))]) (fun _ => True) := by
  have hbl := be_length h.length 8
  refine enter Tryd.func50 Tryd.ntmps50 ?_
  refine c_seq <| c_reg <| s_box rfl fun b4 => s_box rfl fun b5 => s_y y_as <| s_nil <| q_then <| c_seq <| c_regL [.blk b5 (.cells (bs n).toArray 45 (0, 0)), .blk b4 (.cells (bs k).toArray 32 (0, 0))] <| r_y 1 rfl y_sla <| r_y 3 rfl y_sla <| r_W 0 rfl <| s_bsl0 fun b12 => r_K <| r_W 2 rfl <| s_app (m := 32) (srcB (q := k) (rd_blkB (e := 32) (.tail _ (.tail _ (.head _)))) hk) (h1 := fun v hv => bs_one hv) (hm := .head _) (hrep := fun _ _ => .head _) fun a14 c14 h14 => ?_
  rw [List.nil_append]
  refine r_K <| r_W 4 rfl <| s_app (m := 12) (srcB (q := n) (rd_blkB (e := 45) (.tail _ (.head _))) hn) (h1 := fun v hv => bs_one hv) (hm := .head _) (hrep := fun _ _ => .head _) fun a16 c16 h16 => ?_
  rw [← bs_append, show 0 + 32 + 12 = 44 + 0 from rfl, show k ++ n = k ++ n ++ (be h.length 8).take 0 by rw [List.take_zero, List.append_nil]]
  refine r_K <| r_y 5 rfl y_as <| r_E <| q_then <| c_seq <| c_seq <| c_reg <| s_y y_as <| s_nil <| q_then <| c_block <| ?_
  refine c_loop3 (fun (j : Nat) (a : Option Addr) (c2 : Nat) => [(2, .slice ha h.length hc), (3, .slice ca c.length cc), (9, .slice a (44 + j) c2), (10, I (7 - (j : Int)))]) (fun j a c2 => [.row a c2 5 1 (44 + j) (bs (k ++ n ++ (be h.length 8).take j))]) (fun j _ _ => j ≤ 8) (fun j _ _ => 8 - j) 0 a16 c16 (by omega) ⟨rfl, rfl, rfl, rfl, trivial⟩ (.cons_cons _ (List.nil_sublist _)) ?_
  intro j a c2 hj
  by_cases hj8 : j < 8
  · refine c_seq <| c_seq <| c_reg <| s_y y_mv <| s_kt (y_geq (p := 7 - (j : Int)) (q := 0)) (by omega) <| s_nil <| q_then <| c_t <| c_skip <| q_then <| c_seq <| c_block <| c_reg <| s_y y_mv <| s_y y_mv <| s_y y_len <| s_y (y_cvn (k := .u64) (p := ((h.length : Nat) : Int)) (hw := wrap_u64 (by omega) (by omega))) <| s_y y_mv <| s_y (y_mul (p := 8) (q := 7 - (j : Int))) <| ?_
    rw [show (8 : Int) * (7 - (j : Int)) = ((56 - 8 * j : Nat) : Int) by omega]
    refine s_y (y_shr (p := h.length) (q := ((56 - 8 * j : Nat) : Int))) <| ?_
    rw [Int.toNat_natCast]
    refine s_y y_cv8 <| ?_
    rw [cvn8, show UInt8.ofNat (h.length / 2 ^ (56 - 8 * j)) = (be h.length 8).getD j 0 by rw [be_get h.length 8 j hj8, show 8 * (8 - 1 - j) = 56 - 8 * j by omega]]
    refine s_bslr (cs := bs [(be h.length 8).getD j 0]) fun b29 => s_app (m := 1) (srcB (q := [(be h.length 8).getD j 0]) (rdR (.head _)) rfl) (h1 := fun v hv => bs_one hv) (hm := .tail _ (.head _)) (hrep := fun _ _ => .tail _ (.head _)) fun a30 c30 h30 => ?_
    rw [← bs_append, List.append_assoc (k ++ n), ← Eng.take_snoc (be h.length 8) j 0 (by omega), show 44 + j + 1 = 44 + (j + 1) by omega]
    refine s_y y_as <| s_nil <| q_nb <| q_then <| c_reg <| s_y y_mv <| s_y (y_sub (p := 7 - (j : Int)) (q := 1)) <| ?_
    rw [show (7 : Int) - (j : Int) - 1 = 7 - ((j + 1 : Nat) : Int) by omega]
    refine s_y y_as <| s_nil <| q_round3 (x := j) (y := a) (z := c2) (j + 1) a30 c30 (by omega) (by omega) ⟨rfl, rfl, rfl, rfl, trivial⟩ (.cons _ (.refl _))
  · obtain rfl : j = 8 := by omega
    rw [List.take_of_length_le (by omega)]
    refine c_seq <| c_seq <| c_reg <| s_y y_mv <| s_kf (y_geq (p := 7 - ((8 : Nat) : Int)) (q := 0)) (by omega) <| s_nil <| q_then <| c_f <| c_exit <| q_ex <| q_ex <| q_exb <| q_then <| c_seq <| c_reg <| s_y y_mv <| s_y y_mv <| s_app (m := h.length) (srcB (q := h) (rdW0 hrh) rfl) (h1 := fun v hv => bs_one hv) (hm := .head _) (hrep := fun _ _ => .head _) fun a33 c33 h33 => ?_
    rw [← bs_append]
    refine s_y y_mv <| s_app (m := c.length) (srcB (q := c) (rdW0 hrc) rfl) (h1 := fun v hv => bs_one hv) (hm := .head _) (hrep := fun _ _ => .head _) fun a35 c35 h35 => ?_
    rw [← bs_append]
    have hT : (k ++ n ++ be h.length 8 ++ h ++ c).length = 44 + 8 + h.length + c.length := by simp only [List.length_append]; omega
    refine s_pure (fun w' hw => (by
      have h9 := ref02_Tagged_ok w' lbTag a35 c35 (k ++ n ++ be h.length 8 ++ h ++ c) (by decide) (rdR (.head _) w' hw) (by omega)
      rw [hT] at h9
      exact h9)) <| s_alloc fun b11 => s_sta (b := b11) (vs := (bs (tagged lbTag (k ++ n ++ be h.length 8 ++ h ++ c))).toArray) (cs := (bs (List.replicate 32 0)).toArray) (h1 := fun v hv => bs_one (by simpa using hv)) (hl := ((hz32 (tagged_length _ _))).trans ((hz32 List.length_replicate)).symm) (hs1 := (hz32 (tagged_length _ _))) ?_
    refine s_nil <| q_then <| c_seq <| c_reg <| s_bsl0 fun b37 => s_y (y_slah (j := 16)) <| s_app (m := 16) (srcB (q := tg k n h c) (fun w' hw => (by
      have h9 := ((rd_blkB (e := 47) (.tail _ (.head _)) : RdS w [] _ (some ⟨b11, 0, none⟩) (bs (tagged lbTag (k ++ n ++ be h.length 8 ++ h ++ c)))) w' hw).take 16
      rw [← bs_take] at h9
      exact h9)) (tg_length _ _ _ _)) (h1 := fun v hv => bs_one hv) (hm := .head _) (hrep := fun _ _ => .head _) fun a39 c39 h39 => ?_
    rw [List.nil_append]
    refine s_y y_as <| s_nil <| q_then <| c_ret <| ?_
    exact ret1 Tryd.results50 rv_t fun w' hw => ⟨(a39, c39), trivial, rfl, hw.sub (.cons_cons _ (List.nil_sublist _))⟩
theorem r6_Stream_big (w : World) (a : Option Addr) (m c : Nat) (k n : List UInt8) (hm : 65536 < m) : Pure Tryd.prog 51 [.agg (bs k).toArray, .agg (bs n).toArray, .slice a m c] w (.tuple #[.slice none 0 0, I 60]) := by
  refine enter Tryd.func51 Tryd.ntmps51 ?_
  refine c_seq <| c_reg <| s_box rfl fun b3 => s_box rfl fun b4 => s_y y_as <| s_y y_as <| s_nil <| q_then <| c_seq <| c_seq <| c_reg <| s_y y_mv <| s_y y_len <| s_kt (y_gtr (p := ((m : Nat) : Int)) (q := 65536)) (by omega) <| s_nil <| q_then <| c_t <| c_seq <| c_reg <| s_y y_as <| s_y y_as <| s_nil <| q_then <| c_ret <| q_ret <| ?_
  exact ret2 Tryd.results51 rv_t rv_t fun w' hw => ⟨rfl, hw.sub (List.nil_sublist _)⟩
theorem r6_Stream_ok (w : World) (a : Option Addr) (c : Nat) (k n q : List UInt8) (hk : k.length = 32) (hn : n.length = 12) (hr : Rd w a (bs q)) (hl : q.length ≤ 65536) :
    Gives Tryd.prog 51 [.agg (bs k).toArray, .agg (bs n).toArray, .slice a q.length c] w [] (fun y : Option Addr × Nat => .tuple #[.slice y.1 q.length y.2, I 0]) (fun y => [.row y.1 y.2 5 1 q.length (bs (strm k n q))]) (fun _ => True) := by
  refine enter Tryd.func51 Tryd.ntmps51 ?_
  refine c_seq <| c_reg <| s_box rfl fun b3 => s_box rfl fun b4 => s_y y_as <| s_y y_as <| s_nil <| q_then <| c_seq <| c_seq <| c_reg <| s_y y_mv <| s_y y_len <| s_kf (y_gtr (p := ((q.length : Nat) : Int)) (q := 65536)) (by omega) <| s_nil <| q_then <| c_f <| c_skip <| q_then <| c_seq <| c_reg <| s_bsl0 fun b8 => s_y y_as <| s_nil <| q_then <| c_seq <| c_reg <| s_bsl0 fun b9 => s_y y_as <| s_nil <| q_then <| c_seq <| c_seq <| c_reg <| s_y y_as <| s_nil <| q_then <| c_block <| ?_
  refine c_loop3 (fun (i : Nat) (o x : Option Addr × Nat) => [(2, .slice a q.length c), (3, .pointer (some ⟨b3, 0, none⟩)), (4, .pointer (some ⟨b4, 0, none⟩)), (8, .slice o.1 i o.2), (9, .slice x.1 (xs k n i).length x.2), (10, I i)]) (fun i o x => [.row x.1 x.2 5 1 (xs k n i).length (bs (xs k n i)), .row o.1 o.2 5 1 i (bs (strm k n (q.take i))), .blk b4 (.cells (bs n).toArray 45 (0, 0)), .blk b3 (.cells (bs k).toArray 32 (0, 0))]) (fun i _ _ => i ≤ q.length) (fun i _ _ => q.length - i) 0 (some ⟨b8, 0, none⟩, 0) (some ⟨b9, 0, none⟩, 0) (by omega) ⟨rfl, rfl, rfl, rfl, rfl, rfl, trivial⟩ (.refl _) ?_
  rintro i ⟨oa, oc⟩ ⟨xa, xc⟩ hi
  by_cases hil : i < q.length
  · have hX : ks k n i = (blk k n (UInt32.ofNat (1 + i / 64))).getD (i % 64) 0 := rfl
    have hXl := blk_length k n (UInt32.ofNat (1 + i / 64))
    have hnx := xs_next k n i
    refine c_seq <| c_seq <| c_reg <| s_y y_mv <| s_y y_mv <| s_y y_len <| s_kt (y_lss (p := ((i : Nat) : Int)) (q := ((q.length : Nat) : Int))) (by omega) <| s_nil <| q_then <| c_t <| c_skip <| q_then <| c_seq <| c_block <| c_seq <| c_seq <| c_reg <| s_y y_mv <| s_y (y_rem (p := ((i : Nat) : Int)) (q := 64)) <| ?_
    by_cases h0 : i % 64 = 0
    · refine s_kt (y_eql (p := ((i : Nat) : Int) % 64) (q := 0)) (by omega) <| s_nil <| q_then <| c_t <| c_reg <| s_y (y_lda (b := b3) (cs := (bs k).toArray) (hl := hzn hk)) <| s_y (y_lda (b := b4) (cs := (bs n).toArray) (hl := hzn hn)) <| s_y y_mv <| s_y (y_quo (p := ((i : Nat) : Int)) (q := 64)) <| s_y (y_add (p := 1) (q := ((i : Nat) : Int) / 64)) <| ?_
      rw [show 1 + ((i : Nat) : Int) / 64 = ((1 + i / 64 : Nat) : Int) by omega]
      refine s_gives (fun w' hw => r6_block_ok w' k n (1 + i / 64) hk hn) (fun y _ => ?_)
      obtain ⟨ya, yc⟩ := y
      refine s_y y_as <| s_nil <| q_then <| ?_
      obtain ⟨X, hXX⟩ : ∃ X, blk k n (UInt32.ofNat (1 + i / 64)) = X := ⟨_, rfl⟩
      rw [hXX] at hX hXl hnx ⊢
      have hsn : strm k n (q.take (i + 1)) = strm k n (q.take i) ++ [q.getD i 0 ^^^ X.getD (i % 64) 0] := by
        rw [Eng.take_snoc q i 0 hil, strm_snoc, List.length_take, Nat.min_eq_left (by omega), ← hX]
      refine c_regL [.row ya yc 5 1 64 (bs X)] <| r_y 0 rfl y_mv <| r_y 1 rfl y_mv <| r_y 2 rfl y_mv <| r_y 3 rfl (y_ixs1 (xs := bs q) (i := ((i : Nat) : Int)) (hr := rdW0 hr)) <| r_y 4 rfl (y_ldb (q := q) (i := i) (hr := rdW0 hr)) <| r_y 5 rfl y_mv <| r_y 6 rfl y_mv <| r_y 7 rfl (y_rem (p := ((i : Nat) : Int)) (q := 64)) <| ?_
      rw [show ((i : Nat) : Int) % 64 = ((i % 64 : Nat) : Int) by omega]
      refine r_y 8 rfl (y_ixs1 (xs := bs X) (i := ((i % 64 : Nat) : Int)) (hr := rdR (.head _)) (hl := by rw [bs_length, hXl]; exact Nat.le_refl _)) <| r_y 9 rfl (y_ldb (q := X) (i := i % 64) (hr := rdR (.head _)) (hi := by omega)) <| r_y 10 rfl y_xor8 <| r_W 11 rfl <| s_bslr (cs := bs [q.getD i 0 ^^^ X.getD (i % 64) 0]) fun b42 => r_K <| r_W 12 rfl <| s_app (m := 1) (srcB (q := [q.getD i 0 ^^^ X.getD (i % 64) 0]) (rdR (.head _)) rfl) (h1 := fun v hv => bs_one hv) (hm := .tail _ (.tail _ (.tail _ (.head _)))) (hrep := fun _ _ => .tail _ (.tail _ (.tail _ (.head _)))) fun a43 c43 h43 => ?_
      rw [← bs_append, ← hsn]
      refine r_K <| r_y 13 rfl y_as <| r_E <| q_nb <| q_then <| c_reg <| s_y y_mv <| s_y (y_add (p := ((i : Nat) : Int)) (q := 1)) <| s_y y_as <| s_nil <| ?_
      rw [show ((i : Nat) : Int) + 1 = ((i + 1 : Nat) : Int) by omega]
      exact q_round3 (x := i) (y := (oa, oc)) (z := (xa, xc)) (i + 1) (a43, c43) (ya, yc) (by omega) (by omega) ⟨rfl, rfl, rfl, rfl, by rw [hnx, hXl]; rfl, rfl, trivial⟩ (by rw [hnx, hXl]; exact .cons _ (.cons_cons _ (.cons _ (.refl _))))
    · have hxs := xs_same k n h0
      obtain ⟨X, hXX⟩ : ∃ X, blk k n (UInt32.ofNat (1 + i / 64)) = X := ⟨_, rfl⟩
      rw [hXX] at hX hXl hnx hxs
      rw [hxs, hXl]
      refine s_kf (y_eql (p := ((i : Nat) : Int) % 64) (q := 0)) (by omega) <| s_nil <| q_then <| c_f <| c_skip <| q_then <| ?_
      have hsn : strm k n (q.take (i + 1)) = strm k n (q.take i) ++ [q.getD i 0 ^^^ X.getD (i % 64) 0] := by
        rw [Eng.take_snoc q i 0 hil, strm_snoc, List.length_take, Nat.min_eq_left (by omega), ← hX]
      refine c_regL [.row xa xc 5 1 64 (bs X)] <| r_y 0 rfl y_mv <| r_y 1 rfl y_mv <| r_y 2 rfl y_mv <| r_y 3 rfl (y_ixs1 (xs := bs q) (i := ((i : Nat) : Int)) (hr := rdW0 hr)) <| r_y 4 rfl (y_ldb (q := q) (i := i) (hr := rdW0 hr)) <| r_y 5 rfl y_mv <| r_y 6 rfl y_mv <| r_y 7 rfl (y_rem (p := ((i : Nat) : Int)) (q := 64)) <| ?_
      rw [show ((i : Nat) : Int) % 64 = ((i % 64 : Nat) : Int) by omega]
      refine r_y 8 rfl (y_ixs1 (xs := bs X) (i := ((i % 64 : Nat) : Int)) (hr := rdR (.head _)) (hl := by rw [bs_length, hXl]; exact Nat.le_refl _)) <| r_y 9 rfl (y_ldb (q := X) (i := i % 64) (hr := rdR (.head _)) (hi := by omega)) <| r_y 10 rfl y_xor8 <| r_W 11 rfl <| s_bslr (cs := bs [q.getD i 0 ^^^ X.getD (i % 64) 0]) fun b42 => r_K <| r_W 12 rfl <| s_app (m := 1) (srcB (q := [q.getD i 0 ^^^ X.getD (i % 64) 0]) (rdR (.head _)) rfl) (h1 := fun v hv => bs_one hv) (hm := .tail _ (.tail _ (.head _))) (hrep := fun _ _ => .tail _ (.tail _ (.head _))) fun a43 c43 h43 => ?_
      rw [← bs_append, ← hsn]
      refine r_K <| r_y 13 rfl y_as <| r_E <| q_nb <| q_then <| c_reg <| s_y y_mv <| s_y (y_add (p := ((i : Nat) : Int)) (q := 1)) <| s_y y_as <| s_nil <| ?_
      rw [show ((i : Nat) : Int) + 1 = ((i + 1 : Nat) : Int) by omega]
      exact q_round3 (x := i) (y := (oa, oc)) (z := (xa, xc)) (i + 1) (a43, c43) (xa, xc) (by omega) (by omega) ⟨rfl, rfl, rfl, rfl, by rw [hnx, hXl]; rfl, rfl, trivial⟩ (by rw [hnx, hXl]; exact .cons _ (.refl _))
  · obtain rfl : i = q.length := by omega
    rw [List.take_length]
    refine c_seq <| c_seq <| c_reg <| s_y y_mv <| s_y y_mv <| s_y y_len <| s_kf (y_lss (p := ((q.length : Nat) : Int)) (q := ((q.length : Nat) : Int))) (by omega) <| s_nil <| q_then <| c_f <| c_exit <| q_ex <| q_ex <| q_exb <| q_then <| c_seq <| c_reg <| s_y y_mv <| s_y y_as <| s_y y_as <| s_nil <| q_then <| c_ret <| ?_
    exact ret2 Tryd.results51 rv_t rv_t fun w' hw => ⟨(oa, oc), trivial, rfl, hw.sub (.cons _ (.cons_cons _ (List.nil_sublist _)))⟩
end Go.Proofs.YtchpcabehchfjaaDoor
