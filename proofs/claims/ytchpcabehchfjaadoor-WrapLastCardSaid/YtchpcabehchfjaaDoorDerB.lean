/- The package derive: Expand, First. -/
import Derived.Test.YtchpcabehchfjaaDoorDerA
import Derived.Test.YtchpcabehchfjaaDoorRef02X
namespace Go.Proofs.YtchpcabehchfjaaDoor
open Go Eng Sha Cod

theorem derive_Expand_ok (w : World) (k t : List UInt8) (an : Option Addr) (cn : Nat) (ns : List Int) (hg : LS w) (hk : k.length = 32) (hn : Rd w an (is ns)) (hns : ∀ n ∈ ns, R64 n) (ht : t.length ≤ 1000000) (hnl : ns.length ≤ 1000000) :
    Pure Tryd.prog 38 [.agg (bs k).toArray, .string (sb t), .slice an ns.length cn] w (.agg (bs (expand k t ns)).toArray) := by
  have hs32 : (bs k).toArray.size = 32 := by simp [bs_length, hk]
  have hs33 : (bs (expand k t ns)).toArray.size = 32 := by simp [bs_length, expand_length]
  refine enter Tryd.func38 Tryd.ntmps38 ?_
  refine c_seq <| c_reg <| s_box rfl fun b3 => s_alloc fun b6 => s_nil <| q_then <| c_seq <| c_reg <| s_y y_mv <| s_y (y_bval (cs := [I 2, I 0, .string (sb t), .slice none 0 0])) <| s_bslr (cs := [I 2, I 0, .string (sb t), .slice none 0 0]) fun b15 => s_y y_as <| s_nil <| q_then <| c_seq <| c_seq <| c_reg <| s_y y_mv <| s_y y_len <| s_y y_mv <| s_nil <| q_then <| c_block <| ?_
  refine c_loop3 (fun (i : Nat) (a' : Option Addr) (c' : Nat) => [(3, .pointer (some ⟨b3, 0, none⟩)), (6, .pointer (some ⟨b6, 0, none⟩)), (7, .slice a' (i + 1) c'), (16, .slice an ns.length cn), (17, I ns.length), (18, I i)]) (fun i a' c' => [.row a' c' 74 4 (i + 1) (vcells t (ns.take i)), .blk b6 (.cells (List.replicate 32 (.int .u8 0)).toArray 32 (0, 0)), .blk b3 (.cells (bs k).toArray 32 (0, 0))]) (fun i _ _ => i ≤ ns.length) (fun i _ _ => ns.length - i) 0 (some ⟨b15, 0, none⟩) 1 (by omega) ⟨rfl, rfl, rfl, rfl, rfl, rfl, trivial⟩ (.refl _) ?_
  intro i a' c' hi
  refine c_seq <| c_reg <| s_y y_lss <| s_nil <| q_then <| c_seq <| c_ifd (fun h19 => ?_) (fun h19 => ?_)
  · have hil : i < ns.length := by omega
    refine c_skip <| q_then <| c_seq <| c_block <| c_seq <| c_reg <| s_y (y_ixs1 (i := i) (xs := is ns)) <| s_y (y_ldi (i := i) (q := ns)) <| s_y y_as <| s_nil <| q_then <| c_reg <| s_y y_mv <| s_y y_mv <| s_y (y_bval (cs := [I 1, I (ns.getD i 0), .string (sb []), .slice none 0 0])) <| s_bslr (cs := [I 1, I (ns.getD i 0), .string (sb []), .slice none 0 0]) fun b25 => s_app (m := 1) (fun w' hw => Src.slice (rdR (.head _) w' hw) rfl) (h1 := fun v hv => by simp at hv; rcases hv with rfl | rfl | rfl | rfl <;> rfl) (hm := .tail _ (.head _)) (hrep := fun _ _ => .tail _ (.head _)) fun a26 c26 h26 => ?_
    rw [vcells_succ t ns i hil]
    refine s_y y_as <| s_nil <| q_nb <| q_then <| c_reg <| s_y y_add <| s_y y_mv <| s_nil <| q_round3 (y := a') (z := c') (i + 1) a26 c26 (by omega) (by omega) ⟨rfl, rfl, rfl, rfl, rfl, rfl, trivial⟩ (.cons _ (.refl _))
  · have hil : i = ns.length := by omega
    subst hil
    rw [List.take_length]
    have hel := der_enc_le t ns hns ht hnl
    have hep := der_enc_pos t ns
    refine c_exit <| q_ex <| q_ex <| q_exb <| q_then <| c_seq <| c_reg <| s_y y_mv <| s_y (y_bval (cs := [I 3, I 0, .string (sb []), .slice a' (ns.length + 1) c'])) <| s_gives (fun w' hw => codec_Encode_ok w' (der t ns) (.agg #[I 3, I 0, .string (sb []), .slice a' (ns.length + 1) c']) (Vv.der t ns (rdR (.head _) w' hw) hns (by omega) (by omega)) (by rw [der_dep]; decide) (by omega)) fun x _ => ?_
    rw [der_encd, der_chk]
    refine s_y y_mv <| s_y y_ext <| s_y y_ext <| s_y y_as <| s_y y_as <| s_nil <| q_then <| c_seq <| c_reg <| s_alloc fun b12 => s_nil <| q_then <| c_nilrow 5 1 <| c_seq <| c_reg <| s_y (y_lda (b := b3) (cs := (bs k).toArray) (hl := hs32)) <| ?_
    obtain ⟨l2, hl2⟩ : ∃ l2 : SH, [.row x.1 x.2 5 1 (der t ns).enc.length (bs (der t ns).enc), .row a' c' 74 4 (ns.length + 1) (vcells t ns), .blk b6 (.cells (List.replicate 32 (.int .u8 0)).toArray 32 (0, 0)), .blk b3 (.cells (bs k).toArray 32 (0, 0))] = l2 := ⟨_, rfl⟩
    have hme : (.row x.1 x.2 5 1 (der t ns).enc.length (bs (der t ns).enc) : Res) ∈ l2 := by rw [← hl2]; exact .head _
    refine s_updL (ps0 := [bblk b12 81 none 0 0, .row none 0 5 1 0 []]) (l2 := l2) (by rw [← hl2]; exact .swap _ _ _) (fun w' hw => key_ok w' b12 81 none 0 [] k hw.has.1 hw.has.2 hk (.inl ⟨rfl, rfl, rfl⟩)) (fun y hy => ?_)
    rw [List.nil_append]
    have hy64 : y.2 = 64 := hy.1 rfl
    refine s_y y_nc <| s_y y_fa <| s_y y_mv <| ?_
    refine s_updL (ps0 := [bblk b12 81 (some ⟨y.1, 0, none⟩) k.length y.2, .row (some ⟨y.1, 0, none⟩) y.2 5 1 k.length (bs k)]) (l2 := l2) (.refl _) (fun w' hw => Buffer_Write_ok w' b12 81 (some ⟨y.1, 0, none⟩) y.2 k (der t ns).enc x.1 x.2 hw.has.1 hw.has.2 (Res.rd (hw.own _ (List.mem_append_right _ hme)).1) (fun k' hk' => hw.sep hme hk') hep (.inr ⟨y.1, rfl, by omega, by omega⟩) (by omega)) (fun z hz => ?_)
    subst hl2
    refine s_nil <| q_then <| c_seq <| c_reg <| s_pure (fun w' hw => under_ok w' b12 (some ⟨z.1, 0, none⟩) z.2 deriveS (k ++ (der t ns).enc) (rdB (.head _) (fun i v h => by rw [Nat.zero_add]; simpa using h) w' hw) (rdR (.tail _ (.head _)) w' hw) (hg.st hw) (by decide) (by rw [List.length_append]; omega)) <| s_sta (vs := (bs (expand k t ns)).toArray) (cs := (List.replicate 32 (.int .u8 0)).toArray) (h1 := fun v hv => bs_one (by simpa using hv)) (hl := by rw [hs33]; rfl) (hs1 := hs33) ?_
    refine s_nil <| q_then <| c_ret <| ?_
    exact ret1 Tryd.results38 (rv_ca (hl := hs33)) fun w' hw => ⟨rfl, hw.sub (List.nil_sublist _)⟩
end Go.Proofs.YtchpcabehchfjaaDoor
