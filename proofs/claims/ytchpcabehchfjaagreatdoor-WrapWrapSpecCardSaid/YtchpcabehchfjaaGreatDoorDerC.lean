/- The package derive: Mix; the reference: Purpose, Expand, Mix. -/
import Derived.Test.YtchpcabehchfjaaGreatDoorDerB
namespace Go.Proofs.YtchpcabehchfjaaGreatDoor
open Go Eng Sha Cod

theorem ref07_Purpose_ok (w : World) (t : List UInt8) (an : Option Addr) (cn : Nat) (ns : List Int) (hn : Rd w an (is ns)) (hns : ∀ n ∈ ns, R64 n) (ht : t.length ≤ 1000000) (hnl : ns.length ≤ 1000000) :
    GivesB Tryz.prog 60 [.string (sb t), .slice an ns.length cn] w (der t ns).enc := by
  refine enter Tryz.func60 Tryz.ntmps60 ?_
  refine c_seq <| c_reg <| s_y y_as <| s_nil <| q_then <| c_seq <| c_reg <| s_y y_mv <| s_y (y_bval (cs := [I 2, I 0, .string (sb t), .slice none 0 0])) <| s_bslr (cs := [I 2, I 0, .string (sb t), .slice none 0 0]) fun b11 => s_y y_as <| s_nil <| q_then <| c_seq <| c_seq <| c_reg <| s_y y_as <| s_nil <| q_then <| c_block <| ?_
  refine c_loop3 (fun (i : Nat) (a' : Option Addr) (c' : Nat) => [(1, .slice an ns.length cn), (5, .slice a' (i + 1) c'), (6, I i)]) (fun i a' c' => [.row a' c' 73 4 (i + 1) (vcells t (ns.take i))]) (fun i _ _ => i ≤ ns.length) (fun i _ _ => ns.length - i) 0 (some ⟨b11, 0, none⟩) 1 (by omega) ⟨rfl, rfl, rfl, trivial⟩ (.refl _) ?_
  intro i a' c' hi
  refine c_seq <| c_seq <| c_reg <| s_y y_mv <| s_y y_mv <| s_y y_len <| s_y y_lss <| s_nil <| q_then <| c_ifd (fun h15 => ?_) (fun h15 => ?_)
  · have hil : i < ns.length := by omega
    refine c_skip <| q_then <| c_seq <| c_block <| c_reg <| s_y y_mv <| s_y y_mv <| s_y y_mv <| s_y (y_ixs1 (i := i) (xs := is ns)) <| s_y (y_ldi (i := i) (q := ns)) <| s_y (y_bval (cs := [I 1, I (ns.getD i 0), .string (sb []), .slice none 0 0])) <| s_bslr (cs := [I 1, I (ns.getD i 0), .string (sb []), .slice none 0 0]) fun b24 => s_app (m := 1) (fun w' hw => Src.slice (rdR (.head _) w' hw) rfl) (h1 := fun v hv => by simp at hv; rcases hv with rfl | rfl | rfl | rfl <;> rfl) (hm := .tail _ (.head _)) (hrep := fun _ _ => .tail _ (.head _)) fun a26 c26 h26 => ?_
    rw [vcells_succ t ns i hil]
    refine s_y y_as <| s_nil <| q_nb <| q_then <| c_reg <| s_y y_mv <| s_y y_add <| s_y y_as <| s_nil <| q_round3 (y := a') (z := c') (i + 1) a26 c26 (by omega) (by omega) ⟨rfl, rfl, rfl, trivial⟩ (.cons _ (.refl _))
  · have hil : i = ns.length := by omega
    subst hil
    rw [List.take_length]
    have hel := der_enc_le t ns hns ht hnl
    refine c_exit <| q_ex <| q_ex <| q_exb <| q_then <| c_seq <| c_reg <| s_y y_mv <| s_y (y_bval (cs := [I 3, I 0, .string (sb []), .slice a' (ns.length + 1) c'])) <| s_gives (fun w' hw => ref01_Encode_ok w' (der t ns) (.agg #[I 3, I 0, .string (sb []), .slice a' (ns.length + 1) c']) (Vv.der t ns (rdR (.head _) w' hw) hns (by omega) (by omega)) (by rw [der_dep]; decide) (by omega)) fun x _ => ?_
    rw [der_encd, der_chk]
    refine s_y y_mv <| s_y y_ext <| s_y y_ext <| s_y y_as <| s_y y_as <| s_nil <| q_then <| c_seq <| c_seq <| c_reg <| s_y y_mv <| s_nf (y_neq (p := 0) (q := 0)) (by omega) <| s_nil <| q_then <| c_f <| c_skip <| q_then <| c_seq <| c_reg <| s_y y_mv <| s_y y_as <| s_nil <| q_then <| c_ret <| ?_
    exact ret1 Tryz.results60 rv_t fun w' hw => ⟨x, trivial, rfl, hw.sub (.cons_cons _ (List.nil_sublist _))⟩

theorem ref07_Expand_ok (w : World) (k t : List UInt8) (an : Option Addr) (cn : Nat) (ns : List Int) (hk : k.length = 32) (hn : Rd w an (is ns)) (hns : ∀ n ∈ ns, R64 n) (ht : t.length ≤ 1000000) (hnl : ns.length ≤ 1000000) :
    Pure Tryz.prog 36 [.agg (bs k).toArray, .string (sb t), .slice an ns.length cn] w (.agg (bs (expand k t ns)).toArray) := by
  have hs33 : (bs (expand k t ns)).toArray.size = 32 := by simp [bs_length, expand_length]
  have hel := der_enc_le t ns hns ht hnl
  refine enter Tryz.func36 Tryz.ntmps36 ?_
  refine c_seq <| c_reg <| s_box rfl fun b3 => s_alloc fun b6 => s_nil <| q_then <| c_seq <| c_reg <| s_bsl0 fun b7 => s_y y_sla <| s_app (m := 32) (srcB (q := k) (rd_blkB (e := 23) (.tail _ (.tail _ (.head _)))) hk) (h1 := fun v hv => bs_one hv) (hm := .head _) (hrep := fun _ _ => .head _) fun a9 c9 h9 => ?_
  rw [List.nil_append]
  refine s_y y_mv <| s_y y_mv <| s_gives (fun w' hw => ref07_Purpose_ok w' t an cn ns (hn.st hw) hns ht hnl) fun x _ => s_app (m := (der t ns).enc.length) (srcB (q := (der t ns).enc) (rdR (.head _)) rfl) (h1 := fun v hv => bs_one hv) (hm := .tail _ (.head _)) (hrep := fun _ _ => .tail _ (.head _)) fun a13 c13 h13 => ?_
  rw [← bs_append, show 0 + 32 + (der t ns).enc.length = (k ++ (der t ns).enc).length by rw [List.length_append]; omega]
  refine s_pure (fun w' hw => ref02_Tagged_ok w' deriveS a13 c13 (k ++ (der t ns).enc) (by decide) (rdR (.tail _ (.head _)) w' hw) (by rw [List.length_append]; omega)) <| s_sta (vs := (bs (expand k t ns)).toArray) (cs := (List.replicate 32 (.int .u8 0)).toArray) (h1 := fun v hv => bs_one (by simpa using hv)) (hl := by rw [hs33]; rfl) (hs1 := hs33) ?_
  refine s_nil <| q_then <| c_ret <| ?_
  exact ret1 Tryz.results36 (rv_ca (hl := hs33)) fun w' hw => ⟨rfl, hw.sub (List.nil_sublist _)⟩

end Go.Proofs.YtchpcabehchfjaaGreatDoor
