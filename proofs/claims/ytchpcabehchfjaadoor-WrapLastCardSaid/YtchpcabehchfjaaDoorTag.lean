/- The package digest: the hash under a tag. -/
import Derived.Test.YtchpcabehchfjaaDoorShaX
import Derived.Test.YtchpcabehchfjaaDoorConc
namespace Go.Proofs.YtchpcabehchfjaaDoor
open Go Eng Sha

theorem digest_Tagged_ok (w : World) (t : List UInt8) (a : Option Addr) (c : Nat) (q : List UInt8) (hg : LS w) (ht : t.length < 1152921504606846976) (hr : Rd w a (bs q)) (hl : q.length ≤ 140737488355000) :
    Pure Tryd.prog 23 [.string (sb t), .slice a q.length c] w (.agg (bs (tagged t q)).toArray) := by
  refine enter Tryd.func23 Tryd.ntmps23 ?_
  have hs32 : (bs (Sha.sum t)).toArray.size = 32 := by simp [bs_length, sum_length]
  have hs33 : (bs (tagged t q)).toArray.size = 32 := by simp [bs_length, tagged_length]
  refine c_seq <| c_reg <| s_alloc fun b4 => s_nil <| q_then <| c_seq <| c_reg <| s_y y_mv <| s_s2b (q := t) fun b7 cap cs fz hcs hcap => s_pure (fun w' hw => digest_Sum_ok w' (some ⟨b7, 0, none⟩) cap t (hg.st hw) (rdB (.head _) (fun i v hv => by rw [Nat.zero_add]; exact hcs i v hv) w' hw) hcap ht) <| s_alloc fun b5 => s_sta (vs := (bs (Sha.sum t)).toArray) (h1 := fun v hv => bs_one (by simpa using hv)) (hl := by rw [hs32]; rfl) ?_
  refine s_nil <| q_then <| c_seq <| c_reg <| s_y y_sla <| s_y y_mv <| s_bslr (cs := [.slice (some ⟨b5, 0, none⟩) 32 32, .slice a q.length c]) fun b11 => ?_
  have hfl : [Sha.sum t, q].flatten = Sha.sum t ++ q := by simp
  refine s_gives (fun w' hw => slices_Concat_ok w' (some ⟨b11, 0, none⟩) 2 [.slice (some ⟨b5, 0, none⟩) 32 32, .slice a q.length c] [Sha.sum t, q] (Res.rd (hw.own _ (.head _)).1) (by
    have h1 : Rd w' (some ⟨b5, 0, none⟩) (bs (Sha.sum t)) := rd_blkB (.tail _ (.head _)) w' hw
    have := SlL.cons (c := 32) h1 (SlL.cons (c := c) (hr.st hw) (SlL.nil w'))
    rwa [sum_length] at this) (by rw [hfl, List.length_append, sum_length]; omega) (show 2 < 1000000000 by decide)) fun x12 _ => ?_
  rw [hfl]
  refine s_row fun hx1 hx2 => ?_
  refine s_pure (fun w' hw => digest_Sum_ok w' x12.1 x12.2 (Sha.sum t ++ q) (hg.st hw) (Res.rd (hw.own _ (.head _)).1) hx1 (by rw [List.length_append, sum_length]; omega)) <| s_sta (vs := (bs (tagged t q)).toArray) (h1 := fun v hv => bs_one (by simpa using hv)) (hl := by rw [hs33]; rfl) ?_
  refine s_nil <| q_then <| c_ret <| ?_
  exact ret1 Tryd.results23 (rv_ca (hl := hs33)) fun w' hw => ⟨rfl, hw.sub (List.nil_sublist _)⟩
end Go.Proofs.YtchpcabehchfjaaDoor
