/- Decode, where it succeeds. -/
import Derived.Test.YtjfiggbgpplopaaDoorDecL
namespace Go.Proofs.YtjfiggbgpplopaaDoor
open Go Eng Cod
set_option maxRecDepth 100000
theorem decode_idle (w : World) (b2 b3 : Nat) : GivesD Tryd.prog 45 [.pointer (some ⟨b2, 0, none⟩), .pointer (some ⟨b3, 0, none⟩)] .returning w [] .returning [] := by
  have hnn : ∀ w : World, (binOp .neq 20 .nilIface .nilIface).run Tryd.prog w = .ok (.bool false) w := fun _ => by kernel_rfl
  refine callsD_of_wpS Tryd.func45 rfl fun c₀ cs hu => ?_
  apply wpS_seq
  apply wpS_region
  simp [wpOpsS, go_sem, recoverD, hu, Tryd.ntmps45, Exit.thenS]
  apply wpS_seq
  apply wpS_region
  simp [wpOpsS, go_sem, hnn, Exit.thenS, Act.eval, Act.put]
  refine wpS_cond (t := false) (by simp [Act.eval, Array.replicate]) ?_
  simp only [Bool.false_eq_true, if_false]
  refine wpS_of_wp (wp_skip ?_)
  cases c₀
  simp_all [bodyPostS, results, Tryd.results45]
  exact St.refl w
theorem Decode_ok (w : World) (a : Option Addr) (c : Nat) (q : List UInt8) (v : V) (hr : Rd w a (bs q)) (hc : q.length ≤ c) (hm : c ≤ 9223372036854775807) (hq : q.length ≤ 2000000000000) (h : rdVal 16 q = some (v, [])) :
    Gives Tryd.prog 27 [.slice a q.length c] w [] (fun x : Option Addr × Nat × SH => .tuple #[vval v x.1 x.2.1, I 0]) (fun x => x.2.2) (fun x => Vs x.2.2 v (vval v x.1 x.2.1)) := by
  refine enterD Tryd.func27 Tryd.ntmps27 ?_
  refine c_seq <| c_reg <| s_alloc fun b2 => s_alloc fun b3 => s_nil <| q_then <| c_seq <| c_reg <| s_y y_func <| s_deferC <| s_nil <| q_then <| ?_
  have hne : bs q ≠ [] := by
    cases q with
    | nil => simp [rdVal] at h
    | cons x q => exact List.cons_ne_nil _ _
  refine c_seq <| c_reg <| s_y y_mv <| s_y (y_blds (places := #[(0, 1)]) (cs := [.slice a q.length c]) Tryd.underlying90 (fun w => by kernel_rfl)) <| s_box rfl fun b8 => s_y y_as <| s_nil <| q_then <| ?_
  refine c_seq <| c_reg <| s_y y_mv <| s_chg (b := b8) (fun w' hw => value_ok 16 w' b8 a c q v [] (Nat.le_refl _) ⟨hr.st hw, hc, hr.apart hne hw.new⟩ hm hq h (hw.own _ (.head _)).1) (fun _ => .head _) (fun z hz => s_perm (List.perm_append_comm_assoc [_, _, _] _ _) ?_)
  obtain ⟨a3, c3, va, vc, rs3⟩ := z
  obtain ⟨hz1, hz2⟩ := hz
  simp only at hz1 hz2
  refine s_sta (b := b2) (vs := #[I v.k, I v.n, .string (sb v.s), .slice va v.l.length vc]) (cs := #[I 0, I 0, .string (sb []), .slice none 0 0]) (h1 := by intro u hu; simp at hu; rcases hu with rfl | rfl | rfl | rfl <;> rfl) (hl := rfl) (hs1 := rfl) ?_
  refine s_nil <| q_then <| c_seq <| c_reg <| s_y y_mv <| s_y y_mv <| s_y y_nc <| s_y y_fa <| s_y (y_ld (v := .slice a3 0 c3)) <| s_y y_len <| s_kt (y_eql (p := ((0 : Nat) : Int)) (q := 0)) rfl <| s_pure (fun w' hw => want_ok w' _) <| s_nil <| q_then <| ?_
  refine c_seq <| c_reg <| s_y (y_lda (b := b2) (cs := #[I v.k, I v.n, .string (sb v.s), .slice va v.l.length vc]) (hl := rfl)) <| s_sta (b := b2) (vs := #[I v.k, I v.n, .string (sb v.s), .slice va v.l.length vc]) (cs := #[I v.k, I v.n, .string (sb v.s), .slice va v.l.length vc]) (h1 := by intro u hu; simp at hu; rcases hu with rfl | rfl | rfl | rfl <;> rfl) (hl := rfl) (hs1 := rfl) ?_
  refine s_st (b := b3) (v := I 0) (cs := #[I 0]) (hl := Nat.zero_lt_one) ?_
  refine s_nil <| q_then <| c_ret <| ?_
  exact leave_R (cs := [.pointer (some ⟨b2, 0, none⟩), .pointer (some ⟨b3, 0, none⟩)]) (fun w' hw => decode_idle w' b2 b3) Tryd.results27 (.cons (rv_ca (b := b2) (cs := #[I v.k, I v.n, .string (sb v.s), .slice va v.l.length vc]) (hl := rfl)) (.cons (rv_cf (b := b3) (v := I 0)) .nil)) fun w' hw => ⟨(va, vc, rs3), hz2, rfl, hw.sub (.cons _ (.cons _ (.cons _ (by rw [List.append_nil]; exact .refl _))))⟩
end Go.Proofs.YtjfiggbgpplopaaDoor
