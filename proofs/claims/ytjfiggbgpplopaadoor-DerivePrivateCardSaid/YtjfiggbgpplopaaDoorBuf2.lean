/- bytes.Buffer: the program. -/
import Derived.Test.YtjfiggbgpplopaaDoorBuf
namespace Go.Proofs.YtjfiggbgpplopaaDoor
open Go Eng

def bufc (a : Option Addr) (m c : Nat) : Array Value := #[.slice a m c, I 0, .int .i8 0]
abbrev bblk (b : Nat) (T : TypeId) (a : Option Addr) (m c : Nat) : Res := .blk b (.cells (bufc a m c) T (0, 0))

theorem Buffer_Len_ok (w : World) (b : Nat) (a : Option Addr) (m c : Nat) (hr : Rd w (some ⟨b, 0, none⟩) (bufc a m c).toList) (hm : m ≤ 9223372036854775807) :
    Pure Tryd.prog 76 [.pointer (some ⟨b, 0, none⟩)] w (I m) := by
  refine enter Tryd.func76 Tryd.ntmps76 ?_
  refine c_seq <| c_reg <| s_y y_as <| s_nil <| q_then <| c_seq <| c_regd <| d_y y_mv <| d_y y_nc <| d_y y_fa <| d_y (y_ldr (a := some ⟨b, 0, none⟩) (i := 0) (xs := (bufc a m c).toList) rfl (hr := rdW0 hr)) <| d_y y_len <| d_y y_mv <| d_y y_nc <| d_y y_fa <| d_y (y_ldr (a := some ⟨b, 0, none⟩) (i := 1) (xs := (bufc a m c).toList) (v := I 0) rfl (hr := rdW0 hr)) <| d_y (y_sub (p := m) (q := 0)) <| ?_
  rw [Int.sub_zero]
  refine d_y y_as <| d_nil <| q_then <| c_ret <| ?_
  exact ret1 Tryd.results76 rv_t fun w' hw => ⟨rfl, hw⟩

theorem Buffer_Bytes_ok (w : World) (b : Nat) (a : Option Addr) (m c : Nat) (hr : Rd w (some ⟨b, 0, none⟩) (bufc a m c).toList) :
    Pure Tryd.prog 53 [.pointer (some ⟨b, 0, none⟩)] w (.slice a m c) := by
  refine enter Tryd.func53 Tryd.ntmps53 ?_
  refine c_seq <| c_reg <| s_y y_as <| s_nil <| q_then <| c_seq <| c_regd <| d_y y_mv <| d_y y_nc <| d_y y_fa <| d_y (y_ldr (a := some ⟨b, 0, none⟩) (i := 0) (xs := (bufc a m c).toList) rfl (hr := rdW0 hr)) <| d_y y_mv <| d_y y_nc <| d_y y_fa <| d_y (y_ldr (a := some ⟨b, 0, none⟩) (i := 1) (xs := (bufc a m c).toList) (v := I 0) rfl (hr := rdW0 hr)) <| d_y (y_sll (i := 0)) <| ?_
  rw [show (0 : Int).toNat = 0 from rfl, sa_zero, Nat.sub_zero, Nat.sub_zero]
  refine d_y y_as <| d_nil <| q_then <| c_ret <| ?_
  exact ret1 Tryd.results53 rv_t fun w' hw => ⟨rfl, hw⟩

theorem tryGrow_no (w : World) (b : Nat) (a : Option Addr) (m c n : Nat) (hr : Rd w (some ⟨b, 0, none⟩) (bufc a m c).toList) (h : c < m + n) (hc : c ≤ 9223372036854775807) (hm : m ≤ c) :
    Pure Tryd.prog 51 [.pointer (some ⟨b, 0, none⟩), I n] w (.tuple #[I 0, .bool false]) := by
  refine enter Tryd.func51 Tryd.ntmps51 ?_
  refine c_seq <| c_reg <| s_y y_as <| s_y y_as <| s_nil <| q_then <| c_seq <| c_seq <| c_reg <| s_y y_mv <| s_y y_nc <| s_y y_fa <| s_y (y_ldr (a := some ⟨b, 0, none⟩) (i := 0) (xs := (bufc a m c).toList) rfl (hr := rdW0 hr)) <| s_y y_len <| s_y y_as <| s_nil <| q_then <| c_seq <| c_reg <| s_y y_mv <| s_y y_mv <| s_y y_nc <| s_y y_fa <| s_y (y_ldr (a := some ⟨b, 0, none⟩) (i := 0) (xs := (bufc a m c).toList) rfl (hr := rdW0 hr)) <| s_y y_cap <| s_y y_mv <| s_y (y_sub (p := c) (q := m)) <| s_kf y_leq (by omega) <| s_nil <| q_then <| c_f <| c_skip <| q_then <| c_seq <| c_reg <| s_y y_as <| s_y y_as <| s_nil <| q_then <| c_ret <| ?_
  exact ret2 Tryd.results51 rv_t rv_t fun w' hw => ⟨rfl, hw⟩

theorem tryGrow_yes (w : World) (b : Nat) (T : TypeId) (a : Option Addr) (m c n : Nat) (hb : (bblk b T a m c).holds w) (h : m + n ≤ c) (hc : c ≤ 9223372036854775807) :
    Gives Tryd.prog 51 [.pointer (some ⟨b, 0, none⟩), I n] w (keys [bblk b T a m c]) (fun _ : Unit => .tuple #[I m, .bool true]) (fun _ => [bblk b T a (m + n) c]) (fun _ => True) := by
  refine enterR Tryd.func51 Tryd.ntmps51 hb ?_
  refine c_seq <| c_reg <| s_y y_as <| s_y y_as <| s_nil <| q_then <| c_seq <| c_seq <| c_reg <| s_y y_mv <| s_y y_nc <| s_y y_fa <| s_y (y_ld (v := .slice a m c)) <| s_y y_len <| s_y y_as <| s_nil <| q_then <| c_seq <| c_reg <| s_y y_mv <| s_y y_mv <| s_y y_nc <| s_y y_fa <| s_y (y_ld (v := .slice a m c)) <| s_y y_cap <| s_y y_mv <| s_y (y_sub (p := c) (q := m)) <| s_kt y_leq (by omega) <| s_nil <| q_then <| c_t <| c_seq <| c_reg <| s_y y_mv <| s_y y_mv <| s_y y_nc <| s_y y_fa <| s_y (y_ld (v := .slice a m c)) <| s_y y_mv <| s_y y_mv <| s_y (y_add (p := m) (q := n)) <| s_y (y_slh (j := (m : Int) + n)) <| s_y y_nc <| s_y y_fa <| s_st (v := .slice a ((m : Int) + n).toNat c) (hl := show 0 + 0 < 3 by decide) ?_
  rw [show ((m : Int) + n).toNat = m + n by omega]
  refine s_nil <| q_then <| c_seq <| c_reg <| s_y y_mv <| s_y y_as <| s_y y_as <| s_nil <| q_then <| c_ret <| q_ret <| ?_
  exact ret2 Tryd.results51 rv_t rv_t fun w' hw => ⟨(), trivial, rfl, hw⟩

theorem catch_idle (w : World) : CallsD Tryd.prog 89 #[] .returning w fun e u' w' => e = .returned (.tuple #[]) ∧ u' = .returning ∧ w' = w := by
  have hnn : ∀ w : World, (binOp .neq 20 .nilIface .nilIface).run Tryd.prog w = .ok (.bool false) w := fun _ => by kernel_rfl
  refine callsD_of_wpS Tryd.func89 rfl fun c₀ cs hu => ?_
  apply wpS_seq
  apply wpS_region
  simp [wpOpsS, go_sem, recoverD, hu, hnn, Tryd.ntmps89, Exit.thenS]
  refine wpS_cond (t := false) (by simp [Act.eval, Array.replicate]) ?_
  simp only [Bool.false_eq_true, if_false]
  refine wpS_of_wp (wp_skip ?_)
  cases c₀
  simp_all [bodyPostS, results, Tryd.results89]
end Go.Proofs.YtjfiggbgpplopaaDoor
