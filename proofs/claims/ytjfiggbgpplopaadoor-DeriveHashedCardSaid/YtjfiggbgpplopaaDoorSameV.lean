/- Equal values are found equal. -/
import Derived.Test.YtjfiggbgpplopaaDoorDecD
namespace Go.Proofs.YtjfiggbgpplopaaDoor
open Go Eng Cod
set_option maxRecDepth 100000
theorem equalFunc_ok (w : World) (l : List V) (a a' : Option Addr) (c c' : Nat) (cells cells' : List Value) (hll : l.length < 1152921504606846976) (hr : Rd w a cells) (hcl : cells.length = l.length * 4) (hel : ∀ (i : Fin l.length), Vv w l[i] (.agg ((cells.drop (i.val * 4)).take 4).toArray))
    (hr' : Rd w a' cells') (hcl' : cells'.length = l.length * 4) (hel' : ∀ (i : Fin l.length), Vv w l[i] (.agg ((cells'.drop (i.val * 4)).take 4).toArray))
    (ih : ∀ (i : Nat) (hi : i < l.length) (w : World) (val val' : Value), Vv w l[i] val → Vv w l[i] val' → Pure Tryd.prog 28 [val, val'] w (.bool true)) :
    Pure Tryd.prog 48 [.slice a l.length c, .slice a' l.length c', .func (.func 28) #[] #[]] w (.bool true) := by
  refine enter Tryd.func48 Tryd.ntmps48 ?_
  refine c_seq <| c_reg <| s_y y_as <| s_nil <| q_then <| c_seq <| c_seq <| c_reg <| s_y y_mv <| s_y y_len <| s_y y_mv <| s_y y_len <| s_nf (y_neq (p := ((l.length : Nat) : Int)) (q := ((l.length : Nat) : Int))) (by omega) <| s_nil <| q_then <| c_f <| c_skip <| q_then <| c_seq <| c_seq <| c_reg <| s_y y_mv <| s_y y_len <| s_y y_mv <| s_nil <| q_then <| c_block <| ?_
  refine c_loop (fun i : Nat => [(1, .slice a' l.length c'), (2, .func (.func 28) #[] #[]), (15, .slice a l.length c), (16, I l.length), (17, I i)]) (fun _ => []) (fun i => i ≤ l.length) (fun i => l.length - i) 0 (by omega) ⟨rfl, rfl, rfl, rfl, rfl, trivial⟩ (List.nil_sublist _) ?_
  intro i hi
  by_cases hil : i < l.length
  · obtain ⟨hvi, h4, hcell⟩ := Vv.get hcl hel hil
    obtain ⟨hvi', h4', hcell'⟩ := Vv.get hcl' hel' hil
    have hone := Vv.one _ hvi
    have hone' := Vv.one _ hvi'
    generalize (cells.drop (i * 4)).take 4 = cs at *
    generalize (cells'.drop (i * 4)).take 4 = cs' at *
    refine c_seq <| c_reg <| s_kt (y_lss (p := ((i : Nat) : Int)) (q := ((l.length : Nat) : Int))) (by omega) <| s_nil <| q_then <| c_seq <| c_t <| c_skip <| q_then <| c_seq <| c_block <| c_seq <| c_reg <| s_y y_mv <| s_y (y_ixs (xs := cells) (hl := by omega)) <| s_y (y_ldra (i := i * 4) (cs := cs) (rdW0 hr) h4 hcell) <| s_alloc fun b8 => s_y y_as <| s_sta (b := b8) (vs := cs.toArray) (h1 := hone) (hl := by rw [List.size_toArray, h4]; rfl) (hs1 := by rw [List.size_toArray, h4]) ?_
    refine s_nil <| q_then <| c_seq <| c_reg <| s_y y_mv <| s_y y_mv <| s_y (y_ixs (xs := cells') (hl := by omega)) <| s_y (y_ldra (i := i * 4) (cs := cs') (rdW0 hr') h4' hcell') <| s_alloc fun b9 => s_sta (b := b9) (vs := cs'.toArray) (h1 := hone') (hl := by rw [List.size_toArray, h4']; rfl) (hs1 := by rw [List.size_toArray, h4']) ?_
    refine s_nil <| q_then <| c_seq <| c_reg <| s_y y_mv <| s_y (y_lda (b := b8) (cs := cs.toArray) (hl := by rw [List.size_toArray, h4])) <| s_y (y_lda (b := b9) (cs := cs'.toArray) (hl := by rw [List.size_toArray, h4'])) <| s_pure (fun w' hw => ih i hil w' (.agg cs.toArray) (.agg cs'.toArray) (hvi.st hw) (hvi'.st hw)) <| s_y (v := .bool false) (y_not (b := true)) <| s_nil <| q_then <| c_f <| c_skip <| q_nb <| q_then <| c_reg <| s_y (y_add (p := ((i : Nat) : Int)) (q := 1)) <| s_y y_mv <| s_nil <| ?_
    rw [show ((i : Nat) : Int) + 1 = ((i + 1 : Nat) : Int) by omega]
    exact q_round (i + 1) (by omega) (by omega) ⟨rfl, rfl, rfl, rfl, rfl, trivial⟩ (List.nil_sublist _)
  · refine c_seq <| c_reg <| s_kf (y_lss (p := ((i : Nat) : Int)) (q := ((l.length : Nat) : Int))) (by omega) <| s_nil <| q_then <| c_seq <| c_f <| c_exit <| q_ex <| q_ex <| q_exb <| q_then <| c_seq <| c_reg <| s_y y_as <| s_nil <| q_then <| c_ret <| ?_
    exact ret1 Tryd.results48 rv_t fun w' hw => ⟨rfl, hw⟩
theorem Same_ok (v : V) : ∀ (w : World) (val val' : Value), Vv w v val → Vv w v val' → Pure Tryd.prog 28 [val, val'] w (.bool true) := by
  induction v using V.ind with
  | h k n s l ih =>
    intro w val val' hv hv'
    rw [Vv] at hv hv'
    obtain ⟨a, c, cells, rfl, hn, ⟨hsl, hll⟩, hr, hcl, hel⟩ := hv
    obtain ⟨a', c', cells', rfl, _, _, hr', hcl', hel'⟩ := hv'
    refine enter Tryd.func28 Tryd.ntmps28 ?_
    refine c_seq <| c_reg <| s_box rfl fun b2 => s_box rfl fun b3 => s_y y_as <| s_nil <| q_then <| c_seq <| c_reg <| s_y y_fa <| s_y (y_ld (v := I k)) <| s_y y_fa <| s_y (y_ld (v := I k)) <| s_kt (y_eql (p := k) (q := k)) rfl <| s_y y_mv <| s_y y_fa <| s_y (y_ld (v := I n)) <| s_y y_fa <| s_y (y_ld (v := I n)) <| s_kt (y_eql (p := n) (q := n)) rfl <| s_y y_pk <| s_y y_mv <| s_y y_fa <| s_y (y_ld (v := .string (sb s))) <| s_y y_fa <| s_y (y_ld (v := .string (sb s))) <| s_kt (y_eqls (a := sb s) (b := sb s)) rfl <| s_y y_pk <| s_y y_mv <| s_y y_fa <| s_y (y_ld (v := .slice a l.length c)) <| s_y y_fa <| s_y (y_ld (v := .slice a' l.length c')) <| s_pure (fun w' hw => equalFunc_ok w' l a a' c c' cells cells' hll (hr.st hw) hcl (fun i => (hel i).st hw) (hr'.st hw) hcl' (fun i => (hel' i).st hw) ih) <| s_y y_pk <| s_y y_as <| s_nil <| q_then <| c_ret <| ?_
    exact ret1 Tryd.results28 rv_t fun w' hw => ⟨rfl, hw.sub (List.nil_sublist _)⟩
end Go.Proofs.YtjfiggbgpplopaaDoor
