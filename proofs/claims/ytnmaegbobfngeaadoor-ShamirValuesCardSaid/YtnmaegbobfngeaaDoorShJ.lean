/- Splitting a secret, in the program. -/
import Derived.Test.YtnmaegbobfngeaaDoorShI
import Derived.Test.YtnmaegbobfngeaaDoorScalX
namespace Go.Proofs.YtnmaegbobfngeaaDoor
open Go Eng Gf Cod Sha
abbrev lbShare : List UInt8 := [115, 104, 97, 114, 101]
/-- the coefficients; the shares -/
def cof (k : List UInt8) (x : Nat) (n : Nat) : List Nat := x :: (List.range n).map fun i => dscal (expand k lbShare [((i + 1 : Nat) : Int)]) lbShare
def spl (cs : List Nat) (many : Nat) : List (Nat × Nat) := (List.range many).map fun i => (i + 1, hor cs (i + 1))
theorem cof_length (k : List UInt8) (x n : Nat) : (cof k x n).length = n + 1 := by simp [cof]
theorem cof_succ (k : List UInt8) (x n : Nat) : cof k x (n + 1) = cof k x n ++ [dscal (expand k lbShare [((n + 1 : Nat) : Int)]) lbShare] := by simp [cof, List.range_succ]
theorem cof_lt (k : List UInt8) {x : Nat} (hx : x < 2305843009213688669) (n : Nat) : ∀ b ∈ cof k x n, b < 2305843009213688669 := by
  intro b hb
  rcases List.mem_cons.1 hb with rfl | hb
  · exact hx
  · obtain ⟨i, _, rfl⟩ := List.mem_map.1 hb
    exact (scal_lt _ _).2
theorem spl_length (cs : List Nat) (m : Nat) : (spl cs m).length = m := by simp [spl]
theorem spl_succ (cs : List Nat) (m : Nat) : spl cs (m + 1) = spl cs m ++ [(m + 1, hor cs (m + 1))] := by simp [spl, List.range_succ]
theorem ni_append (a b : List Nat) : ni (a ++ b) = ni a ++ ni b := by unfold ni; exact List.map_append
theorem sN_append (a b : List (Nat × Nat)) : sN (a ++ b) = sN a ++ sN b := by unfold sN; exact List.map_append
end Go.Proofs.YtnmaegbobfngeaaDoor
namespace Go.Proofs.YtnmaegbobfngeaaDoor
open Go Eng Gf Cod Sha
set_option maxRecDepth 100000
theorem y_bshr {n : Nat} {D : List Deferred} {W : World} {Bo : List Nat} {F : List (Nat × Value)} {l : SH} {d : Option Tmp} {ty : TypeId} {ps : String} {af : Array Edge} {g : Option (Nat × Bool)} {parts : Array (Nat × Operand)} {vs : List (Nat × Value)} {cs : List Value}
    (hp : evP F parts.toList = some vs := by rfl) (hf : fillL (fun i => (#[(0, 1), (1, 1)] : Array (Nat × Nat))[i]?) [I 0, I 0] vs = some cs := by rfl) :
    Y Tryd.prog n D W Bo ⟨d, .build 42 parts, ty, ps, af, g⟩ F l (.agg cs.toArray) :=
  y_blds Tryd.underlying42 (fun w => by kernel_rfl) hp hf
theorem s_Split_bad (w : World) (a n m : Int) (k : List UInt8) (h : sc a = false) : Pure Tryd.prog 16 [I a, I n, I m, .agg (bs k).toArray] w (.tuple #[.slice none 0 0, I 1]) := by
  refine enter Tryd.func16 Tryd.ntmps16 ?_
  refine c_seq <| c_reg <| s_box rfl fun b7 => s_y y_as <| s_y y_as <| s_nil <| q_then <| c_seq <| c_seq <| c_reg <| s_y y_mv <| s_pure (fun w' hw => (by have h9 := isScalar_ok w' a; rw [h] at h9; exact h9)) <| s_y (v := .bool true) (y_not (b := false)) <| s_nil <| q_then <| c_t <| c_seq <| c_reg <| s_y y_as <| s_y y_as <| s_nil <| q_then <| c_ret <| q_ret <| ?_
  exact ret2 Tryd.results16 rv_t rv_t fun w' hw => ⟨rfl, hw.sub (List.nil_sublist _)⟩
theorem s_Split_bad2 (w : World) (x : Nat) (n m : Int) (k : List UInt8) (hx : x < 2305843009213688669) (h : n < 1 ∨ m < n ∨ 64 < m) : Pure Tryd.prog 16 [I x, I n, I m, .agg (bs k).toArray] w (.tuple #[.slice none 0 0, I 80]) := by
  refine enter Tryd.func16 Tryd.ntmps16 ?_
  refine c_seq <| c_reg <| s_box rfl fun b7 => s_y y_as <| s_y y_as <| s_nil <| q_then <| c_seq <| c_seq <| c_reg <| s_y y_mv <| s_pure (fun w' hw => (by have h9 := isScalar_ok w' (x : Int); rw [sc_of hx] at h9; exact h9)) <| s_y (v := .bool false) (y_not (b := true)) <| s_nil <| q_then <| c_f <| c_skip <| q_then <| c_seq <| c_seq <| c_reg <| s_y y_mv <| ?_
  by_cases g1 : n < 1
  · refine s_kt (y_lss (p := n) (q := 1)) g1 <| s_y y_mv <| s_no <| s_no <| s_no <| s_y y_pk <| s_y y_mv <| s_no <| s_no <| s_y y_pk <| s_nil <| q_then <| c_t <| c_seq <| c_reg <| s_y y_as <| s_y y_as <| s_nil <| q_then <| c_ret <| q_ret <| ?_
    exact ret2 Tryd.results16 rv_t rv_t fun w' hw => ⟨rfl, hw.sub (List.nil_sublist _)⟩
  by_cases g2 : m < n
  · refine s_kf (y_lss (p := n) (q := 1)) g1 <| s_y y_mv <| s_y y_mv <| s_y y_mv <| s_kt (y_gtr (p := n) (q := m)) g2 <| s_y y_pk <| s_y y_mv <| s_no <| s_no <| s_y y_pk <| s_nil <| q_then <| c_t <| c_seq <| c_reg <| s_y y_as <| s_y y_as <| s_nil <| q_then <| c_ret <| q_ret <| ?_
    exact ret2 Tryd.results16 rv_t rv_t fun w' hw => ⟨rfl, hw.sub (List.nil_sublist _)⟩
  refine s_kf (y_lss (p := n) (q := 1)) g1 <| s_y y_mv <| s_y y_mv <| s_y y_mv <| s_kf (y_gtr (p := n) (q := m)) g2 <| s_y y_pk <| s_y y_mv <| s_y y_mv <| s_kt (y_gtr (p := m) (q := 64)) (by omega) <| s_y y_pk <| s_nil <| q_then <| c_t <| c_seq <| c_reg <| s_y y_as <| s_y y_as <| s_nil <| q_then <| c_ret <| q_ret <| ?_
  exact ret2 Tryd.results16 rv_t rv_t fun w' hw => ⟨rfl, hw.sub (List.nil_sublist _)⟩
theorem s_Split_yes (w : World) (x n m : Nat) (k : List UInt8) (hk : k.length = 32) (hg : LS w) (hx : x < 2305843009213688669) (hn : n + 1 ≤ m) (hm : m ≤ 64) :
    Gives Tryd.prog 16 [I x, I (n + 1 : Nat), I m, .agg (bs k).toArray] w [] (fun y : Option Addr × Nat => .tuple #[.slice y.1 m y.2, I 0]) (fun y => [.row y.1 y.2 42 2 m (shc (sN (spl (cof k x n) m)))]) (fun _ => True) := by
  have hs32 : (bs k).toArray.size = 32 := by simp [bs_length, hk]
  refine enter Tryd.func16 Tryd.ntmps16 ?_
  refine c_seq <| c_reg <| s_box rfl fun b7 => s_y y_as <| s_y y_as <| s_nil <| q_then <| c_seq <| c_seq <| c_reg <| s_y y_mv <| s_pure (fun w' hw => (by have h9 := isScalar_ok w' (x : Int); rw [sc_of hx] at h9; exact h9)) <| s_y (v := .bool false) (y_not (b := true)) <| s_nil <| q_then <| c_f <| c_skip <| q_then <| ?_
  refine c_seq <| c_seq <| c_reg <| s_y y_mv <| s_kf (y_lss (p := ((n + 1 : Nat) : Int)) (q := 1)) (by omega) <| s_y y_mv <| s_y y_mv <| s_y y_mv <| s_kf (y_gtr (p := ((n + 1 : Nat) : Int)) (q := ((m : Nat) : Int))) (by omega) <| s_y y_pk <| s_y y_mv <| s_y y_mv <| s_kf (y_gtr (p := ((m : Nat) : Int)) (q := 64)) (by omega) <| s_y y_pk <| s_nil <| q_then <| c_f <| c_skip <| q_then <| ?_
  refine c_seq <| c_reg <| s_y y_mv <| s_bslr (cs := is (ni (cof k x 0))) fun b30 => s_y y_as <| s_nil <| q_then <| c_seq <| c_seq <| c_reg <| s_y y_as <| s_nil <| q_then <| c_block <| ?_
  refine c_loop3 (fun (j : Nat) (a' : Option Addr) (c' : Nat) => [(1, I (n + 1 : Nat)), (2, I m), (7, .pointer (some ⟨b7, 0, none⟩)), (8, .slice none 0 0), (10, .slice a' (j + 1) c'), (11, I (j + 1 : Nat))]) (fun j a' c' => [.row a' c' 3 1 (j + 1) (is (ni (cof k x j))), .blk b7 (.cells (bs k).toArray 33 (0, 0))]) (fun j _ _ => j ≤ n) (fun j _ _ => n - j) 0 (some ⟨b30, 0, none⟩) 1 (Nat.zero_le _) ⟨rfl, rfl, rfl, rfl, rfl, rfl, trivial⟩ (.refl _) ?_
  intro j a' c' hj
  by_cases hjn : j < n
  · refine c_seq <| c_seq <| c_reg <| s_y y_mv <| s_y y_mv <| s_kt (y_lss (p := ((j + 1 : Nat) : Int)) (q := ((n + 1 : Nat) : Int))) (by omega) <| s_nil <| q_then <| c_t <| c_skip <| q_then <| c_seq <| c_block <| c_reg <| s_y y_mv <| s_y (y_lda (b := b7) (cs := (bs k).toArray) (hl := hs32)) <| s_y y_mv <| s_bslr (cs := is [((j + 1 : Nat) : Int)]) fun b39 => s_pure (fun w' hw => derive_Expand_ok w' k lbShare (some ⟨b39, 0, none⟩) 1 [((j + 1 : Nat) : Int)] (hg.st hw) hk (rdR (.head _) w' hw) (by intro z hz; rw [List.mem_singleton.1 hz]; unfold R64; omega) (by decide) (by simp)) <| s_pure (fun w' hw => derive_Scalar_ok w' (expand k lbShare [((j + 1 : Nat) : Int)]) lbShare (hg.st hw) (expand_length _ _ _) (by decide)) <| s_bslr (cs := is (ni [dscal (expand k lbShare [((j + 1 : Nat) : Int)]) lbShare])) fun b42 => s_app (m := 1) (fun w' hw => Src.slice (rdR (.head _) w' hw) rfl) (h1 := fun v hv => by simp [is, ni] at hv; subst hv; rfl) (hm := .tail _ (.tail _ (.head _))) (hrep := fun _ _ => .tail _ (.tail _ (.head _))) fun a43 c43 h43 => ?_
    rw [← Eng.is_append, ← ni_append, ← cof_succ]
    refine s_y y_as <| s_nil <| q_nb <| q_then <| c_reg <| s_y y_mv <| s_y (y_add (p := ((j + 1 : Nat) : Int)) (q := 1)) <| s_y y_as <| s_nil <| ?_
    rw [show ((j + 1 : Nat) : Int) + 1 = ((j + 1 + 1 : Nat) : Int) by omega]
    exact q_round3 (x := j) (y := a') (z := c') (j + 1) a43 c43 hjn (by omega) ⟨rfl, rfl, rfl, rfl, rfl, rfl, trivial⟩ (.cons _ (.cons _ (.refl _)))
  obtain rfl : j = n := by omega
  refine c_seq <| c_seq <| c_reg <| s_y y_mv <| s_y y_mv <| s_kf (y_lss (p := ((j + 1 : Nat) : Int)) (q := ((j + 1 : Nat) : Int))) (by omega) <| s_nil <| q_then <| c_f <| c_exit <| q_ex <| q_ex <| q_exb <| q_then <| ?_
  refine c_seq <| c_seq <| c_reg <| s_y y_as <| s_nil <| q_then <| c_nilrow 42 2 <| c_block <| ?_
  refine c_loop3 (fun (i : Nat) (a2 : Option Addr) (c2 : Nat) => [(2, I m), (8, .slice a2 i c2), (10, .slice a' (j + 1) c'), (12, I (i + 1 : Nat))]) (fun i a2 c2 => [.row a2 c2 42 2 i (shc (sN (spl (cof k x j) i))), .row a' c' 3 1 (j + 1) (is (ni (cof k x j)))]) (fun i _ _ => i ≤ m) (fun i _ _ => m - i) 0 none 0 (Nat.zero_le _) ⟨rfl, rfl, rfl, rfl, trivial⟩ (.cons_cons _ (.cons_cons _ (List.nil_sublist _))) ?_
  intro i a2 c2 hi
  by_cases him : i < m
  · have hcl := cof_length k x j
    refine c_seq <| c_seq <| c_reg <| s_y y_mv <| s_y y_mv <| s_kt (y_leq (p := ((i + 1 : Nat) : Int)) (q := ((m : Nat) : Int))) (by omega) <| s_nil <| q_then <| c_t <| c_skip <| q_then <| c_seq <| c_block <| c_seq <| c_reg <| s_y y_mv <| s_y y_mv <| s_pure (fun w' hw => by
      have h9 := f_Eval_yes w' a' c' (cof k x j) (i + 1) (rdR (.tail _ (.head _)) w' hw) (by rw [hcl]; omega) (cof_lt k hx j) (by omega)
      rw [hcl] at h9
      exact h9) <| s_y y_mv <| s_y y_ext <| s_y y_ext <| s_y y_as <| s_y y_as <| s_nil <| q_then <| ?_
    refine c_reg <| s_y y_mv <| s_y y_mv <| s_y y_mv <| s_y (y_bshr (cs := [I (i + 1 : Nat), I (hor (cof k x j) (i + 1) : Nat)])) <| s_bslr (cs := shc (sN [(i + 1, hor (cof k x j) (i + 1))])) fun b59 => s_app (m := 1) (fun w' hw => Src.slice (rdR (.head _) w' hw) rfl) (h1 := fun v hv => by simp [shc, sN] at hv; rcases hv with rfl | rfl <;> rfl) (hm := .tail _ (.head _)) (hrep := fun _ _ => .tail _ (.head _)) fun a60 c60 h60 => ?_
    rw [← shc_append, ← sN_append, ← spl_succ]
    refine s_y y_as <| s_nil <| q_nb <| q_then <| c_reg <| s_y y_mv <| s_y (y_add (p := ((i + 1 : Nat) : Int)) (q := 1)) <| s_y y_as <| s_nil <| ?_
    rw [show ((i + 1 : Nat) : Int) + 1 = ((i + 1 + 1 : Nat) : Int) by omega]
    exact q_round3 (x := i) (y := a2) (z := c2) (i + 1) a60 c60 him (by omega) ⟨rfl, rfl, rfl, rfl, trivial⟩ (.cons _ (.refl _))
  · obtain rfl : i = m := by omega
    refine c_seq <| c_seq <| c_reg <| s_y y_mv <| s_y y_mv <| s_kf (y_leq (p := ((i + 1 : Nat) : Int)) (q := ((i : Nat) : Int))) (by omega) <| s_nil <| q_then <| c_f <| c_exit <| q_ex <| q_ex <| q_exb <| q_then <| c_seq <| c_reg <| s_y y_mv <| s_y y_as <| s_y y_as <| s_nil <| q_then <| c_ret <| ?_
    exact ret2 Tryd.results16 rv_t rv_t fun w' hw => ⟨(a2, c2), trivial, rfl, hw.sub (.cons_cons _ (List.nil_sublist _))⟩
end Go.Proofs.YtnmaegbobfngeaaDoor
