/- Shares of secrets: values, in the program. -/
import Derived.Test.YtnmaegbobfngeaaDoorShB
import Derived.Test.YtnmaegbobfngeaaDoorPowX
namespace Eng
open Go
theorem rdOL {W0 w : World} {l0 l : SH} (hs : St W0 [] w l0) {a : Option Addr} {xs : List Value} (h : Rd W0 a xs) : RdS w (keys l0) l a xs := fun w' hw => by
  by_cases hne : xs = []
  · rw [hne]; exact Rd.nil _ _
  · refine Rd.congr h fun b hb => ?_
    have h1 : b < W0.heap.size := h.lt hne hb
    rw [hw.old b (Nat.lt_of_lt_of_le h1 hs.size) ?_, hs.old b h1 (by simp)]
    intro hm
    obtain ⟨q, hq, hk⟩ := mem_keys.1 hm
    rcases (hs.own q hq).2 b hk with h2 | h2
    · omega
    · simp at h2
end Eng
namespace Gf
open Go Eng
def sN (l : List (Nat × Nat)) : List (Int × Int) := l.map fun s => ((s.1 : Int), (s.2 : Int))
theorem sN_length (l : List (Nat × Nat)) : (sN l).length = l.length := by unfold sN; exact List.length_map _
def pl (l : List (Nat × Nat)) : List Nat := l.map (·.1)
theorem pl_length (l : List (Nat × Nat)) : (pl l).length = l.length := by unfold pl; exact List.length_map _
theorem sN_pl (l : List (Nat × Nat)) : (sN l).map (·.1) = ni (pl l) := by unfold sN ni pl; rw [List.map_map, List.map_map]; rfl
theorem shc_y (l : List (Nat × Nat)) (i : Nat) (h : i < l.length) : (shc (sN l))[i * 2 + 1]? = some (I ((l.getD i (0, 0)).2 : Nat)) := by
  have e : l = l.take i ++ l.getD i (0, 0) :: l.drop (i + 1) := by
    rw [List.getD_eq_getElem?_getD, List.getElem?_eq_getElem h]
    simp
  have e2 : sN l = sN (l.take i) ++ (((l.getD i (0, 0)).1 : Int), ((l.getD i (0, 0)).2 : Int)) :: sN (l.drop (i + 1)) := by
    conv => lhs; rw [e]
    unfold sN; rw [List.map_append, List.map_cons]
  have hl : (sN (l.take i)).length = i := by rw [sN_length, List.length_take]; omega
  have := shc_mid (sN (l.take i)) (((l.getD i (0, 0)).1 : Int), ((l.getD i (0, 0)).2 : Int)) (sN (l.drop (i + 1))) 1 _ rfl
  rw [hl, ← e2] at this
  exact this
/-- the sum of so many first ones -/
noncomputable def accQ (l : List (Nat × Nat)) (x : Nat) : Nat → Nat
  | 0 => 0
  | i + 1 => (accQ l x i + basQ ((pl l).eraseIdx i) ((pl l).getD i 0) x * (l.getD i (0, 0)).2 % 2305843009213688669) % 2305843009213688669
noncomputable def valQ (l : List (Nat × Nat)) (x : Nat) : Nat := accQ l x l.length
theorem accQ_lt (l : List (Nat × Nat)) (x i : Nat) : accQ l x i < 2305843009213688669 := by
  cases i with
  | zero => exact Nat.zero_lt_succ _
  | succ i => exact Nat.mod_lt _ (by decide)
end Gf
namespace Go.Proofs.YtnmaegbobfngeaaDoor
open Go Eng Gf
set_option maxRecDepth 100000
theorem placeOf_ok (w : World) (s : Int × Int) : Pure Tryd.prog 35 [.agg #[I s.1, I s.2]] w (I s.1) := by
  refine enter Tryd.func35 Tryd.ntmps35 ?_
  refine c_seq <| c_reg <| s_box rfl fun b1 => s_y y_as <| s_nil <| q_then <| c_seq <| c_reg <| s_y y_fa <| s_y (y_ld (v := I s.1)) <| s_y y_as <| s_nil <| q_then <| c_ret <| ?_
  exact ret1 Tryd.results35 rv_t fun w' hw => ⟨rfl, hw.sub (List.nil_sublist _)⟩
theorem collect_ok (w : World) (a : Option Addr) (c : Nat) (l : List (Int × Int)) (hr : Rd w a (shc l)) (hl : l.length ≤ 1000000) :
    Gives Tryd.prog 34 [.slice a l.length c, .func (.func 35) #[] #[]] w [] (fun x : Option Addr × Nat => .slice x.1 l.length x.2) (fun x => [.row x.1 x.2 3 1 l.length (is (l.map (·.1)))]) (fun _ => True) := by
  refine enter Tryd.func34 Tryd.ntmps34 ?_
  refine c_seq <| c_reg <| s_y y_as <| s_nil <| q_then <| c_seq <| c_seq <| c_reg <| s_y y_mv <| s_y y_len <| s_y y_mv <| s_nil <| q_then <| c_nilrow 3 1 <| c_block <| ?_
  refine c_loop4 (fun (d r : List (Int × Int)) (a' : Option Addr) (c' : Nat) => [(1, .func (.func 35) #[] #[]), (4, .slice a' d.length c'), (7, .slice a l.length c), (8, I l.length), (9, I d.length)]) (fun d _ a' c' => [.row a' c' 3 1 d.length (is (d.map (·.1)))]) (fun d r _ _ => l = d ++ r) (fun _ r _ _ => r.length) [] l none 0 rfl ⟨rfl, rfl, rfl, rfl, rfl, trivial⟩ (.refl _) ?_
  intro d r a' c' e1
  have hlen : l.length = d.length + r.length := by rw [e1, List.length_append]
  cases r with
  | nil =>
    rw [List.append_nil] at e1
    subst e1
    refine c_seq <| c_reg <| s_kf (y_lss (p := ((l.length : Nat) : Int)) (q := ((l.length : Nat) : Int))) (by omega) <| s_nil <| q_then <| c_seq <| c_f <| c_exit <| q_ex <| q_ex <| q_exb <| q_then <| c_seq <| c_reg <| s_y y_mv <| s_y y_as <| s_nil <| q_then <| c_ret <| ?_
    exact ret1 Tryd.results34 rv_t fun w' hw => ⟨(a', c'), trivial, rfl, hw⟩
  | cons s r =>
    rw [List.length_cons] at hlen
    refine c_seq <| c_reg <| s_kt (y_lss (p := ((d.length : Nat) : Int)) (q := ((l.length : Nat) : Int))) (by omega) <| s_nil <| q_then <| c_seq <| c_t <| c_skip <| q_then <| c_seq <| c_block <| c_seq <| c_reg <| s_y (y_ixs (xs := shc l) (i := ((d.length : Nat) : Int)) (hl := by rw [shc_length]; omega)) <| s_y (y_ldra (i := d.length * 2) (cs := [I s.1, I s.2]) (rdW0 hr) rfl (by rw [e1]; exact shc_mid d s r)) <| s_alloc fun b6 => s_sta (b := b6) (vs := #[I s.1, I s.2]) (cs := #[I 0, I 0]) (h1 := by intro u hu; simp at hu; rcases hu with rfl | rfl <;> rfl) (hl := rfl) (hs1 := rfl) ?_
    refine s_nil <| q_then <| c_reg <| s_y y_mv <| s_y y_mv <| s_y (y_lda (b := b6) (cs := #[I s.1, I s.2]) (hl := rfl)) <| s_pure (fun w' hw => placeOf_ok w' s) <| s_bslr (cs := is [s.1]) fun b17 => s_app (m := 1) (fun w' hw => Src.slice (rdR (.head _) w' hw) rfl) (h1 := fun v hv => by simp [is] at hv; subst hv; rfl) (hm := .tail _ (.tail _ (.head _))) (hrep := fun _ _ => .tail _ (.tail _ (.head _))) fun a18 c18 h18 => ?_
    have e2 : is (d.map (·.1)) ++ is [s.1] = is ((d ++ [s]).map (·.1)) := by simp [is]
    rw [e2]
    refine s_y y_as <| s_nil <| q_nb <| q_then <| c_reg <| s_y (y_add (p := ((d.length : Nat) : Int)) (q := 1)) <| s_y y_mv <| s_nil <| ?_
    have e3 : (d ++ [s]).length = d.length + 1 := by simp
    rw [show ((d.length : Nat) : Int) + 1 = (((d ++ [s]).length : Nat) : Int) by rw [e3]; omega, ← e3]
    exact q_round4 (x := d) (y := s :: r) (z := a') (u := c') (d ++ [s]) r a18 c18 (by rw [e1, List.append_assoc]; rfl) (Nat.lt_succ_self _) ⟨rfl, rfl, rfl, rfl, rfl, trivial⟩ (.cons _ (.cons _ (.refl _)))
theorem basis_ok (w : World) (pa : Option Addr) (n pc x : Nat) : Gives Tryd.prog 49 [.slice pa n pc, I x] w [] (fun y : Nat × Nat => .func (.func 70) #[] #[.pointer (some ⟨y.1, 0, none⟩), .pointer (some ⟨y.2, 0, none⟩)]) (fun y => [.blk y.2 (.cells #[I x] 3 (0, 0)), .blk y.1 (.cells #[.slice pa n pc] 49 (0, 0))]) (fun _ => True) := by
  refine enter Tryd.func49 Tryd.ntmps49 ?_
  refine c_seq <| c_reg <| s_box rfl fun b2 => s_box rfl fun b3 => s_y y_as <| s_nil <| q_then <| c_seq <| c_reg <| s_y y_func <| s_y y_as <| s_nil <| q_then <| c_ret <| ?_
  exact ret1 Tryd.results49 rv_t fun w' hw => ⟨(b2, b3), trivial, rfl, hw⟩
end Go.Proofs.YtnmaegbobfngeaaDoor
