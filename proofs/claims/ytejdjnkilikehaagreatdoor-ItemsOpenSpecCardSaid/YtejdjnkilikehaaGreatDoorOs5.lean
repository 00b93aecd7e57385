/- Joined texts: SigA EqS EqC ItA ItB ItC DecP DecW DecV DecL DecD DecN DecM DecI DecQ DecR DecS ItD. -/
import Derived.WalkKit
import Derived.TacticsInMore
import Derived.OrdersIn
import Derived.RangeFuncCalls
import Derived.Deep.LoopGhost
import Derived.Deep.Quiet
import Derived.KernelRfl
import Derived.Laws.BytesString
import Derived.Laws.StructEq
import Derived.MapKept
import Derived.Laws.IdiomStrings
import Derived.Recover
import Derived.RangeFuncLeaves
import Derived.ChangeKeysEq
import Derived.Laws.Build
import Derived.Stop.Asserts
import Derived.Maps.RangeRun
import Derived.ProofKit
import Derived.LaidMore
import Derived.LaidHandle
import Derived.OpenShut
import Derived.FnData
import Derived.SizedLaws
import Derived.ChangeMaps5
import Derived.Deep.Slices
import Derived.JoinedOf
import Derived.SevenTiedAt
import Derived.Test.YtejdjnkilikehaaGreatDoorChecked
import Derived.Test.YtejdjnkilikehaaGreatDoorRows
import Derived.Test.YtejdjnkilikehaaGreatDoorCards
import Derived.Test.YtejdjnkilikehaaGreatDoorTie
import Derived.Test.YtejdjnkilikehaaGreatDoorOs4
set_option linter.all false
section
namespace Sig
open Go Eng Sha Gf Wr Go.Proofs.YtejdjnkilikehaaGreatDoor
def bey (ns : List Nat) : List UInt8 := (ns.map fun n => be n 8).flatten
theorem bey_one (n : Nat) : bey [n] = be n 8 := by simp [bey]
theorem bey_two (m n : Nat) : bey [m, n] = be m 8 ++ be n 8 := by simp [bey]
theorem bey_length : ∀ ns : List Nat, (bey ns).length = 8 * ns.length
  | [] => rfl
  | n :: ns => by
    have := bey_length ns
    unfold bey at this ⊢
    rw [List.map_cons, List.flatten_cons, List.length_append, be_length, this, List.length_cons]; omega
theorem bey_take (ns : List Nat) (k : Nat) (h : k < ns.length) : bey (ns.take (k + 1)) = bey (ns.take k) ++ be ns[k] 8 := by
  unfold bey
  rw [List.take_succ_eq_append_getElem h, List.map_append, List.flatten_append]; simp
theorem one63 {x : Nat} (h : x < 9223372036854775808) : ∀ n ∈ [x], n < 9223372036854775808 := fun n hn => by rw [List.mem_singleton.1 hn]; exact h
theorem two63 {x y : Nat} (h : x < 9223372036854775808) (h2 : y < 9223372036854775808) : ∀ n ∈ [x, y], n < 9223372036854775808 := fun n hn => by
  rcases List.mem_cons.1 hn with rfl | hn
  · exact h
  · rw [List.mem_singleton.1 hn]; exact h2
theorem pp63 (a k : Nat) : pp a k < 9223372036854775808 := Nat.lt_trans (pp_lt a k) (by decide)
theorem _root_.Gf.El.l63 {x : Nat} (h : El x) : x < 9223372036854775808 := Nat.lt_trans h.lt (by decide)
theorem el_El {u : Int} (h : el u = true) : ∃ x : Nat, u = (x : Int) ∧ El x := by
  obtain ⟨x, e, h0, h1, h2⟩ := el_nat h
  exact ⟨x, e, ⟨h0, h1, h2⟩⟩
end Sig
namespace Go.Proofs.YtejdjnkilikehaaGreatDoor
open Go Eng Gf Sha Sig Wr Cod Cha
set_option maxRecDepth 100000
theorem hgk3 : (Tryz.prog).eqGuardType (Tryz.prog).depth 106 = false := by kernel_rfl
theorem sValid_y (w : World) (x : Nat) (h0 : 1 ≤ x) (h : x < 2305843009213688669) : Pure Tryz.prog 74 [I x] w (.bool true) := by
  have h9 := sValid_ok w (x : Int)
  rw [pvB_of h0 h] at h9
  exact h9
theorem sPub_y (w : World) (x : Nat) (h : x < 2305843009213688669) : Pure Tryz.prog 75 [I x] w (I (pp 4 x : Nat)) := by
  refine enter Tryz.func75 Tryz.ntmps75 ?_
  refine c_seq <| c_reg <| s_y y_as <| s_nil <| q_then <| c_seq <| c_reg <| s_y y_mv <| s_pure (v := .tuple #[I (pp 4 x : Nat), I 0]) (fun w' hw => gBase_el w' x h) <| s_y y_mv <| s_y y_ext <| s_y y_ext <| s_y y_as <| s_y y_as <| s_nil <| q_then <| c_seq <| c_reg <| s_y y_mv <| s_y y_as <| s_nil <| q_then <| c_ret <| ?_
  exact ret1 Tryz.results75 rv_t fun w' hw => ⟨rfl, hw⟩
theorem one3 {a b c : Int} {v : Value} (h : v ∈ [I a, I b, I c]) : v.oneCell' = true := by
  rcases h with _ | ⟨_, _ | ⟨_, _ | ⟨_, h⟩⟩⟩
  · rfl
  · rfl
  · rfl
  · cases h
theorem gMul_yes (w : World) (x y : Nat) (hx : El x) (hy : El y) : Pure Tryz.prog 85 [I x, I y] w (.tuple #[I (x * y % 4611686018427377339 : Nat), I 0]) := by
  have h := gMul_ok w (x : Int) (y : Int)
  rw [show mulV (x : Int) (y : Int) = ((x * y % 4611686018427377339 : Nat) : Int) by rw [mulV, hx.el, hy.el]; simp, show mulE (x : Int) (y : Int) = 0 by rw [mulE, hx.el, hy.el]; rfl] at h
  exact h
theorem s_hash_ok (w : World) (t m : List UInt8) (a A : Option Addr) (c C : Nat) (ns : List Nat) (hg : LS w) (ht : t.length ≤ 1000) (hr : Rd w a (bs m)) (hA : Rd w A (ns.map fun n => I ((n : Nat) : Int))) (hn : ∀ n ∈ ns, n < 9223372036854775808) (hnl : ns.length ≤ 2) (hl : m.length ≤ 100000000) :
    Pure Tryz.prog 84 [.string (sb t), .slice a m.length c, .slice A ns.length C] w (I (scal t (bey ns ++ m) : Nat)) := by
  have hml : ns.length ≤ (ns.map fun n => I ((n : Nat) : Int)).length := by rw [List.length_map]; exact Nat.le_refl _
  refine enter Tryz.func84 Tryz.ntmps84 ?_
  refine c_seq <| c_reg <| s_y y_as <| s_nil <| q_then <| c_seq <| c_reg <| s_y y_as <| s_nil <| q_then <| c_seq <| c_seq <| c_reg <| s_y y_mv <| s_y y_len <| s_y y_mv <| s_nil <| q_then <| c_nilrow 5 1 <| c_block <| ?_
  refine c_loop3 (fun (k : Nat) (b : Option Addr) (d : Nat) => [(0, .string (sb t)), (1, .slice a m.length c), (7, .slice b (8 * k) d), (11, .slice A ns.length C), (12, I ns.length), (13, I k)]) (fun k b d => [.row b d 5 1 (8 * k) (bs (bey (ns.take k)))]) (fun k _ _ => k ≤ ns.length) (fun k _ _ => ns.length - k) 0 none 0 (by omega) ⟨rfl, rfl, rfl, rfl, rfl, rfl, trivial⟩ (.refl _) ?_
  intro k b d hk
  by_cases hlt : k < ns.length
  · have hv : (ns.map fun n => I ((n : Nat) : Int))[k]? = some (I ((ns[k] : Nat) : Int)) := by rw [List.getElem?_map, List.getElem?_eq_getElem hlt]; rfl
    have hb := hn ns[k] (List.getElem_mem hlt)
    have hbl := be_length ns[k] 8
    have hstep := bey_take ns k hlt
    obtain ⟨z, hz⟩ : ∃ z, ns[k] = z := ⟨_, rfl⟩
    rw [hz] at hv hb hbl hstep
    refine c_seq <| c_reg <| s_kt (y_lss (p := ((k : Nat) : Int)) (q := ((ns.length : Nat) : Int))) (by omega) <| s_nil <| q_then <| c_seq <| c_t <| c_skip <| q_then <| c_seq <| c_block <| c_seq <| c_reg <| s_y (y_ixs1 (xs := ns.map fun n => I ((n : Nat) : Int)) (hl := hml)) <| s_y (y_ldr (v := I ((z : Nat) : Int)) (xs := ns.map fun n => I ((n : Nat) : Int)) (i := (k : Int).toNat) hv) <| s_y y_as <| s_nil <| q_then <| c_seq <| c_reg <| s_y y_as <| s_nil <| q_then <| c_block <| ?_
    refine c_loop3 (fun (j : Nat) (b : Option Addr) (d : Nat) => [(0, .string (sb t)), (1, .slice a m.length c), (7, .slice b (8 * k + j) d), (9, I z), (10, I (56 - 8 * (j : Int))), (11, .slice A ns.length C), (12, I ns.length), (13, I k)]) (fun j b d => [.row b d 5 1 (8 * k + j) (bs (bey (ns.take k) ++ (be z 8).take j))]) (fun j _ _ => j ≤ 8) (fun j _ _ => 8 - j) 0 b d (by omega) ⟨rfl, rfl, rfl, rfl, rfl, rfl, rfl, rfl, trivial⟩ (by rw [List.take_zero, List.append_nil]; exact .refl _) ?_
    intro j b2 d2 hj
    by_cases h8 : j < 8
    · refine c_seq <| c_seq <| c_reg <| s_y y_mv <| s_kt (y_geq (p := 56 - 8 * (j : Int)) (q := 0)) (by omega) <| s_nil <| q_then <| c_t <| c_skip <| q_then <| c_seq <| c_block <| c_reg <| s_y y_mv <| s_y y_mv <| s_y (y_cvn (k := .u64) (p := ((z : Nat) : Int)) (hw := wrap_u64 (by omega) (by omega))) <| s_y y_mv <| ?_
      rw [show (56 : Int) - 8 * (j : Int) = ((56 - 8 * j : Nat) : Int) by omega]
      refine s_y (y_shr (p := z) (q := ((56 - 8 * j : Nat) : Int))) <| ?_
      rw [Int.toNat_natCast]
      refine s_y y_cv8 <| ?_
      rw [cvn8, show UInt8.ofNat (z / 2 ^ (56 - 8 * j)) = (be z 8).getD j 0 by rw [be_get z 8 j h8, show 8 * (8 - 1 - j) = 56 - 8 * j by omega]]
      refine s_bslr (cs := bs [(be z 8).getD j 0]) fun b29 => s_app (m := 1) (srcB (q := [(be z 8).getD j 0]) (rdR (.head _)) rfl) (h1 := fun v hv => bs_one hv) (hm := .tail _ (.head _)) (hrep := fun _ _ => .tail _ (.head _)) fun a30 c30 h30 => ?_
      rw [← bs_append, List.append_assoc, ← Eng.take_snoc (be z 8) j 0 (by omega), show 8 * k + j + 1 = 8 * k + (j + 1) by omega]
      refine s_y y_as <| s_nil <| q_nb <| q_then <| c_reg <| s_y y_mv <| s_y (y_sub (p := ((56 - 8 * j : Nat) : Int)) (q := 8)) <| ?_
      rw [show ((56 - 8 * j : Nat) : Int) - 8 = 56 - 8 * ((j + 1 : Nat) : Int) by omega]
      refine s_y y_as <| s_nil <| q_round3 (x := j) (y := b2) (z := d2) (j + 1) a30 c30 (by omega) (by omega) ⟨rfl, rfl, rfl, rfl, rfl, rfl, rfl, rfl, trivial⟩ (.cons _ (.refl _))
    · obtain rfl : j = 8 := by omega
      rw [List.take_of_length_le (l := be z 8) (by omega), ← hstep, show 8 * k + 8 = 8 * (k + 1) by omega]
      refine c_seq <| c_seq <| c_reg <| s_y y_mv <| s_kf (y_geq (p := 56 - 8 * ((8 : Nat) : Int)) (q := 0)) (by omega) <| s_nil <| q_then <| c_f <| c_exit <| q_ex <| q_ex <| q_exb <| q_nb <| q_then <| c_reg <| s_y (y_add (p := ((k : Nat) : Int)) (q := 1)) <| s_y y_mv <| s_nil <| ?_
      rw [show ((k : Nat) : Int) + 1 = ((k + 1 : Nat) : Int) by omega]
      exact q_round3 (x := k) (y := b) (z := d) (k + 1) b2 d2 (by omega) (by omega) ⟨rfl, rfl, rfl, rfl, rfl, rfl, trivial⟩ (.refl _)
  · obtain rfl : k = ns.length := by omega
    have hbl := bey_length ns
    rw [List.take_length]
    refine c_seq <| c_reg <| s_kf (y_lss (p := ((ns.length : Nat) : Int)) (q := ((ns.length : Nat) : Int))) (by omega) <| s_nil <| q_then <| c_seq <| c_f <| c_exit <| q_ex <| q_ex <| q_exb <| q_then <| c_seq <| c_reg <| s_y y_mv <| s_y y_mv <| s_y y_mv <| s_app (m := m.length) (srcB (q := m) (rdW0 hr) rfl) (h1 := fun v hv => bs_one hv) (hm := .head _) (hrep := fun _ _ => .head _) fun a33 c33 h33 => ?_
    rw [← bs_append, show 8 * ns.length + m.length = (bey ns ++ m).length by rw [List.length_append]; omega]
    refine s_pure (fun w' hw => group_Scalar_ok w' t a33 c33 (bey ns ++ m) (hg.st hw) (by omega) (rdR (.head _) w' hw) (by rw [List.length_append]; omega)) <| s_y y_as <| s_nil <| q_then <| c_ret <| ?_
    exact ret1 Tryz.results84 rv_t fun w' hw => ⟨rfl, hw.sub (List.nil_sublist _)⟩
theorem r5_Chal_ok (w : World) (p r : Nat) (m : List UInt8) (a : Option Addr) (c : Nat) (hp63 : p < 9223372036854775808 ∧ r < 9223372036854775808) (hr : Rd w a (bs m)) (hl : m.length ≤ 100000000) : Pure Tryz.prog 126 [I p, I r, .slice a m.length c] w (I (chal r p m : Nat)) := by
  obtain ⟨hp63, hr63⟩ := hp63
  have h8p := be_length p 8
  have h8r := be_length r 8
  have h16 : (be r 8 ++ (be p 8)).length = 16 := by rw [List.length_append]; omega
  have h17 : (be r 8 ++ (be p 8) ++ m).length = 16 + m.length := by rw [List.length_append]; omega
  refine enter Tryz.func126 Tryz.ntmps126 ?_
  refine c_seq <| c_reg <| s_y y_as <| s_nil <| q_then <| c_seq <| c_reg <| s_y y_mv <| s_gives (fun w' hw => r5_Bytes_ok w' r hr63) fun x8 _ => s_y y_mv <| s_gives (fun w' hw => r5_Bytes_ok w' p hp63) fun x10 _ => s_app (m := 8) (srcB (q := be p 8) (rdR (.head _)) (be_length _ _)) (h1 := fun v hv => bs_one hv) (hm := .tail _ (.head _)) (hrep := fun _ _ => .tail _ (.head _)) fun a11 c11 h11 => ?_
  rw [← bs_append]
  rw [show 8 + 8 = (be r 8 ++ (be p 8)).length by first | omega | (simp only [List.length_append]; omega)]
  refine s_y y_mv <| s_app (m := m.length) (srcB (q := m) (rdW0 hr) rfl) (h1 := fun v hv => bs_one hv) (hm := .tail _ (.head _)) (hrep := fun _ _ => .tail _ (.head _)) fun a13 c13 h13 => ?_
  rw [← bs_append]
  rw [show (be r 8 ++ (be p 8)).length + m.length = (be r 8 ++ (be p 8) ++ m).length by first | omega | (simp only [List.length_append]; omega)]
  refine s_pure (fun w' hw => ref04_Scalar_ok w' tSign a13 c13 (be r 8 ++ (be p 8) ++ m) (by decide) (rdR (.tail _ (.head _)) w' hw) (by simp only [List.length_append]; omega)) <| s_y y_as <| s_nil <| q_then <| c_ret <| ?_
  exact ret1 Tryz.results126 rv_t fun w' hw => ⟨rfl, hw.sub (List.nil_sublist _)⟩
theorem sSign_yes (w : World) (a : Option Addr) (c : Nat) (m : List UInt8) (x : Nat) (hg : LS w) (hr : Rd w a (bs m)) (hl : m.length ≤ 100000000) (hx0 : 1 ≤ x) (hx : x < 2305843009213688669) : Pure Tryz.prog 107 [I x, .slice a m.length c] w (.tuple #[.agg #[I (sgR x m : Nat), I (sgS x m : Nat)], I 0]) := by
  refine enter Tryz.func107 Tryz.ntmps107 ?_
  refine c_seq <| c_reg <| s_alloc fun b4 => s_y y_as <| s_nil <| q_then <| c_seq <| c_reg <| s_y y_mv <| s_y y_as <| s_nil <| q_then <| c_seq <| c_reg <| s_y y_mv <| s_y y_func <| s_y y_mv <| s_y y_func <| s_y y_as <| s_y y_as <| s_nil <| q_then <| c_seq <| c_seq <| c_reg <| s_y y_mv <| s_pure (fun w' hw => sValid_y w' x hx0 hx) <| s_y (v := .bool false) (y_not (b := true)) <| s_nil <| q_then <| c_f <| c_skip <| q_then <| c_seq <| c_reg <| s_y y_mv <| s_y y_mv <| s_bslr (cs := [I x]) fun b23 => s_pure (fun w' hw => s_hash_ok w' tNonce m a (some ⟨b23, 0, none⟩) c 1 [x] (hg.st hw) (by decide) (hr.st hw) (rdR (.head _) w' hw) (one63 (by omega)) (by simp) hl) <| ?_
  rw [bey_one, show scal tNonce (be x 8 ++ m) = nonce x m from rfl]
  refine s_y y_as <| s_nil <| q_then <| c_seq <| c_reg <| s_y y_mv <| s_pure (fun w' hw => gBase_el w' (nonce x m) (nonce_lt _ _)) <| ?_
  rw [show pp 4 (nonce x m) = sgR x m from rfl]
  refine s_y y_mv <| s_y y_ext <| s_y y_ext <| s_y y_fa <| s_st (b := b4) (v := I (sgR x m : Nat)) (cs := #[I 0, I 0]) (hl := by simp) ?_
  refine s_nil <| q_then <| c_seq <| c_regL [.row (some ⟨b23, 0, none⟩) 1 3 1 1 [I x], .blk b4 (.cells #[I (sgR x m : Nat), I 0] 34 (0, 0))] <| r_y 0 rfl y_mv <| r_y 1 rfl y_fa <| r_y 2 rfl (y_ld (b := b4) (v := I (sgR x m : Nat))) <| r_y 3 rfl y_mv <| r_y 7 rfl y_mv <| r_W 4 rfl <| s_pure (fun w' hw => sPub_y w' x hx) <| r_K <| r_W 5 rfl <| s_bslr (cs := [I (sgR x m : Nat), I (pp 4 x : Nat)]) fun b37 => r_K <| r_W 6 rfl <| s_pure (fun w' hw => s_hash_ok w' tSign m a (some ⟨b37, 0, none⟩) c 2 [sgR x m, pp 4 x] (hg.st hw) (by decide) (hr.st hw) (rdR (.head _) w' hw) (two63 (pp63 _ _) (pp63 _ _)) (by simp) hl) <| ?_
  rw [bey_two, show scal tSign (be (sgR x m) 8 ++ be (pp 4 x) 8 ++ m) = chal (sgR x m) (pp 4 x) m from rfl]
  refine r_K <| r_W 8 rfl <| s_pure (fun w' hw => f_Mul_yes w' (chal (sgR x m) (pp 4 x) m) x (chal_lt _ _ _) hx) <| r_K <| r_y 9 rfl y_mv <| r_y 10 rfl y_ext <| r_y 11 rfl y_ext <| r_y 12 rfl y_as <| r_y 13 rfl y_as <| r_E <| q_then <| c_seq <| c_reg <| s_y y_mv <| s_y y_mv <| s_pure (fun w' hw => f_Add_yes w' (nonce x m) ((chal (sgR x m) (pp 4 x) m) * x % 2305843009213688669) (nonce_lt _ _) (Nat.mod_lt _ (by decide))) <| ?_
  rw [show (nonce x m + (chal (sgR x m) (pp 4 x) m) * x % 2305843009213688669) % 2305843009213688669 = sgS x m from rfl]
  refine s_y y_mv <| s_y y_ext <| s_y y_ext <| s_y y_fa <| s_st (b := b4) (v := I (sgS x m : Nat)) (cs := #[I (sgR x m : Nat), I 0]) (hl := by simp) ?_
  refine s_y y_as <| s_nil <| q_then <| c_seq <| c_reg <| s_y (y_lda (b := b4) (cs := #[I (sgR x m : Nat), I (sgS x m : Nat)]) (hl := rfl)) <| s_y y_mv <| s_sta (b := b4) (vs := #[I (sgR x m : Nat), I (sgS x m : Nat)]) (cs := #[I (sgR x m : Nat), I (sgS x m : Nat)]) (h1 := by intro u hu; simp at hu; rcases hu with rfl | rfl <;> rfl) (hl := rfl) (hs1 := rfl) ?_
  refine s_y y_as <| s_nil <| q_then <| c_ret <| ?_
  exact ret2 Tryz.results107 (rv_ca (b := b4) (cs := #[I (sgR x m : Nat), I (sgS x m : Nat)]) (hl := rfl)) rv_t fun w' hw => ⟨rfl, hw.sub (List.nil_sublist _)⟩
theorem sVerify_bad (w : World) (a : Option Addr) (c : Nat) (m : List UInt8) (p r s : Int) (hr : Rd w a (bs m)) (hl : m.length ≤ 100000000) (hz : ¬ [chk p, chk r, bif sc s then 0 else 1] = [0, 0, 0]) : Pure Tryz.prog 34 [I p, .slice a m.length c, .agg #[I r, I s]] w (.bool false) := by
  refine enter Tryz.func34 Tryz.ntmps34 ?_
  refine c_seq <| c_reg <| s_box rfl fun b5 => s_y y_as <| s_nil <| q_then <| c_seq <| c_regL [.blk b5 (.cells #[I r, I s] 34 (0, 0))] <| r_y 0 rfl y_mv <| r_y 2 rfl y_fa <| r_y 3 rfl (y_ld (b := b5) (v := I r)) <| r_y 5 rfl y_fa <| r_y 6 rfl (y_ld (b := b5) (v := I s)) <| r_w2 1 9 rfl rfl ?_ ?_ (hsub := by repeat (first | exact List.nil_sublist _ | exact List.Sublist.refl _ | apply List.Sublist.cons_cons | apply List.Sublist.cons))
  · refine s_pure (fun w' hw => gCheck_ok w' p) <| r_K <| r_w2 4 9 rfl rfl ?_ ?_ (hsub := by repeat (first | exact List.nil_sublist _ | exact List.Sublist.refl _ | apply List.Sublist.cons_cons | apply List.Sublist.cons))
    · refine s_pure (fun w' hw => gCheck_ok w' r) <| r_K <| r_w2 7 9 rfl rfl ?_ ?_ (hsub := by repeat (first | exact List.nil_sublist _ | exact List.Sublist.refl _ | apply List.Sublist.cons_cons | apply List.Sublist.cons))
      · refine s_pure (fun w' hw => f_Check_ok w' s) <| r_K <| r_y 8 rfl (y_blda (cs := [I (chk p), I (chk r), I (bif sc s then 0 else 1)])) <| r_W 9 rfl <| s_alloc fun b7 => r_K <| r_W 10 rfl <| s_sta (b := b7) (vs := #[I (chk p), I (chk r), I (bif sc s then 0 else 1)]) (cs := #[I 0, I 0, I 0]) (h1 := fun v hv => one3 hv) (hl := (rfl : (3 : Nat) = 3)) (hs1 := (rfl : (3 : Nat) = 3)) ?_
        refine r_K <| r_E <| q_then <| c_seq <| c_seq <| c_reg <| s_y (y_lda (b := b7) (cs := #[I (chk p), I (chk r), I (bif sc s then 0 else 1)]) (hl := rfl)) <| s_y (y_blda (cs := [I 0, I 0, I 0])) <| s_nt (y_neqi (m := 3) (p := [chk p, chk r, bif sc s then 0 else 1]) (q := [0, 0, 0]) rfl rfl hgk3) hz <| s_nil <| q_then <| c_t <| c_seq <| c_reg <| s_y y_as <| s_nil <| q_then <| c_ret <| q_ret <| ?_
        exact ret1 Tryz.results34 rv_t fun w' hw => ⟨rfl, hw.sub (List.nil_sublist _)⟩
      · refine s_alloc fun b7 => r_K <| r_W 7 rfl <| s_pure (fun w' hw => f_Check_ok w' s) <| r_K <| r_y 8 rfl (y_blda (cs := [I (chk p), I (chk r), I (bif sc s then 0 else 1)])) <| r_W 10 rfl <| s_sta (b := b7) (vs := #[I (chk p), I (chk r), I (bif sc s then 0 else 1)]) (cs := #[I 0, I 0, I 0]) (h1 := fun v hv => one3 hv) (hl := (rfl : (3 : Nat) = 3)) (hs1 := (rfl : (3 : Nat) = 3)) ?_
        refine r_K <| r_E <| q_then <| c_seq <| c_seq <| c_reg <| s_y (y_lda (b := b7) (cs := #[I (chk p), I (chk r), I (bif sc s then 0 else 1)]) (hl := rfl)) <| s_y (y_blda (cs := [I 0, I 0, I 0])) <| s_nt (y_neqi (m := 3) (p := [chk p, chk r, bif sc s then 0 else 1]) (q := [0, 0, 0]) rfl rfl hgk3) hz <| s_nil <| q_then <| c_t <| c_seq <| c_reg <| s_y y_as <| s_nil <| q_then <| c_ret <| q_ret <| ?_
        exact ret1 Tryz.results34 rv_t fun w' hw => ⟨rfl, hw.sub (List.nil_sublist _)⟩
    · refine s_alloc fun b7 => r_K <| r_W 4 rfl <| s_pure (fun w' hw => gCheck_ok w' r) <| r_K <| r_W 7 rfl <| s_pure (fun w' hw => f_Check_ok w' s) <| r_K <| r_y 8 rfl (y_blda (cs := [I (chk p), I (chk r), I (bif sc s then 0 else 1)])) <| r_W 10 rfl <| s_sta (b := b7) (vs := #[I (chk p), I (chk r), I (bif sc s then 0 else 1)]) (cs := #[I 0, I 0, I 0]) (h1 := fun v hv => one3 hv) (hl := (rfl : (3 : Nat) = 3)) (hs1 := (rfl : (3 : Nat) = 3)) ?_
      refine r_K <| r_E <| q_then <| c_seq <| c_seq <| c_reg <| s_y (y_lda (b := b7) (cs := #[I (chk p), I (chk r), I (bif sc s then 0 else 1)]) (hl := rfl)) <| s_y (y_blda (cs := [I 0, I 0, I 0])) <| s_nt (y_neqi (m := 3) (p := [chk p, chk r, bif sc s then 0 else 1]) (q := [0, 0, 0]) rfl rfl hgk3) hz <| s_nil <| q_then <| c_t <| c_seq <| c_reg <| s_y y_as <| s_nil <| q_then <| c_ret <| q_ret <| ?_
      exact ret1 Tryz.results34 rv_t fun w' hw => ⟨rfl, hw.sub (List.nil_sublist _)⟩
  · refine s_alloc fun b7 => r_K <| r_W 1 rfl <| s_pure (fun w' hw => gCheck_ok w' p) <| r_K <| r_W 4 rfl <| s_pure (fun w' hw => gCheck_ok w' r) <| r_K <| r_W 7 rfl <| s_pure (fun w' hw => f_Check_ok w' s) <| r_K <| r_y 8 rfl (y_blda (cs := [I (chk p), I (chk r), I (bif sc s then 0 else 1)])) <| r_W 10 rfl <| s_sta (b := b7) (vs := #[I (chk p), I (chk r), I (bif sc s then 0 else 1)]) (cs := #[I 0, I 0, I 0]) (h1 := fun v hv => one3 hv) (hl := (rfl : (3 : Nat) = 3)) (hs1 := (rfl : (3 : Nat) = 3)) ?_
    refine r_K <| r_E <| q_then <| c_seq <| c_seq <| c_reg <| s_y (y_lda (b := b7) (cs := #[I (chk p), I (chk r), I (bif sc s then 0 else 1)]) (hl := rfl)) <| s_y (y_blda (cs := [I 0, I 0, I 0])) <| s_nt (y_neqi (m := 3) (p := [chk p, chk r, bif sc s then 0 else 1]) (q := [0, 0, 0]) rfl rfl hgk3) hz <| s_nil <| q_then <| c_t <| c_seq <| c_reg <| s_y y_as <| s_nil <| q_then <| c_ret <| q_ret <| ?_
    exact ret1 Tryz.results34 rv_t fun w' hw => ⟨rfl, hw.sub (List.nil_sublist _)⟩
theorem sVerify_good (w : World) (a : Option Addr) (c : Nat) (m : List UInt8) (p r s : Nat) (hg : LS w) (hr : Rd w a (bs m)) (hl : m.length ≤ 100000000) (hep : El p) (her : El r) (hs : s < 2305843009213688669) : Pure Tryz.prog 34 [I p, .slice a m.length c, .agg #[I r, I s]] w (.bool (decide (pp 4 s = r * pp p (chal r p m) % 4611686018427377339))) := by
  have hz : [chk p, chk r, bif sc s then 0 else 1] = [0, 0, 0] := by rw [chk, hep.el, chk, her.el, sc_of hs]; rfl
  refine enter Tryz.func34 Tryz.ntmps34 ?_
  refine c_seq <| c_reg <| s_box rfl fun b5 => s_y y_as <| s_nil <| q_then <| c_seq <| c_regL [.blk b5 (.cells #[I r, I s] 34 (0, 0))] <| r_y 0 rfl y_mv <| r_y 2 rfl y_fa <| r_y 3 rfl (y_ld (b := b5) (v := I r)) <| r_y 5 rfl y_fa <| r_y 6 rfl (y_ld (b := b5) (v := I s)) <| r_w2 1 9 rfl rfl ?_ ?_ (hsub := by repeat (first | exact List.nil_sublist _ | exact List.Sublist.refl _ | apply List.Sublist.cons_cons | apply List.Sublist.cons))
  · refine s_pure (fun w' hw => gCheck_ok w' p) <| r_K <| r_w2 4 9 rfl rfl ?_ ?_ (hsub := by repeat (first | exact List.nil_sublist _ | exact List.Sublist.refl _ | apply List.Sublist.cons_cons | apply List.Sublist.cons))
    · refine s_pure (fun w' hw => gCheck_ok w' r) <| r_K <| r_w2 7 9 rfl rfl ?_ ?_ (hsub := by repeat (first | exact List.nil_sublist _ | exact List.Sublist.refl _ | apply List.Sublist.cons_cons | apply List.Sublist.cons))
      · refine s_pure (fun w' hw => f_Check_ok w' s) <| r_K <| r_y 8 rfl (y_blda (cs := [I (chk p), I (chk r), I (bif sc s then 0 else 1)])) <| r_W 9 rfl <| s_alloc fun b7 => r_K <| r_W 10 rfl <| s_sta (b := b7) (vs := #[I (chk p), I (chk r), I (bif sc s then 0 else 1)]) (cs := #[I 0, I 0, I 0]) (h1 := fun v hv => one3 hv) (hl := (rfl : (3 : Nat) = 3)) (hs1 := (rfl : (3 : Nat) = 3)) ?_
        refine r_K <| r_E <| q_then <| c_seq <| c_seq <| c_reg <| s_y (y_lda (b := b7) (cs := #[I (chk p), I (chk r), I (bif sc s then 0 else 1)]) (hl := rfl)) <| s_y (y_blda (cs := [I 0, I 0, I 0])) <| s_nf (y_neqi (m := 3) (p := [chk p, chk r, bif sc s then 0 else 1]) (q := [0, 0, 0]) rfl rfl hgk3) hz <| s_nil <| q_then <| c_f <| c_skip <| q_then <| c_seq <| c_reg <| s_y y_fa <| s_y (y_ld (b := b5) (v := I s)) <| s_pure (fun w' hw => gBase_el w' s hs) <| s_y y_mv <| s_y y_ext <| s_y y_ext <| s_y y_as <| s_y y_as <| s_nil <| q_then <| c_seq <| c_reg <| s_y y_mv <| s_y y_mv <| s_y y_fa <| s_y (y_ld (b := b5) (v := I r)) <| s_y y_mv <| s_bslr (cs := [I r, I p]) fun b38 => s_pure (fun w' hw => s_hash_ok w' tSign m a (some ⟨b38, 0, none⟩) c 2 [r, p] (hg.st hw) (by decide) (hr.st hw) (rdR (.head _) w' hw) (two63 (El.l63 her) (El.l63 hep)) (by simp) hl) <| ?_
        rw [bey_two, show scal tSign (be r 8 ++ be p 8 ++ m) = chal r p m from rfl]
        refine s_pure (fun w' hw => gExp_yes w' p (chal r p m) hep (chal_lt _ _ _)) <| s_y y_mv <| s_y y_ext <| s_y y_ext <| s_y y_as <| s_y y_as <| s_nil <| q_then <| c_seq <| c_reg <| s_y y_fa <| s_y (y_ld (b := b5) (v := I r)) <| s_y y_mv <| s_pure (fun w' hw => gMul_yes w' r (pp p (chal r p m)) her (hep.pow _)) <| s_y y_mv <| s_y y_ext <| s_y y_ext <| s_y y_as <| s_y y_as <| s_nil <| q_then <| c_seq <| c_reg <| s_y y_mv <| s_y y_mv <| s_y (y_eql (p := ((pp 4 s : Nat) : Int)) (q := ((r * pp p (chal r p m) % 4611686018427377339 : Nat) : Int))) <| ?_
        rw [show decide (((pp 4 s : Nat) : Int) = ((r * pp p (chal r p m) % 4611686018427377339 : Nat) : Int)) = decide (pp 4 s = r * pp p (chal r p m) % 4611686018427377339) by rw [decide_eq_decide]; omega]
        refine s_y y_as <| s_nil <| q_then <| c_ret <| ?_
        exact ret1 Tryz.results34 rv_t fun w' hw => ⟨rfl, hw.sub (List.nil_sublist _)⟩
      · refine s_alloc fun b7 => r_K <| r_W 7 rfl <| s_pure (fun w' hw => f_Check_ok w' s) <| r_K <| r_y 8 rfl (y_blda (cs := [I (chk p), I (chk r), I (bif sc s then 0 else 1)])) <| r_W 10 rfl <| s_sta (b := b7) (vs := #[I (chk p), I (chk r), I (bif sc s then 0 else 1)]) (cs := #[I 0, I 0, I 0]) (h1 := fun v hv => one3 hv) (hl := (rfl : (3 : Nat) = 3)) (hs1 := (rfl : (3 : Nat) = 3)) ?_
        refine r_K <| r_E <| q_then <| c_seq <| c_seq <| c_reg <| s_y (y_lda (b := b7) (cs := #[I (chk p), I (chk r), I (bif sc s then 0 else 1)]) (hl := rfl)) <| s_y (y_blda (cs := [I 0, I 0, I 0])) <| s_nf (y_neqi (m := 3) (p := [chk p, chk r, bif sc s then 0 else 1]) (q := [0, 0, 0]) rfl rfl hgk3) hz <| s_nil <| q_then <| c_f <| c_skip <| q_then <| c_seq <| c_reg <| s_y y_fa <| s_y (y_ld (b := b5) (v := I s)) <| s_pure (fun w' hw => gBase_el w' s hs) <| s_y y_mv <| s_y y_ext <| s_y y_ext <| s_y y_as <| s_y y_as <| s_nil <| q_then <| c_seq <| c_reg <| s_y y_mv <| s_y y_mv <| s_y y_fa <| s_y (y_ld (b := b5) (v := I r)) <| s_y y_mv <| s_bslr (cs := [I r, I p]) fun b38 => s_pure (fun w' hw => s_hash_ok w' tSign m a (some ⟨b38, 0, none⟩) c 2 [r, p] (hg.st hw) (by decide) (hr.st hw) (rdR (.head _) w' hw) (two63 (El.l63 her) (El.l63 hep)) (by simp) hl) <| ?_
        rw [bey_two, show scal tSign (be r 8 ++ be p 8 ++ m) = chal r p m from rfl]
        refine s_pure (fun w' hw => gExp_yes w' p (chal r p m) hep (chal_lt _ _ _)) <| s_y y_mv <| s_y y_ext <| s_y y_ext <| s_y y_as <| s_y y_as <| s_nil <| q_then <| c_seq <| c_reg <| s_y y_fa <| s_y (y_ld (b := b5) (v := I r)) <| s_y y_mv <| s_pure (fun w' hw => gMul_yes w' r (pp p (chal r p m)) her (hep.pow _)) <| s_y y_mv <| s_y y_ext <| s_y y_ext <| s_y y_as <| s_y y_as <| s_nil <| q_then <| c_seq <| c_reg <| s_y y_mv <| s_y y_mv <| s_y (y_eql (p := ((pp 4 s : Nat) : Int)) (q := ((r * pp p (chal r p m) % 4611686018427377339 : Nat) : Int))) <| ?_
        rw [show decide (((pp 4 s : Nat) : Int) = ((r * pp p (chal r p m) % 4611686018427377339 : Nat) : Int)) = decide (pp 4 s = r * pp p (chal r p m) % 4611686018427377339) by rw [decide_eq_decide]; omega]
        refine s_y y_as <| s_nil <| q_then <| c_ret <| ?_
        exact ret1 Tryz.results34 rv_t fun w' hw => ⟨rfl, hw.sub (List.nil_sublist _)⟩
    · refine s_alloc fun b7 => r_K <| r_W 4 rfl <| s_pure (fun w' hw => gCheck_ok w' r) <| r_K <| r_W 7 rfl <| s_pure (fun w' hw => f_Check_ok w' s) <| r_K <| r_y 8 rfl (y_blda (cs := [I (chk p), I (chk r), I (bif sc s then 0 else 1)])) <| r_W 10 rfl <| s_sta (b := b7) (vs := #[I (chk p), I (chk r), I (bif sc s then 0 else 1)]) (cs := #[I 0, I 0, I 0]) (h1 := fun v hv => one3 hv) (hl := (rfl : (3 : Nat) = 3)) (hs1 := (rfl : (3 : Nat) = 3)) ?_
      refine r_K <| r_E <| q_then <| c_seq <| c_seq <| c_reg <| s_y (y_lda (b := b7) (cs := #[I (chk p), I (chk r), I (bif sc s then 0 else 1)]) (hl := rfl)) <| s_y (y_blda (cs := [I 0, I 0, I 0])) <| s_nf (y_neqi (m := 3) (p := [chk p, chk r, bif sc s then 0 else 1]) (q := [0, 0, 0]) rfl rfl hgk3) hz <| s_nil <| q_then <| c_f <| c_skip <| q_then <| c_seq <| c_reg <| s_y y_fa <| s_y (y_ld (b := b5) (v := I s)) <| s_pure (fun w' hw => gBase_el w' s hs) <| s_y y_mv <| s_y y_ext <| s_y y_ext <| s_y y_as <| s_y y_as <| s_nil <| q_then <| c_seq <| c_reg <| s_y y_mv <| s_y y_mv <| s_y y_fa <| s_y (y_ld (b := b5) (v := I r)) <| s_y y_mv <| s_bslr (cs := [I r, I p]) fun b38 => s_pure (fun w' hw => s_hash_ok w' tSign m a (some ⟨b38, 0, none⟩) c 2 [r, p] (hg.st hw) (by decide) (hr.st hw) (rdR (.head _) w' hw) (two63 (El.l63 her) (El.l63 hep)) (by simp) hl) <| ?_
      rw [bey_two, show scal tSign (be r 8 ++ be p 8 ++ m) = chal r p m from rfl]
      refine s_pure (fun w' hw => gExp_yes w' p (chal r p m) hep (chal_lt _ _ _)) <| s_y y_mv <| s_y y_ext <| s_y y_ext <| s_y y_as <| s_y y_as <| s_nil <| q_then <| c_seq <| c_reg <| s_y y_fa <| s_y (y_ld (b := b5) (v := I r)) <| s_y y_mv <| s_pure (fun w' hw => gMul_yes w' r (pp p (chal r p m)) her (hep.pow _)) <| s_y y_mv <| s_y y_ext <| s_y y_ext <| s_y y_as <| s_y y_as <| s_nil <| q_then <| c_seq <| c_reg <| s_y y_mv <| s_y y_mv <| s_y (y_eql (p := ((pp 4 s : Nat) : Int)) (q := ((r * pp p (chal r p m) % 4611686018427377339 : Nat) : Int))) <| ?_
      rw [show decide (((pp 4 s : Nat) : Int) = ((r * pp p (chal r p m) % 4611686018427377339 : Nat) : Int)) = decide (pp 4 s = r * pp p (chal r p m) % 4611686018427377339) by rw [decide_eq_decide]; omega]
      refine s_y y_as <| s_nil <| q_then <| c_ret <| ?_
      exact ret1 Tryz.results34 rv_t fun w' hw => ⟨rfl, hw.sub (List.nil_sublist _)⟩
  · refine s_alloc fun b7 => r_K <| r_W 1 rfl <| s_pure (fun w' hw => gCheck_ok w' p) <| r_K <| r_W 4 rfl <| s_pure (fun w' hw => gCheck_ok w' r) <| r_K <| r_W 7 rfl <| s_pure (fun w' hw => f_Check_ok w' s) <| r_K <| r_y 8 rfl (y_blda (cs := [I (chk p), I (chk r), I (bif sc s then 0 else 1)])) <| r_W 10 rfl <| s_sta (b := b7) (vs := #[I (chk p), I (chk r), I (bif sc s then 0 else 1)]) (cs := #[I 0, I 0, I 0]) (h1 := fun v hv => one3 hv) (hl := (rfl : (3 : Nat) = 3)) (hs1 := (rfl : (3 : Nat) = 3)) ?_
    refine r_K <| r_E <| q_then <| c_seq <| c_seq <| c_reg <| s_y (y_lda (b := b7) (cs := #[I (chk p), I (chk r), I (bif sc s then 0 else 1)]) (hl := rfl)) <| s_y (y_blda (cs := [I 0, I 0, I 0])) <| s_nf (y_neqi (m := 3) (p := [chk p, chk r, bif sc s then 0 else 1]) (q := [0, 0, 0]) rfl rfl hgk3) hz <| s_nil <| q_then <| c_f <| c_skip <| q_then <| c_seq <| c_reg <| s_y y_fa <| s_y (y_ld (b := b5) (v := I s)) <| s_pure (fun w' hw => gBase_el w' s hs) <| s_y y_mv <| s_y y_ext <| s_y y_ext <| s_y y_as <| s_y y_as <| s_nil <| q_then <| c_seq <| c_reg <| s_y y_mv <| s_y y_mv <| s_y y_fa <| s_y (y_ld (b := b5) (v := I r)) <| s_y y_mv <| s_bslr (cs := [I r, I p]) fun b38 => s_pure (fun w' hw => s_hash_ok w' tSign m a (some ⟨b38, 0, none⟩) c 2 [r, p] (hg.st hw) (by decide) (hr.st hw) (rdR (.head _) w' hw) (two63 (El.l63 her) (El.l63 hep)) (by simp) hl) <| ?_
    rw [bey_two, show scal tSign (be r 8 ++ be p 8 ++ m) = chal r p m from rfl]
    refine s_pure (fun w' hw => gExp_yes w' p (chal r p m) hep (chal_lt _ _ _)) <| s_y y_mv <| s_y y_ext <| s_y y_ext <| s_y y_as <| s_y y_as <| s_nil <| q_then <| c_seq <| c_reg <| s_y y_fa <| s_y (y_ld (b := b5) (v := I r)) <| s_y y_mv <| s_pure (fun w' hw => gMul_yes w' r (pp p (chal r p m)) her (hep.pow _)) <| s_y y_mv <| s_y y_ext <| s_y y_ext <| s_y y_as <| s_y y_as <| s_nil <| q_then <| c_seq <| c_reg <| s_y y_mv <| s_y y_mv <| s_y (y_eql (p := ((pp 4 s : Nat) : Int)) (q := ((r * pp p (chal r p m) % 4611686018427377339 : Nat) : Int))) <| ?_
    rw [show decide (((pp 4 s : Nat) : Int) = ((r * pp p (chal r p m) % 4611686018427377339 : Nat) : Int)) = decide (pp 4 s = r * pp p (chal r p m) % 4611686018427377339) by rw [decide_eq_decide]; omega]
    refine s_y y_as <| s_nil <| q_then <| c_ret <| ?_
    exact ret1 Tryz.results34 rv_t fun w' hw => ⟨rfl, hw.sub (List.nil_sublist _)⟩
theorem r5_Verify_b1 (w : World) (a : Option Addr) (c : Nat) (m : List UInt8) (p r s : Int) (hr : Rd w a (bs m)) (hl : m.length ≤ 100000000) (h1 : chk p ≠ 0) : Pure Tryz.prog 64 [I p, .slice a m.length c, .agg #[I r, I s]] w (.bool false) := by
  refine enter Tryz.func64 Tryz.ntmps64 ?_
  refine c_seq <| c_reg <| s_box rfl fun b5 => s_y y_as <| s_nil <| q_then <| c_seq <| c_seq <| c_reg <| s_y y_mv <| s_pure (fun w' hw => rCheck_ok w' p) <| s_nt (y_neq (p := chk p) (q := 0)) h1 <| s_y y_mv <| s_no <| s_no <| s_no <| s_no <| s_y y_pk <| s_y y_mv <| s_no <| s_no <| s_no <| s_no <| s_y y_pk <| s_nil <| q_then <| c_t <| c_seq <| c_reg <| s_y y_as <| s_nil <| q_then <| c_ret <| q_ret <| ?_
  exact ret1 Tryz.results64 rv_t fun w' hw => ⟨rfl, hw.sub (List.nil_sublist _)⟩
theorem r5_Verify_b2 (w : World) (a : Option Addr) (c : Nat) (m : List UInt8) (p r s : Int) (hr : Rd w a (bs m)) (hl : m.length ≤ 100000000) (h1 : chk p = 0) (h2 : chk r ≠ 0) : Pure Tryz.prog 64 [I p, .slice a m.length c, .agg #[I r, I s]] w (.bool false) := by
  refine enter Tryz.func64 Tryz.ntmps64 ?_
  refine c_seq <| c_reg <| s_box rfl fun b5 => s_y y_as <| s_nil <| q_then <| c_seq <| c_seq <| c_reg <| s_y y_mv <| s_pure (fun w' hw => rCheck_ok w' p) <| s_nf (y_neq (p := chk p) (q := 0)) h1 <| s_y y_mv <| s_y y_fa <| s_y (y_ld (b := b5) (v := I r)) <| s_pure (fun w' hw => rCheck_ok w' r) <| s_nt (y_neq (p := chk r) (q := 0)) h2 <| s_y y_pk <| s_y y_mv <| s_no <| s_no <| s_no <| s_no <| s_y y_pk <| s_nil <| q_then <| c_t <| c_seq <| c_reg <| s_y y_as <| s_nil <| q_then <| c_ret <| q_ret <| ?_
  exact ret1 Tryz.results64 rv_t fun w' hw => ⟨rfl, hw.sub (List.nil_sublist _)⟩
theorem r5_Verify_b3 (w : World) (a : Option Addr) (c : Nat) (m : List UInt8) (p r s : Int) (hr : Rd w a (bs m)) (hl : m.length ≤ 100000000) (h1 : chk p = 0) (h2 : chk r = 0) (h3 : sc s = false) : Pure Tryz.prog 64 [I p, .slice a m.length c, .agg #[I r, I s]] w (.bool false) := by
  refine enter Tryz.func64 Tryz.ntmps64 ?_
  refine c_seq <| c_reg <| s_box rfl fun b5 => s_y y_as <| s_nil <| q_then <| c_seq <| c_seq <| c_reg <| s_y y_mv <| s_pure (fun w' hw => rCheck_ok w' p) <| s_nf (y_neq (p := chk p) (q := 0)) h1 <| s_y y_mv <| s_y y_fa <| s_y (y_ld (b := b5) (v := I r)) <| s_pure (fun w' hw => rCheck_ok w' r) <| s_nf (y_neq (p := chk r) (q := 0)) h2 <| s_y y_pk <| s_y y_mv <| s_y y_fa <| s_y (y_ld (b := b5) (v := I s)) <| s_pure (fun w' hw => (by have h9 := r3Scalar_ok w' s; rw [h3] at h9; exact h9)) <| s_y (v := .bool true) (y_not (b := false)) <| s_y y_pk <| s_nil <| q_then <| c_t <| c_seq <| c_reg <| s_y y_as <| s_nil <| q_then <| c_ret <| q_ret <| ?_
  exact ret1 Tryz.results64 rv_t fun w' hw => ⟨rfl, hw.sub (List.nil_sublist _)⟩
theorem r5_Verify_good (w : World) (a : Option Addr) (c : Nat) (m : List UInt8) (p r s : Nat) (hr : Rd w a (bs m)) (hl : m.length ≤ 100000000) (hep : El p) (her : El r) (hs : s < 2305843009213688669) : Pure Tryz.prog 64 [I p, .slice a m.length c, .agg #[I r, I s]] w (.bool (decide (pp 4 s = r * pp p (chal r p m) % 4611686018427377339))) := by
  have h1 : chk p = 0 := by rw [chk, hep.el]; rfl
  have h2 : chk r = 0 := by rw [chk, her.el]; rfl
  refine enter Tryz.func64 Tryz.ntmps64 ?_
  refine c_seq <| c_reg <| s_box rfl fun b5 => s_y y_as <| s_nil <| q_then <| c_seq <| c_seq <| c_reg <| s_y y_mv <| s_pure (fun w' hw => rCheck_ok w' p) <| s_nf (y_neq (p := chk p) (q := 0)) h1 <| s_y y_mv <| s_y y_fa <| s_y (y_ld (b := b5) (v := I r)) <| s_pure (fun w' hw => rCheck_ok w' r) <| s_nf (y_neq (p := chk r) (q := 0)) h2 <| s_y y_pk <| s_y y_mv <| s_y y_fa <| s_y (y_ld (b := b5) (v := I s)) <| s_pure (fun w' hw => (by have h9 := r3Scalar_ok w' s; rw [sc_of hs] at h9; exact h9)) <| s_y (v := .bool false) (y_not (b := true)) <| s_y y_pk <| s_nil <| q_then <| c_f <| c_skip <| q_then <| c_seq <| c_reg <| s_y y_fa <| s_y (y_ld (b := b5) (v := I s)) <| s_pure (fun w' hw => rBase_el w' s hs) <| s_y y_mv <| s_y y_ext <| s_y y_ext <| s_y y_as <| s_y y_as <| s_nil <| q_then <| c_seq <| c_reg <| s_y y_mv <| s_y y_mv <| s_y y_fa <| s_y (y_ld (b := b5) (v := I r)) <| s_y y_mv <| s_pure (fun w' hw => r5_Chal_ok w' p r m a c ⟨El.l63 hep, El.l63 her⟩ (hr.st hw) hl) <| s_pure (fun w' hw => rExp_yes w' p (chal r p m) hep (chal_lt _ _ _)) <| s_y y_mv <| s_y y_ext <| s_y y_ext <| s_y y_as <| s_y y_as <| s_nil <| q_then <| c_seq <| c_reg <| s_y y_fa <| s_y (y_ld (b := b5) (v := I r)) <| s_y y_mv <| s_pure (fun w' hw => rMul_yes w' r (pp p (chal r p m)) her (hep.pow _)) <| s_y y_mv <| s_y y_ext <| s_y y_ext <| s_y y_as <| s_y y_as <| s_nil <| q_then <| c_seq <| c_reg <| s_y y_mv <| s_y y_mv <| s_y (y_eql (p := ((pp 4 s : Nat) : Int)) (q := ((r * pp p (chal r p m) % 4611686018427377339 : Nat) : Int))) <| ?_
  rw [show decide (((pp 4 s : Nat) : Int) = ((r * pp p (chal r p m) % 4611686018427377339 : Nat) : Int)) = decide (pp 4 s = r * pp p (chal r p m) % 4611686018427377339) by rw [decide_eq_decide]; omega]
  refine s_y y_as <| s_nil <| q_then <| c_ret <| ?_
  exact ret1 Tryz.results64 rv_t fun w' hw => ⟨rfl, hw.sub (List.nil_sublist _)⟩
theorem chk_0 {p : Int} : chk p = 0 ↔ el p = true := by
  unfold chk
  cases el p <;> simp
theorem sVerify_ok (w : World) (a : Option Addr) (c : Nat) (m : List UInt8) (p r s : Int) (hg : LS w) (hr : Rd w a (bs m)) (hl : m.length ≤ 100000000) : Pure Tryz.prog 34 [I p, .slice a m.length c, .agg #[I r, I s]] w (.bool (vrf p m r s)) := by
  cases hp : el p with
  | false =>
    rw [show vrf p m r s = false by rw [vrf, hp, Bool.false_and]]
    exact sVerify_bad w a c m p r s hr hl (fun h => by have h1 := (List.cons.inj h).1; rw [chk_0, hp] at h1; cases h1)
  | true =>
    cases hr2 : el r with
    | false =>
      rw [show vrf p m r s = false by rw [vrf, hr2, Bool.false_and, Bool.and_false]]
      exact sVerify_bad w a c m p r s hr hl (fun h => by have h1 := (List.cons.inj (List.cons.inj h).2).1; rw [chk_0, hr2] at h1; cases h1)
    | true =>
      cases hs : sc s with
      | false =>
        rw [show vrf p m r s = false by rw [vrf, hs, Bool.false_and, Bool.and_false, Bool.and_false]]
        exact sVerify_bad w a c m p r s hr hl (fun h => by have h1 := (List.cons.inj (List.cons.inj (List.cons.inj h).2).2).1; rw [hs] at h1; cases h1)
      | true =>
        obtain ⟨x, rfl, hx⟩ := el_El hp
        obtain ⟨y, rfl, hy⟩ := el_El hr2
        obtain ⟨z, rfl, hz⟩ := sc_nat hs
        rw [show vrf (x : Int) m y z = decide (pp 4 z = y * pp x (chal y x m) % 4611686018427377339) by rw [vrf, hp, hr2, hs, Bool.true_and, Bool.true_and, Bool.true_and, Int.toNat_natCast, Int.toNat_natCast, Int.toNat_natCast]]
        exact sVerify_good w a c m x y z hg hr hl hx hy hz
theorem r5_Verify_ok (w : World) (a : Option Addr) (c : Nat) (m : List UInt8) (p r s : Int) (hr : Rd w a (bs m)) (hl : m.length ≤ 100000000) : Pure Tryz.prog 64 [I p, .slice a m.length c, .agg #[I r, I s]] w (.bool (vrf p m r s)) := by
  cases hp : el p with
  | false =>
    rw [show vrf p m r s = false by rw [vrf, hp, Bool.false_and]]
    exact r5_Verify_b1 w a c m p r s hr hl (fun h => by rw [chk_0, hp] at h; cases h)
  | true =>
    cases hr2 : el r with
    | false =>
      rw [show vrf p m r s = false by rw [vrf, hr2, Bool.false_and, Bool.and_false]]
      exact r5_Verify_b2 w a c m p r s hr hl (chk_0.2 hp) (fun h => by rw [chk_0, hr2] at h; cases h)
    | true =>
      cases hs : sc s with
      | false =>
        rw [show vrf p m r s = false by rw [vrf, hs, Bool.false_and, Bool.and_false, Bool.and_false]]
        exact r5_Verify_b3 w a c m p r s hr hl (chk_0.2 hp) (chk_0.2 hr2) hs
      | true =>
        obtain ⟨x, rfl, hx⟩ := el_El hp
        obtain ⟨y, rfl, hy⟩ := el_El hr2
        obtain ⟨z, rfl, hz⟩ := sc_nat hs
        rw [show vrf (x : Int) m y z = decide (pp 4 z = y * pp x (chal y x m) % 4611686018427377339) by rw [vrf, hp, hr2, hs, Bool.true_and, Bool.true_and, Bool.true_and, Int.toNat_natCast, Int.toNat_natCast, Int.toNat_natCast]]
        exact r5_Verify_good w a c m x y z hr hl hx hy hz
end Go.Proofs.YtejdjnkilikehaaGreatDoor
end
section
namespace Eng
open Go Go.RowKit
section
variable {P : Program} {n : Nat} {D : List Deferred} {W : World} {Bo : List Nat} {F : List (Nat × Value)} {l : SH}
  {d : Option Tmp} {ty : TypeId} {ps : String} {af : Array Edge} {g : Option (Nat × Bool)} {x y : Operand} {ta tb e : TypeId}
theorem eqItems_r [hf : HT P e true] {by' : Nat} [hs : HS P e 1 by'] [hi : HU P e (.int .u8)] {p : List UInt8} (k : Nat) (w : World) : ∀ is : List Nat, (∀ i ∈ is, i < p.length) →
    (Op.eqItems (k + 1) e 1 (bs p).toArray (bs p).toArray is).run P w = .ok true w
  | [], _ => by simp [Op.eqItems]
  | i :: is, h => by
    have h1 := h i (.head _)
    have e1 : (bs p).toArray[i]? = some (B p[i]) := by rw [List.getElem?_toArray, bs_get h1]; simp [List.getD_eq_getElem?_getD, List.getElem?_eq_getElem h1]
    have e3 : (Op.equalIn (k + 1) e (B p[i]) (B p[i])).run P w = .ok true w := by
      have := run_equalIn_int w k e .u8 .u8 ((p[i].toNat : Nat) : Int) ((p[i].toNat : Nat) : Int) hi.h
      simpa using this
    simp only [Op.eqItems, Sem.run_bind, Nat.mul_one, run_part1 e1, Result.andThen_ok, e3]
    simpa using eqItems_r k w is fun j hj => h j (.tail _ hj)
theorem run_eqr {m : Nat} [hu : HU P ta (.array m e)] [hf : HT P e true] {by' : Nat} [hs : HS P e 1 by'] [hi : HU P e (.int .u8)] {p : List UInt8} (hp : p.length = m) (k : Nat) (w : World) :
    (Op.equalIn (k + 2) ta (.agg (bs p).toArray) (.agg (bs p).toArray)).run P w = .ok true w := by
  obtain ⟨inf, h1, h2, h3⟩ := hs.h
  have h4 := run_equalIn_array w (k + 1) (bs p).toArray (bs p).toArray hu.h h1
  have h5 : P.cellsOf e = 1 := by simp [Program.cellsOf, h1, h2]
  rw [h5, eqItems_r k w (List.range m) (fun i hi => by have := List.mem_range.1 hi; omega)] at h4
  exact h4
theorem run_partA {t : TypeId} [hf : HT P t false] {s by' : Nat} [hs : HS P t s by'] {cs : Array Value} {off : Nat} {ys : List Value} (h : (cs.extract off (off + s)).toList = ys) (w : World) : (part t cs off).run P w = .ok (.agg ys.toArray) w := by
  have h' : cs.extract off (off + s) = ys.toArray := by rw [← h, Array.toArray_toList]
  simp [part, run_isAgg hf, run_sizeOf' hs, h']
theorem run_eqI {t : TypeId} [hi : HU P t (.int .i64)] (k : Nat) (z : Int) (w : World) : (Op.equalIn (k + 1) t (I z) (I z)).run P w = .ok true w := by
  have := run_equalIn_int w k t .i64 .i64 z z hi.h
  simpa using this
theorem run_eqF3 {k : Nat} {X : Array Value} {f1 f2 f3 : Field} {v1 v2 v3 : Value} {w : World} (n1 : f1.name ≠ "_") (n2 : f2.name ≠ "_") (n3 : f3.name ≠ "_")
    (c1 : (part f1.type X f1.offset).run P w = .ok v1 w) (c2 : (part f2.type X f2.offset).run P w = .ok v2 w) (c3 : (part f3.type X f3.offset).run P w = .ok v3 w)
    (e1 : (Op.equalIn k f1.type v1 v1).run P w = .ok true w) (e2 : (Op.equalIn k f2.type v2 v2).run P w = .ok true w) (e3 : (Op.equalIn k f3.type v3 v3).run P w = .ok true w) :
    (Op.eqFields k X X [f1, f2, f3]).run P w = .ok true w := by
  simp only [Op.eqFields, if_pos n1, if_pos n2, if_pos n3, Sem.run_bind, c1, c2, c3, Result.andThen_ok, e1, e2, e3, Bool.not_true, Bool.false_eq_true, if_false, Sem.run_pure]
end
end Eng
end
section
namespace Go.Proofs.YtejdjnkilikehaaGreatDoor
open Go Eng Gf Sha Cod
set_option maxRecDepth 100000
theorem hgk : (Tryz.prog).eqGuardType (Tryz.prog).depth 24 = false := by kernel_rfl
theorem hgCap : (Tryz.prog).eqGuardType (Tryz.prog).depth 32 = false := by kernel_rfl
theorem hsCap : (Tryz.prog).stoodInHeld 32 = false := by kernel_rfl
theorem hfCap : (Tryz.prog).underlying 32 = some (.struct ((Tryz.prog).fieldsOf 32)) := by kernel_rfl
theorem hlCap : ∃ f1 f2 f3 : Field, ((Tryz.prog).fieldsOf 32).toList = [f1, f2, f3] ∧ f1.name = "A" ∧ f2.name = "B" ∧ f3.name = "Pad" ∧ f1.type = 3 ∧ f2.type = 3 ∧ f3.type = 24 ∧ f1.offset = 0 ∧ f2.offset = 1 ∧ f3.offset = 2 := by
  simp only [Program.fieldsOf, Tryz.underlying32]
  exact ⟨_, _, _, rfl, rfl, rfl, rfl, rfl, rfl, rfl, rfl, rfl, rfl⟩
theorem eqCapIn (k : Nat) {a b : Int} {p : List UInt8} (hp : p.length = 32) (w : World) : (Op.equalIn (k + 3) 32 (.agg (I a :: I b :: bs p).toArray) (.agg (I a :: I b :: bs p).toArray)).run Tryz.prog w = .ok true w := by
  obtain ⟨f1, f2, f3, hl, n1, n2, n3, t1, t2, t3, o1, o2, o3⟩ := hlCap
  have c1 : (part 3 (I a :: I b :: bs p).toArray 0).run Tryz.prog w = .ok (I a) w := run_part1 (by rfl) w
  have c2 : (part 3 (I a :: I b :: bs p).toArray 1).run Tryz.prog w = .ok (I b) w := run_part1 (by rfl) w
  have c3 : (part 24 (I a :: I b :: bs p).toArray 2).run Tryz.prog w = .ok (.agg (bs p).toArray) w := run_partA (s := 32) (by
    simp [List.extract, List.take_of_length_le, bs_length, hp]) w
  have e1 : (Op.equalIn (k + 2) 3 (I a) (I a)).run Tryz.prog w = .ok true w := run_eqI (k + 1) a w
  have e2 : (Op.equalIn (k + 2) 3 (I b) (I b)).run Tryz.prog w = .ok true w := run_eqI (k + 1) b w
  have e3 : (Op.equalIn (k + 2) 24 (.agg (bs p).toArray) (.agg (bs p).toArray)).run Tryz.prog w = .ok true w := run_eqr (m := 32) (e := 5) hp k w
  rw [← t1, ← o1] at c1
  rw [← t2, ← o2] at c2
  rw [← t3, ← o3] at c3
  rw [← t1] at e1
  rw [← t2] at e2
  rw [← t3] at e3
  rw [run_equalIn_struct w (k + 2) _ _ _ hfCap hsCap, hl]
  exact run_eqF3 (n1 ▸ by decide) (n2 ▸ by decide) (n3 ▸ by decide) c1 c2 c3 e1 e2 e3
theorem run_eqCap {a b : Int} {p : List UInt8} (hp : p.length = 32) (w : World) : (Op.equalIn 10000 32 (.agg (I a :: I b :: bs p).toArray) (.agg (I a :: I b :: bs p).toArray)).run Tryz.prog w = .ok true w := eqCapIn 9997 hp w
theorem y_eqlCap {n : Nat} {D : List Deferred} {W : World} {Bo : List Nat} {F : List (Nat × Value)} {l : SH} {d : Option Tmp} {ty : TypeId} {ps : String} {af : Array Edge} {g : Option (Nat × Bool)} {x y : Operand} {tb : TypeId} {a b : Int} {p : List UInt8} (hp : p.length = 32)
    (hx : evO F x = some (.agg (I a :: I b :: bs p).toArray) := by rfl) (hy : evO F y = some (.agg (I a :: I b :: bs p).toArray) := by rfl) : Y Tryz.prog n D W Bo ⟨d, .binOp .eql 32 x y tb, ty, ps, af, g⟩ F l (.bool true) :=
  .mk (by simp) fun ac w ha _ => by
    simp only [execOp, ha.eval hx, ha.eval hy, Sem.run_bind, run_eqGuard_agg w .eql 32 x y _ _ hgCap, Result.andThen_ok, run_eql_struct, run_eqCap hp, Sem.run_pure]
end Go.Proofs.YtejdjnkilikehaaGreatDoor
end
section
namespace Eng
open Go Go.RowKit
section
variable {r : Option Nat} {P : Program} {n : Nat} {D : List Deferred} {W : World} {Bo : List Nat} {F : List (Nat × Value)} {l l' : SH}
  {d : Option Tmp} {dd : Nat} {ty : TypeId} {ps : String} {af : Array Edge} {g : Option (Nat × Bool)} {x y z : Operand} {v u : Value} {ta tb t e : TypeId}
  {Q : Exit → Act → World → Prop} {ops : Array Oper} {rest : List Oper} {td : TypeDesc} {c : Code}
theorem s_stin {s by' : Nat} [hs : HS P t s by'] {b off : Nat} {cs cs' vs : List Value} {et : TypeId} (h : LP r P n D W Bo ops Q rest F l')
    (hcs : cs.take off ++ vs ++ cs.drop (off + vs.length) = cs') (hl : off + vs.length ≤ cs.length) (h1 : ∀ u ∈ vs, u.oneCell' = true) (hs1 : vs.length = s)
    (hx : evO F x = some (.pointer (some ⟨b, off, none⟩)) := by rfl) (hv : evO F y = some (.agg vs.toArray) := by rfl)
    (hr : Rep (.blk b (.cells cs.toArray et (0, 0))) (.blk b (.cells cs'.toArray et (0, 0))) l l' := by repeat (first | exact .head _ | apply Rep.tail)) (hg : Wn ops F g := by first | exact .none | exact .some rfl rfl) : LP r P n D W Bo ops Q (⟨none, .store t x y, ty, ps, af, g⟩ :: rest) F l := by
  refine s_unit (by simp) (fun a w ha hw => ⟨w.setRow b cs'.toArray, ?_, hw.setRow hr⟩) (hg := hg) (h := h)
  have hg := (hw.own _ hr.mem).1
  have h2 := run_storeCells_at P b off et vs 0 cs.toArray w hg (by simp; omega) h1
  have e1 : (cs.toArray.toList.take (off + 0) ++ vs ++ cs.toArray.toList.drop (off + 0 + vs.length)).toArray = cs'.toArray := by
    show (cs.take off ++ vs ++ cs.drop (off + vs.length)).toArray = _
    rw [hcs]
  rw [e1] at h2
  simp only [execOp, ha.eval hx, ha.eval hv, Instr.storeAt, Instr.sureAddr, storeVar, Sem.run_bind, Sem.run_pure, Result.andThen_ok, run_sizeOf' hs, Value.cells]
  rw [if_neg (by simp [hs1])]
  rw [h2]
  rfl
theorem s_st1 {by' : Nat} [hs : HS P t 1 by'] {b off : Nat} {cs cs' : List Value} {et : TypeId} (h : LP r P n D W Bo ops Q rest F l')
    (hcs : cs.set off v = cs') (hl : off < cs.length) (hx : evO F x = some (.pointer (some ⟨b, off, none⟩)) := by rfl) (hv : evO F y = some v := by rfl)
    (hr : Rep (.blk b (.cells cs.toArray et (0, 0))) (.blk b (.cells cs'.toArray et (0, 0))) l l' := by repeat (first | exact .head _ | apply Rep.tail)) (h1 : v.oneCell' = true := by rfl) (hg : Wn ops F g := by first | exact .none | exact .some rfl rfl) : LP r P n D W Bo ops Q (⟨none, .store t x y, ty, ps, af, g⟩ :: rest) F l := by
  subst hcs
  exact s_st (b := b) (off := off) (v := v) (cs := cs.toArray) h hx hv (by rw [List.setIfInBounds_toArray]; exact hr) (by simpa using hl) h1 rfl hg
theorem fill_whole {place : Nat → Option (Nat × Nat)} {z cs : List Value} {m : Nat} (hp : place 0 = some (0, m)) (hz : z.length = m) (hc : cs.length = m) : fillL place z [(0, .agg cs.toArray)] = some cs := by
  unfold fillL
  simp only [hp]
  have e1 : Nat.beq (Value.agg cs.toArray).cells.toList.length m = true := by
    show Nat.beq cs.toArray.toList.length m = true
    rw [List.toList_toArray, hc]; exact Nat.beq_refl m
  have e2 : Nat.ble (0 + m) z.length = true := by rw [hz, Nat.zero_add]; exact Nat.ble_eq_true_of_le (Nat.le_refl m)
  rw [e1, e2]
  show fillL place (z.take 0 ++ cs ++ z.drop (0 + m)) [] = some cs
  rw [fillL, List.take_zero, List.nil_append, Nat.zero_add, List.drop_of_length_le (by omega), List.append_nil]
end
end Eng
namespace Itm
open Go Eng Cod Gf Sha Cha Sig Wr Go.Proofs.YtejdjnkilikehaaGreatDoor
def tl2 (i : It) (s : Value) : List Value := [s, I i.sR, I i.sS]
def tl1 (i : It) (s : Value) : List Value := I i.dv :: I i.ct :: I i.kd :: I i.sz :: I i.cA :: I i.cB :: (bs i.pd ++ tl2 i s)
def itC (i : It) (s : Value) : List Value := I i.fo :: (bs i.cm ++ tl1 i s)
abbrev itV (i : It) (s : Value) : Value := .agg (itC i s).toArray
abbrev It.S (i : It) (a : Option Addr) (c : Nat) : Value := .slice a i.bd.length c
variable {i : It} {s : Value}
theorem tl1_length (h : i.pd.length = 32) : (tl1 i s).length = 41 := by unfold tl1 tl2; simp [bs_length, h]
theorem it_len (hc : i.cm.length = 32) (h : i.pd.length = 32) : (itC i s).length = 74 := by unfold itC; rw [List.length_cons, List.length_append, bs_length, hc, tl1_length h]
theorem it_size (hc : i.cm.length = 32) (h : i.pd.length = 32) : (itC i s).toArray.size = 74 := it_len hc h
theorem at1 (hc : i.cm.length = 32) (j : Nat) : (itC i s)[33 + j]? = (tl1 i s)[j]? := by
  unfold itC
  rw [show 33 + j = (32 + j) + 1 by omega, List.getElem?_cons_succ, List.getElem?_append_right (by rw [bs_length]; omega), bs_length, hc, Nat.add_sub_cancel_left]
theorem at2 (hc : i.cm.length = 32) (hp : i.pd.length = 32) (j : Nat) : (itC i s)[71 + j]? = (tl2 i s)[j]? := by
  rw [show 71 + j = 33 + (38 + j) by omega, at1 hc]
  unfold tl1
  rw [show 38 + j = (32 + j) + 1 + 1 + 1 + 1 + 1 + 1 by omega]
  simp only [List.getElem?_cons_succ]
  rw [List.getElem?_append_right (by rw [bs_length]; omega), bs_length, hp, Nat.add_sub_cancel_left]
theorem ar {l : List Value} {k : Nat} {v : Option Value} (h : l[k]? = v) : l.toArray[k]? = v := by rw [List.getElem?_toArray]; exact h
theorem it_fo : (itC i s).toArray[0]? = some (I i.fo) := rfl
theorem it_dv (hc : i.cm.length = 32) : (itC i s).toArray[33]? = some (I i.dv) := ar (at1 hc 0)
theorem it_ct (hc : i.cm.length = 32) : (itC i s).toArray[34]? = some (I i.ct) := ar (at1 hc 1)
theorem it_kd (hc : i.cm.length = 32) : (itC i s).toArray[35]? = some (I i.kd) := ar (at1 hc 2)
theorem it_sz (hc : i.cm.length = 32) : (itC i s).toArray[36]? = some (I i.sz) := ar (at1 hc 3)
theorem it_cA (hc : i.cm.length = 32) : (itC i s).toArray[37]? = some (I i.cA) := ar (at1 hc 4)
theorem it_cB (hc : i.cm.length = 32) : (itC i s).toArray[38]? = some (I i.cB) := ar (at1 hc 5)
theorem it_bd (hc : i.cm.length = 32) (hp : i.pd.length = 32) : (itC i s).toArray[71]? = some s := ar (at2 hc hp 0)
theorem it_sR (hc : i.cm.length = 32) (hp : i.pd.length = 32) : (itC i s).toArray[72]? = some (I i.sR) := ar (at2 hc hp 1)
theorem it_sS (hc : i.cm.length = 32) (hp : i.pd.length = 32) : (itC i s).toArray[73]? = some (I i.sS) := ar (at2 hc hp 2)
theorem pre_at {xs ys : List Value} {j : Nat} {v : Value} (h : xs[j]? = some v) : (xs ++ ys)[j]? = some v := by
  rw [List.getElem?_append_left (List.getElem?_eq_some_iff.1 h).1]; exact h
theorem it_cm (j : Nat) (v : Value) (h : (bs i.cm)[j]? = some v) : (itC i s).toArray[1 + j]? = some v := by
  refine ar ?_
  unfold itC
  rw [Nat.add_comm, List.getElem?_cons_succ]
  exact pre_at h
theorem it_pd (hc : i.cm.length = 32) (j : Nat) (v : Value) (h : (bs i.pd)[j]? = some v) : (itC i s).toArray[39 + j]? = some v := by
  refine ar ?_
  rw [show 39 + j = 33 + (6 + j) by omega, at1 hc]
  unfold tl1
  rw [show 6 + j = j + 1 + 1 + 1 + 1 + 1 + 1 by omega]
  simp only [List.getElem?_cons_succ]
  exact pre_at h
theorem it_cap (hc : i.cm.length = 32) (j : Nat) (v : Value) (h : (I i.cA :: I i.cB :: bs i.pd)[j]? = some v) : (itC i s).toArray[37 + j]? = some v := by
  refine ar ?_
  rw [show 37 + j = 33 + (4 + j) by omega, at1 hc]
  unfold tl1
  rw [show 4 + j = j + 1 + 1 + 1 + 1 by omega]
  simp only [List.getElem?_cons_succ]
  exact pre_at (xs := I i.cA :: I i.cB :: bs i.pd) h
theorem it_sig (hc : i.cm.length = 32) (hp : i.pd.length = 32) (j : Nat) (v : Value) (h : [I i.sR, I i.sS][j]? = some v) : (itC i s).toArray[72 + j]? = some v := by
  refine ar ?_
  rw [show 72 + j = 71 + (j + 1) by omega, at2 hc hp]
  exact h
theorem set1 (hc : i.cm.length = 32) (j : Nat) (v : Value) : (itC i s).set (33 + j) v = I i.fo :: (bs i.cm ++ (tl1 i s).set j v) := by
  unfold itC
  rw [show 33 + j = (32 + j) + 1 by omega, List.set_cons_succ, List.set_append_right (32 + j) v (by rw [bs_length]; omega), bs_length, hc, Nat.add_sub_cancel_left]
theorem set2 (hc : i.cm.length = 32) (hp : i.pd.length = 32) (j : Nat) (v : Value) : (itC i s).set (71 + j) v = I i.fo :: (bs i.cm ++ (I i.dv :: I i.ct :: I i.kd :: I i.sz :: I i.cA :: I i.cB :: (bs i.pd ++ (tl2 i s).set j v))) := by
  rw [show 71 + j = 33 + (38 + j) by omega, set1 hc]
  unfold tl1
  rw [show 38 + j = (32 + j) + 1 + 1 + 1 + 1 + 1 + 1 by omega]
  simp only [List.set_cons_succ]
  rw [List.set_append_right (32 + j) v (by rw [bs_length]; omega), bs_length, hp, Nat.add_sub_cancel_left]
theorem set_fo (z : Int) : (itC i s).set 0 (I z) = itC { i with fo := z } s := rfl
theorem set_dv (hc : i.cm.length = 32) (z : Int) : (itC i s).set 33 (I z) = itC { i with dv := z } s := set1 hc 0 _
theorem set_ct (hc : i.cm.length = 32) (z : Int) : (itC i s).set 34 (I z) = itC { i with ct := z } s := set1 hc 1 _
theorem set_kd (hc : i.cm.length = 32) (z : Int) : (itC i s).set 35 (I z) = itC { i with kd := z } s := set1 hc 2 _
theorem set_sz (hc : i.cm.length = 32) (z : Int) : (itC i s).set 36 (I z) = itC { i with sz := z } s := set1 hc 3 _
theorem set_cA (hc : i.cm.length = 32) (z : Int) : (itC i s).set 37 (I z) = itC { i with cA := z } s := set1 hc 4 _
theorem set_cB (hc : i.cm.length = 32) (z : Int) : (itC i s).set 38 (I z) = itC { i with cB := z } s := set1 hc 5 _
theorem set_bd (hc : i.cm.length = 32) (hp : i.pd.length = 32) (s' : Value) (q : List UInt8) : (itC i s).set 71 s' = itC { i with bd := q } s' := set2 hc hp 0 _
theorem set_sR (hc : i.cm.length = 32) (hp : i.pd.length = 32) (z : Int) : (itC i s).set 72 (I z) = itC { i with sR := z } s := set2 hc hp 1 _
theorem set_sS (hc : i.cm.length = 32) (hp : i.pd.length = 32) (z : Int) : (itC i s).set 73 (I z) = itC { i with sS := z } s := set2 hc hp 2 _
theorem cons_take {a : Value} {l : List Value} {k : Nat} : (a :: l).take (k + 1) = a :: l.take k := rfl
theorem cons_drop {a : Value} {l : List Value} {k : Nat} : (a :: l).drop (k + 1) = l.drop k := rfl
theorem put_cap (hc : i.cm.length = 32) (hp : i.pd.length = 32) (a b : Int) {p : List UInt8} (hq : p.length = 32) : (itC i s).take 37 ++ (I a :: I b :: bs p) ++ (itC i s).drop (37 + (I a :: I b :: bs p).length) = itC { i with cA := a, cB := b, pd := p } s := by
  have hl : (I a :: I b :: bs p).length = 34 := by simp [bs_length, hq]
  rw [hl]
  have h1 : (itC i s).take 37 = I i.fo :: (bs i.cm ++ [I i.dv, I i.ct, I i.kd, I i.sz]) := by
    unfold itC
    rw [cons_take, List.take_append, bs_length, hc, List.take_of_length_le (by rw [bs_length]; omega)]
    rfl
  have h2 : (itC i s).drop (37 + 34) = tl2 i s := by
    unfold itC
    show (bs i.cm ++ tl1 i s).drop 70 = _
    rw [List.drop_append, bs_length, hc, List.drop_of_length_le (by rw [bs_length]; omega), List.nil_append]
    show (bs i.pd ++ tl2 i s).drop 32 = _
    exact List.drop_left' (by rw [bs_length, hp])
  rw [h1, h2]
  unfold itC tl1 tl2
  simp
theorem put_sig (hc : i.cm.length = 32) (hp : i.pd.length = 32) (a b : Int) : (itC i s).take 72 ++ [I a, I b] ++ (itC i s).drop (72 + [I a, I b].length) = itC { i with sR := a, sS := b } s := by
  have hlen := it_len (s := s) hc hp
  refine List.ext_getElem? fun k => ?_
  rcases Nat.lt_or_ge k 72 with hk | hk
  · rw [List.append_assoc, List.getElem?_append_left (by rw [List.length_take, hlen]; omega), List.getElem?_take_of_lt hk]
    rcases Nat.lt_or_ge k 33 with h3 | h3
    · unfold itC
      cases k with
      | zero => rfl
      | succ k => rw [List.getElem?_cons_succ, List.getElem?_cons_succ, List.getElem?_append_left (by rw [bs_length]; omega), List.getElem?_append_left (by rw [bs_length]; exact (by omega : k < i.cm.length))]
    · obtain ⟨j, rfl⟩ : ∃ j, k = 33 + j := ⟨k - 33, by omega⟩
      rw [at1 hc, at1 (i := { i with sR := a, sS := b }) hc]
      unfold tl1
      rcases Nat.lt_or_ge j 6 with h6 | h6
      · match j, h6 with
        | 0, _ => rfl
        | 1, _ => rfl
        | 2, _ => rfl
        | 3, _ => rfl
        | 4, _ => rfl
        | 5, _ => rfl
      · obtain ⟨m, rfl⟩ : ∃ m, j = m + 1 + 1 + 1 + 1 + 1 + 1 := ⟨j - 6, by omega⟩
        simp only [List.getElem?_cons_succ]
        rcases Nat.lt_or_ge m 32 with h7 | h7
        · rw [List.getElem?_append_left (by rw [bs_length]; omega), List.getElem?_append_left (by rw [bs_length]; exact (by omega : m < i.pd.length))]
        · obtain rfl : m = 32 := by omega
          rw [List.getElem?_append_right (by rw [bs_length]; omega), List.getElem?_append_right (by rw [bs_length]; exact (by omega : i.pd.length ≤ 32)), bs_length, hp]
          rfl
  · have hx : ((itC i s).take 72).length = 72 := by rw [List.length_take, hlen]; rfl
    rw [List.append_assoc, List.getElem?_append_right (by omega), hx]
    obtain ⟨j, rfl⟩ : ∃ j, k = 72 + j := ⟨k - 72, by omega⟩
    rw [Nat.add_sub_cancel_left, show 72 + j = 71 + (j + 1) by omega, at2 (i := { i with sR := a, sS := b }) hc hp, List.drop_of_length_le (by rw [hlen]; show 74 ≤ 72 + 2; omega), List.append_nil]
    rfl
theorem it_one {a : Option Addr} {m c : Nat} : ∀ v ∈ itC i (.slice a m c), v.oneCell' = true := by
  intro v hv
  unfold itC tl1 tl2 at hv
  simp only [List.mem_cons, List.mem_append, List.not_mem_nil, or_false] at hv
  rcases hv with rfl | h | rfl | rfl | rfl | rfl | rfl | rfl | h | rfl | rfl | rfl <;> first | rfl | exact bs_one h
end Itm
end
section
namespace Itm
open Go Eng Cod Go.Proofs.YtejdjnkilikehaaGreatDoor
abbrev LI := Int ⊕ (Option Addr × Nat × Nat × List UInt8)
def ic : LI → Value
  | .inl n => .iface 3 (I n)
  | .inr (a, m, c, _) => .iface 27 (.slice a m c)
def toV : LI → V
  | .inl n => vI n
  | .inr (_, _, _, q) => vT q
def LOk (w : World) : List LI → Prop
  | [] => True
  | .inl _ :: r => LOk w r
  | .inr (a, m, _, q) :: r => q.length = m ∧ Rd w a (bs q) ∧ LOk w r
theorem LOk.at' {w : World} : ∀ {l : List LI} {k : Nat} {a : Option Addr} {m c : Nat} {q : List UInt8}, LOk w l → l[k]? = some (.inr (a, m, c, q)) → q.length = m ∧ Rd w a (bs q)
  | .inl _ :: r, k + 1, _, _, _, _, h, hk => LOk.at' (l := r) h hk
  | .inr _ :: r, 0, _, _, _, _, h, hk => by
    simp only [List.getElem?_cons_zero, Option.some.injEq, Sum.inr.injEq] at hk
    subst hk
    exact ⟨h.1, h.2.1⟩
  | .inr _ :: r, k + 1, _, _, _, _, h, hk => LOk.at' (l := r) h.2.2 hk
  | .inl _ :: r, 0, _, _, _, _, _, hk => by simp at hk
end Itm
namespace Eng
open Go Go.RowKit
section
variable {P : Program} {n : Nat} {D : List Deferred} {W : World} {Bo : List Nat} {F : List (Nat × Value)} {l : SH}
  {d : Option Tmp} {ty : TypeId} {ps : String} {af : Array Edge} {g : Option (Nat × Bool)} {x : Operand} {v : Value} {ta t u : TypeId} {td : TypeDesc}
theorem y_taY [ht : HU P t td] (hc : ∀ ms, td ≠ .interface ms) (hx : evO F x = some (.iface t v) := by rfl) : Y P n D W Bo ⟨d, .typeAssert x ta t true, ty, ps, af, g⟩ F l (.tuple #[v, .bool true]) :=
  .mk (by simp) fun a w ha _ => by
    have h1 : (Instr.typeAssert (.iface t v) ta t true).run P w = .ok (.tuple #[v, .bool true]) w := by
      unfold Instr.typeAssert
      simp only [Sem.run_bind, run_underlying ht.h, Result.andThen_ok]
      cases td <;> first | exact absurd rfl (hc _) | simp
    simp only [execOp, ha.eval hx, Sem.run_bind, h1, Result.andThen_ok, Sem.run_pure]
theorem y_taN [ht : HU P t td] {zz : Value} [hz : HZ P t zz] (hc : ∀ ms, td ≠ .interface ms) (hne : u ≠ t) (hx : evO F x = some (.iface u v) := by rfl) : Y P n D W Bo ⟨d, .typeAssert x ta t true, ty, ps, af, g⟩ F l (.tuple #[zz, .bool false]) :=
  .mk (by simp) fun a w ha _ => by
    have h1 : (Instr.typeAssert (.iface u v) ta t true).run P w = .ok (.tuple #[zz, .bool false]) w := by
      unfold Instr.typeAssert
      simp only [Sem.run_bind, run_underlying ht.h, Result.andThen_ok]
      cases td <;> first | exact absurd rfl (hc _) | simp [hne, hz.h]
    simp only [execOp, ha.eval hx, Sem.run_bind, h1, Result.andThen_ok, Sem.run_pure]
end
end Eng
namespace Go.Proofs.YtejdjnkilikehaaGreatDoor
open Go Eng Gf Sha Sig Wr Cod Cha Itm
set_option maxRecDepth 100000
theorem list_ok (w : World) (A : Option Addr) (C : Nat) (xs : List LI) (hA : Rd w A (xs.map ic)) (hx : LOk w xs) (hn : xs.length ≤ 12) :
    Gives Tryz.prog 66 [.slice A xs.length C] w [] (fun y : Option Addr × Nat => .agg #[I 3, I 0, .string (sb []), .slice y.1 xs.length y.2]) (fun y => [.row y.1 y.2 76 4 xs.length (fcells (xs.map toV))]) (fun _ => True) := by
  have hml : xs.length ≤ (xs.map ic).length := by rw [List.length_map]; exact Nat.le_refl _
  refine enter Tryz.func66 Tryz.ntmps66 ?_
  refine c_seq <| c_reg <| s_alloc fun b2 => s_nil <| q_then <| c_seq <| c_reg <| s_y y_fa <| s_st (b := b2) (off := 0) (v := I 3) (cs := #[I 0, I 0, .string (sb []), .slice none 0 0]) (hl := by decide) ?_
  refine s_nil <| q_then <| c_seq <| c_seq <| c_reg <| s_y y_mv <| s_y y_len <| s_y y_mv <| s_nil <| q_then <| c_nilrow 76 4 <| c_perm (.swap _ _ _) <| c_block <| ?_
  refine c_loop3 (fun (k : Nat) (a' : Option Addr) (c' : Nat) => [(2, .pointer (some ⟨b2, 0, none⟩)), (8, .slice A xs.length C), (9, I xs.length), (10, I k)]) (fun k a' c' => [.blk b2 (.cells #[I 3, I 0, .string (sb []), .slice a' k c'] 76 (0, 0)), .row a' c' 76 4 k (fcells ((xs.take k).map toV))]) (fun k _ _ => k ≤ xs.length) (fun k _ _ => xs.length - k) 0 none 0 (by omega) ⟨rfl, rfl, rfl, rfl, trivial⟩ (.refl _) ?_
  intro k a' c' hk
  by_cases hlt : k < xs.length
  · have hv : (xs.map ic)[k]? = some (ic xs[k]) := by rw [List.getElem?_map, List.getElem?_eq_getElem hlt]; rfl
    have hxk : xs[k]? = some xs[k] := List.getElem?_eq_getElem hlt
    have htk : (xs.take (k + 1)).map toV = (xs.take k).map toV ++ [toV xs[k]] := by rw [List.take_succ_eq_append_getElem hlt, List.map_append]; rfl
    have hcl : fcells ((xs.take (k + 1)).map toV) = fcells ((xs.take k).map toV) ++ fcell (toV xs[k]) := by rw [htk, fcells_append, fcells_one]
    refine c_seq <| c_reg <| s_kt (y_lss (p := ((k : Nat) : Int)) (q := ((xs.length : Nat) : Int))) (by omega) <| s_nil <| q_then <| c_seq <| c_t <| c_skip <| q_then <| c_seq <| c_block <| c_seq <| c_reg <| s_y (y_ixs1 (xs := xs.map ic) (hl := hml)) <| s_y (y_ldr (v := ic xs[k]) (xs := xs.map ic) (i := (k : Int).toNat) hv) <| s_y y_as <| s_nil <| q_then <| c_seq <| c_reg <| s_y y_mv <| s_nil <| q_then <| c_block <| ?_
    generalize xs[k] = z at hv hxk htk hcl ⊢
    rcases z with m | ⟨a, m, c, q⟩
    · refine c_seq <| c_reg <| s_y (y_taY (t := 3) (v := I m) (by simp)) <| s_y y_ext <| s_y y_ext <| s_nil <| q_then <| c_t <| c_seq <| c_reg <| s_y y_as <| s_nil <| q_then <| c_reg <| s_y y_fa <| s_y (y_ld (b := b2) (v := .slice a' k c')) <| s_y y_mv <| s_y (y_bval (cs := [I 1, I m, .string (sb []), .slice none 0 0])) <| s_bslr (cs := [I 1, I m, .string (sb []), .slice none 0 0]) fun b22 => s_app (m := 1) (fun w' hw => Src.slice (rdR (.head _) w' hw) rfl) (h1 := fun v hv => by simp at hv; rcases hv with rfl | rfl | rfl | rfl <;> rfl) (hm := .tail _ (.tail _ (.head _))) (hrep := fun _ _ => .tail _ (.tail _ (.head _))) fun a23 c23 h23 => s_y y_fa <| s_st (b := b2) (off := 3) (v := .slice a23 (k + 1) c23) (cs := #[I 3, I 0, .string (sb []), .slice a' k c']) (hl := show 3 < 4 by decide) ?_
      refine s_nil <| q_nb <| q_nb <| q_then <| c_reg <| s_y (y_add (p := ((k : Nat) : Int)) (q := 1)) <| s_y y_mv <| s_nil <| ?_
      rw [show ((k : Nat) : Int) + 1 = ((k + 1 : Nat) : Int) by omega]
      exact q_round3 (x := k) (y := a') (z := c') (k + 1) a23 c23 (by omega) (by omega) ⟨rfl, rfl, rfl, rfl, trivial⟩ (by rw [hcl]; exact .cons _ (.refl _))
    · obtain ⟨hqm, hrq⟩ := hx.at' hxk
      refine c_seq <| c_reg <| s_y (y_taN (t := 3) (u := 27) (v := .slice a m c) (by simp) (by decide)) <| s_y y_ext <| s_y y_ext <| s_nil <| q_then <| c_f <| c_seq <| c_reg <| s_y (y_taY (t := 27) (v := .slice a m c) (by simp)) <| s_y y_ext <| s_y y_ext <| s_nil <| q_then <| c_t <| c_seq <| c_reg <| s_y y_as <| s_nil <| q_then <| c_reg <| s_y y_fa <| s_y (y_ld (b := b2) (v := .slice a' k c')) <| s_y y_mv <| s_y (y_b2s (q := q) (hr := rdW0 hrq) (hm := hqm)) <| s_y (y_bval (cs := [I 2, I 0, .string (sb q), .slice none 0 0])) <| s_bslr (cs := [I 2, I 0, .string (sb q), .slice none 0 0]) fun b33 => s_app (m := 1) (fun w' hw => Src.slice (rdR (.head _) w' hw) rfl) (h1 := fun v hv => by simp at hv; rcases hv with rfl | rfl | rfl | rfl <;> rfl) (hm := .tail _ (.tail _ (.head _))) (hrep := fun _ _ => .tail _ (.tail _ (.head _))) fun a34 c34 h34 => s_y y_fa <| s_st (b := b2) (off := 3) (v := .slice a34 (k + 1) c34) (cs := #[I 3, I 0, .string (sb []), .slice a' k c']) (hl := show 3 < 4 by decide) ?_
      refine s_nil <| q_nb <| q_nb <| q_then <| c_reg <| s_y (y_add (p := ((k : Nat) : Int)) (q := 1)) <| s_y y_mv <| s_nil <| ?_
      rw [show ((k : Nat) : Int) + 1 = ((k + 1 : Nat) : Int) by omega]
      exact q_round3 (x := k) (y := a') (z := c') (k + 1) a34 c34 (by omega) (by omega) ⟨rfl, rfl, rfl, rfl, trivial⟩ (by rw [hcl]; exact .cons _ (.refl _))
  · obtain rfl : k = xs.length := by omega
    rw [List.take_length]
    refine c_seq <| c_reg <| s_kf (y_lss (p := ((xs.length : Nat) : Int)) (q := ((xs.length : Nat) : Int))) (by omega) <| s_nil <| q_then <| c_seq <| c_f <| c_exit <| q_ex <| q_ex <| q_exb <| q_then <| c_seq <| c_reg <| s_y (y_lda (b := b2) (cs := #[I 3, I 0, .string (sb []), .slice a' xs.length c']) (hl := rfl)) <| s_sta (b := b2) (vs := #[I 3, I 0, .string (sb []), .slice a' xs.length c']) (cs := #[I 3, I 0, .string (sb []), .slice a' xs.length c']) (h1 := by intro u hu; simp at hu; rcases hu with rfl | rfl | rfl | rfl <;> rfl) (hl := rfl) (hs1 := rfl) ?_
    refine s_nil <| q_then <| c_ret <| ?_
    exact ret1 Tryz.results66 (rv_ca (b := b2) (cs := #[I 3, I 0, .string (sb []), .slice a' xs.length c']) (hl := rfl)) fun w' hw => ⟨(a', c'), trivial, rfl, hw.sub (.cons _ (.refl _))⟩
end Go.Proofs.YtejdjnkilikehaaGreatDoor
end
section
namespace Itm
open Go Eng Cod Gf Sha Cha Sig Wr Go.Proofs.YtejdjnkilikehaaGreatDoor
theorem lnV_bd (i : Int) : 0 ≤ lnV i ∧ lnV i ≤ 65536 := by
  unfold lnV
  split
  · omega
  · have := plen_le i; omega
theorem hl_flat {i : It} (h : i.Wf) : ∀ v ∈ i.hl, Flat v := by
  have h1 := h.cm
  have h2 := h.pd
  intro v hv
  unfold It.hl at hv
  simp only [List.mem_cons, List.not_mem_nil, or_false] at hv
  rcases hv with rfl | rfl | rfl | rfl | rfl | rfl | rfl | rfl | rfl
  · exact flat_I h.fo
  · exact flat_I h.dv
  · exact flat_I h.ct
  · exact flat_I h.kd
  · exact flat_I h.sz
  · exact flat_T (by omega)
  · exact flat_I h.cA
  · exact flat_I h.cB
  · exact flat_T (by omega)
theorem al_flat {i : It} (h : i.Wf) (hb : i.bd.length ≤ 70000) : ∀ v ∈ i.al, Flat v := by
  intro v hv
  unfold It.al at hv
  rcases List.mem_append.1 hv with hv | hv
  · exact hl_flat h v hv
  · simp only [List.mem_cons, List.not_mem_nil, or_false] at hv
    rcases hv with rfl | rfl | rfl
    · exact flat_T (by omega)
    · exact flat_I h.sR
    · exact flat_I h.sS
theorem flat_dep {l : List V} (h : ∀ v ∈ l, v.k ≠ 3) : depL l = 0 := by
  induction l with
  | nil => rw [depL]
  | cons v l ih =>
    rw [depL, ih fun x hx => h x (.tail _ hx)]
    have := h v (.head _)
    obtain ⟨k, n, s, l'⟩ := v
    rw [V.dep, if_neg (show ¬ k = 3 from this)]; rfl
theorem al_k (i : It) : ∀ v ∈ i.al, v.ok = true ∧ v.k ≠ 3 := by
  intro v hv
  unfold It.al It.hl at hv
  simp only [List.mem_append, List.mem_cons, List.not_mem_nil, or_false] at hv
  rcases hv with (rfl | rfl | rfl | rfl | rfl | rfl | rfl | rfl | rfl) | rfl | rfl | rfl <;> first | exact ⟨vI_ok _, by show (1 : Int) ≠ 3; decide⟩ | exact ⟨vT_ok _, by show (2 : Int) ≠ 3; decide⟩
theorem hl_k (i : It) : ∀ v ∈ i.hl, v.ok = true ∧ v.k ≠ 3 := fun v hv => al_k i v (List.mem_append_left _ hv)
theorem vL_dep {l : List V} (h : ∀ v ∈ l, v.ok = true ∧ v.k ≠ 3) : (vL l).dep = 1 := by
  rw [V.dep, if_pos rfl, flat_dep fun v hv => (h v hv).2]
theorem vL_chk {l : List V} (h : ∀ v ∈ l, v.ok = true ∧ v.k ≠ 3) : (vL l).chk = 0 := by
  rw [V.chk, if_pos (vL_ok fun v hv => (h v hv).1), vL_dep h]; rfl
theorem vL_encd {l : List V} (h : ∀ v ∈ l, v.ok = true ∧ v.k ≠ 3) : (vL l).encd = (vL l).enc := by rw [V.encd, if_pos (vL_chk h)]
theorem uns_lt {n : Int} (h : R64 n) : uns n < 18446744073709551616 := by unfold uns; unfold R64 at h; split <;> omega
theorem vI_len {n : Int} (h : R64 n) : (vI n).enc.length ≤ 11 := by
  rw [V.enc, if_pos rfl, List.length_cons]
  have := num_le (uns_lt h); omega
theorem vT_len {s : List UInt8} (h : s.length < 18446744073709551616) : (vT s).enc.length ≤ s.length + 11 := by
  rw [V.enc, if_neg (by decide), if_pos rfl, List.length_cons, List.length_append]
  have := num_le h; omega
theorem head_len {i : It} (h : i.Wf) : i.head.length ≤ 1000 := by
  have h1 := h.cm
  have h2 := h.pd
  have e1 := vI_len h.fo
  have e2 := vI_len h.dv
  have e3 := vI_len h.ct
  have e4 := vI_len h.kd
  have e5 := vI_len h.sz
  have e6 := vT_len (s := i.cm) (by omega)
  have e7 := vI_len h.cA
  have e8 := vI_len h.cB
  have e9 := vT_len (s := i.pd) (by omega)
  have e10 := num_le (show i.hl.length < 18446744073709551616 by show 9 < _; decide)
  unfold It.head
  rw [V.enc, if_neg (by decide), if_neg (by decide), List.length_cons, List.length_append]
  unfold It.hl at e10 ⊢
  simp only [encL, List.length_append, List.length_nil]
  omega
theorem all_len {i : It} (h : i.Wf) (hb : i.bd.length ≤ 70000) : i.all.length ≤ 80000 := by
  have h1 := h.cm
  have h2 := h.pd
  have e1 := vI_len h.fo
  have e2 := vI_len h.dv
  have e3 := vI_len h.ct
  have e4 := vI_len h.kd
  have e5 := vI_len h.sz
  have e6 := vT_len (s := i.cm) (by omega)
  have e7 := vI_len h.cA
  have e8 := vI_len h.cB
  have e9 := vT_len (s := i.pd) (by omega)
  have e11 := vT_len (s := i.bd) (by omega)
  have e12 := vI_len h.sR
  have e13 := vI_len h.sS
  have e10 := num_le (show i.al.length < 18446744073709551616 by show 12 < _; decide)
  unfold It.all
  rw [V.enc, if_neg (by decide), if_neg (by decide), List.length_cons, List.length_append]
  unfold It.al It.hl at e10 ⊢
  simp only [List.cons_append, List.nil_append] at e10
  simp only [List.cons_append, List.nil_append, encL, List.length_append, List.length_nil]
  omega
end Itm
namespace Eng
open Go Go.RowKit
section
variable {r : Option Nat} {P : Program} {n : Nat} {D : List Deferred} {W : World} {Bo : List Nat} {F : List (Nat × Value)} {l : SH}
  {dd : Nat} {ty : TypeId} {ps : String} {af : Array Edge} {g : Option (Nat × Bool)} {e : TypeId} {Q : Exit → Act → World → Prop} {ops : Array Oper} {rest : List Oper}
theorem s_allocC {z : Value} [hz : HZ P e z] {cs : Array Value} (hc : z.cells = cs)
    (h : ∀ b, LP r P n D W Bo ops Q rest ((dd, .pointer (some ⟨b, 0, none⟩)) :: F) (.blk b (.cells cs e) :: l)) (hn : Nat.blt dd n = true := by rfl) (hg : Wn ops F g := by first | exact .none | exact .some rfl rfl) : LP r P n D W Bo ops Q (⟨some dd, .alloc e, ty, ps, af, g⟩ :: rest) F l :=
  s_alloc (fun b => hc ▸ h b) hn hg
end
end Eng
namespace Go.Proofs.YtejdjnkilikehaaGreatDoor
open Go Eng Gf Sha Sig Wr Cod Cha Itm
set_option maxRecDepth 100000
section
variable {r : Option Nat} {n : Nat} {D : List Deferred} {W : World} {Bo : List Nat} {F : List (Nat × Value)} {l : SH} {d : Option Tmp}
  {dd : Nat} {ty : TypeId} {ps : String} {af : Array Edge} {g : Option (Nat × Bool)} {e : TypeId} {Q : Exit → Act → World → Prop} {ops : Array Oper} {rest : List Oper} {parts : Array (Nat × Operand)} {i : It} {s : Value}
theorem y_bsealed (hc : i.cm.length = 32) (hp : i.pd.length = 32) (hx : evP F parts.toList = some [(0, itV i s)] := by rfl) : Y Tryz.prog n D W Bo ⟨d, .build 83 parts, ty, ps, af, g⟩ F l (itV i s) :=
  y_blds (places := #[(0, 74)]) Tryz.underlying83 (fun w => by kernel_rfl) hx (fill_whole rfl rfl (it_len hc hp))
end
theorem numbers_ok (w : World) (f d c k : Int) : Pure Tryz.prog 102 [I f, I d, I c, I k] w (.bool (numB f d c k)) := by
  refine enter Tryz.func102 Tryz.ntmps102 ?_
  refine c_seq <| c_reg <| s_y y_as <| s_nil <| q_then <| c_seq <| c_reg <| s_y y_mv <| s_ifd (y_geq (p := f) (q := 0)) (fun h10 => ?_) (fun h10 => ?_)
  · refine s_y y_mv <| s_y y_mv <| s_ifd (y_lss (p := f) (q := 16)) (fun h13 => ?_) (fun h13 => ?_)
    · refine s_y y_pk <| s_y y_mv <| s_y y_mv <| s_ifd (y_geq (p := d) (q := 0)) (fun h17 => ?_) (fun h17 => ?_)
      · refine s_y y_pk <| s_y y_mv <| s_y y_mv <| s_ifd (y_lss (p := d) (q := 512)) (fun h21 => ?_) (fun h21 => ?_)
        · refine s_y y_pk <| s_y y_mv <| s_y y_mv <| s_ifd (y_geq (p := c) (q := 1)) (fun h25 => ?_) (fun h25 => ?_)
          · refine s_y y_pk <| s_y y_mv <| s_y y_mv <| s_ifd (y_leq (p := c) (q := 1048576)) (fun h29 => ?_) (fun h29 => ?_)
            · refine s_y y_pk <| s_y y_mv <| s_y y_mv <| s_ifd (y_eql (p := k) (q := 1)) (fun h33 => ?_) (fun h33 => ?_)
              · refine s_y y_mv <| s_no <| s_no <| s_y y_pk <| s_y y_pk <| s_y y_as <| s_nil <| q_then <| c_ret <| ?_
                exact ret1 Tryz.results102 rv_t fun w' hw => ⟨by rw [show numB f d c k = true by rw [Bool.eq_iff_iff]; simp [numB]; omega], hw⟩
              · refine s_y y_mv <| s_y y_mv <| s_y (y_eql (p := k) (q := 2)) <| s_y y_pk <| s_y y_pk <| s_y y_as <| s_nil <| q_then <| c_ret <| ?_
                exact ret1 Tryz.results102 rv_t fun w' hw => ⟨by rw [show numB f d c k = decide (k = 2) by rw [Bool.eq_iff_iff]; simp [numB]; omega], hw⟩
            · refine s_y y_pk <| s_y y_mv <| s_no <| s_no <| s_no <| s_nu <| s_nu <| s_no <| s_y y_pk <| s_y y_as <| s_nil <| q_then <| c_ret <| ?_
              exact ret1 Tryz.results102 rv_t fun w' hw => ⟨by rw [show numB f d c k = false by rw [Bool.eq_iff_iff]; simp [numB]; omega], hw⟩
          · refine s_y y_pk <| s_y y_mv <| s_no <| s_no <| s_y y_pk <| s_y y_mv <| s_no <| s_no <| s_no <| s_nu <| s_nu <| s_no <| s_y y_pk <| s_y y_as <| s_nil <| q_then <| c_ret <| ?_
            exact ret1 Tryz.results102 rv_t fun w' hw => ⟨by rw [show numB f d c k = false by rw [Bool.eq_iff_iff]; simp [numB]; omega], hw⟩
        · refine s_y y_pk <| s_y y_mv <| s_no <| s_no <| s_y y_pk <| s_y y_mv <| s_no <| s_no <| s_y y_pk <| s_y y_mv <| s_no <| s_no <| s_no <| s_nu <| s_nu <| s_no <| s_y y_pk <| s_y y_as <| s_nil <| q_then <| c_ret <| ?_
          exact ret1 Tryz.results102 rv_t fun w' hw => ⟨by rw [show numB f d c k = false by rw [Bool.eq_iff_iff]; simp [numB]; omega], hw⟩
      · refine s_y y_pk <| s_y y_mv <| s_no <| s_no <| s_y y_pk <| s_y y_mv <| s_no <| s_no <| s_y y_pk <| s_y y_mv <| s_no <| s_no <| s_y y_pk <| s_y y_mv <| s_no <| s_no <| s_no <| s_nu <| s_nu <| s_no <| s_y y_pk <| s_y y_as <| s_nil <| q_then <| c_ret <| ?_
        exact ret1 Tryz.results102 rv_t fun w' hw => ⟨by rw [show numB f d c k = false by rw [Bool.eq_iff_iff]; simp [numB]; omega], hw⟩
    · refine s_y y_pk <| s_y y_mv <| s_no <| s_no <| s_y y_pk <| s_y y_mv <| s_no <| s_no <| s_y y_pk <| s_y y_mv <| s_no <| s_no <| s_y y_pk <| s_y y_mv <| s_no <| s_no <| s_y y_pk <| s_y y_mv <| s_no <| s_no <| s_no <| s_nu <| s_nu <| s_no <| s_y y_pk <| s_y y_as <| s_nil <| q_then <| c_ret <| ?_
      exact ret1 Tryz.results102 rv_t fun w' hw => ⟨by rw [show numB f d c k = false by rw [Bool.eq_iff_iff]; simp [numB]; omega], hw⟩
  · refine s_y y_mv <| s_no <| s_no <| s_y y_pk <| s_y y_mv <| s_no <| s_no <| s_y y_pk <| s_y y_mv <| s_no <| s_no <| s_y y_pk <| s_y y_mv <| s_no <| s_no <| s_y y_pk <| s_y y_mv <| s_no <| s_no <| s_y y_pk <| s_y y_mv <| s_no <| s_no <| s_no <| s_nu <| s_nu <| s_no <| s_y y_pk <| s_y y_as <| s_nil <| q_then <| c_ret <| ?_
    exact ret1 Tryz.results102 rv_t fun w' hw => ⟨by rw [show numB f d c k = false by rw [Bool.eq_iff_iff]; simp [numB]; omega], hw⟩
theorem valid_A (w : World) (i : It) (a : Option Addr) (c : Nat) (hc : i.cm.length = 32) (hp : i.pd.length = 32) (hg : LD w) (hn : numB i.fo i.dv i.ct i.kd = false) : Pure Tryz.prog 55 [itV i (.slice a i.bd.length c)] w (.bool i.vld) := by
  have hbd := lnV_bd i.sz
  refine enter Tryz.func55 Tryz.ntmps55 ?_
  refine c_seq <| c_reg <| s_box rfl fun b1 => s_y y_as <| s_nil <| q_then <| c_seq <| c_reg <| s_y y_fa <| s_y y_fa <| s_y (y_ld (b := b1) (v := I i.sz) (hv := it_sz hc)) <| s_pure (fun w' hw => padding_Length_ok w' i.sz (hg.st hw)) <| s_y y_mv <| s_y y_ext <| s_y y_ext <| s_y y_as <| s_y y_as <| s_nil <| q_then <| c_seq <| c_reg <| s_y y_fa <| s_y y_fa <| s_y (y_ld (b := b1) (v := I i.fo) (hv := it_fo)) <| s_y y_fa <| s_y y_fa <| s_y (y_ld (b := b1) (v := I i.dv) (hv := it_dv hc)) <| s_y y_fa <| s_y y_fa <| s_y (y_ld (b := b1) (v := I i.ct) (hv := it_ct hc)) <| s_y y_fa <| s_y y_fa <| s_y (y_ld (b := b1) (v := I i.kd) (hv := it_kd hc)) <| s_pure (fun w' hw => (by have h9 := numbers_ok w' i.fo i.dv i.ct i.kd; rw [hn] at h9; exact h9)) <| s_y y_mv <| s_no <| s_no <| s_y y_pk <| s_y y_mv <| s_no <| s_no <| s_no <| s_no <| s_no <| s_y y_pk <| s_y y_mv <| s_no <| s_no <| s_no <| s_no <| s_no <| s_no <| s_no <| s_y y_pk <| s_y y_as <| s_nil <| q_then <| c_ret <| ?_
  exact ret1 Tryz.results55 rv_t fun w' hw => ⟨by rw [It.vld, hn, Bool.false_and], hw.sub (List.nil_sublist _)⟩
theorem valid_B (w : World) (i : It) (a : Option Addr) (c : Nat) (hc : i.cm.length = 32) (hp : i.pd.length = 32) (hg : LD w) (hn : numB i.fo i.dv i.ct i.kd = true) (hl : ¬ lnE i.sz = 0) : Pure Tryz.prog 55 [itV i (.slice a i.bd.length c)] w (.bool i.vld) := by
  have hbd := lnV_bd i.sz
  refine enter Tryz.func55 Tryz.ntmps55 ?_
  refine c_seq <| c_reg <| s_box rfl fun b1 => s_y y_as <| s_nil <| q_then <| c_seq <| c_reg <| s_y y_fa <| s_y y_fa <| s_y (y_ld (b := b1) (v := I i.sz) (hv := it_sz hc)) <| s_pure (fun w' hw => padding_Length_ok w' i.sz (hg.st hw)) <| s_y y_mv <| s_y y_ext <| s_y y_ext <| s_y y_as <| s_y y_as <| s_nil <| q_then <| c_seq <| c_reg <| s_y y_fa <| s_y y_fa <| s_y (y_ld (b := b1) (v := I i.fo) (hv := it_fo)) <| s_y y_fa <| s_y y_fa <| s_y (y_ld (b := b1) (v := I i.dv) (hv := it_dv hc)) <| s_y y_fa <| s_y y_fa <| s_y (y_ld (b := b1) (v := I i.ct) (hv := it_ct hc)) <| s_y y_fa <| s_y y_fa <| s_y (y_ld (b := b1) (v := I i.kd) (hv := it_kd hc)) <| s_pure (fun w' hw => (by have h9 := numbers_ok w' i.fo i.dv i.ct i.kd; rw [hn] at h9; exact h9)) <| s_y y_mv <| s_y y_mv <| s_kf (y_eql (p := lnE i.sz) (q := 0)) hl <| s_y y_pk <| s_y y_mv <| s_no <| s_no <| s_no <| s_no <| s_no <| s_y y_pk <| s_y y_mv <| s_no <| s_no <| s_no <| s_no <| s_no <| s_no <| s_no <| s_y y_pk <| s_y y_as <| s_nil <| q_then <| c_ret <| ?_
  exact ret1 Tryz.results55 rv_t fun w' hw => ⟨by rw [It.vld, hn, decide_eq_false hl, Bool.false_and]; rfl, hw.sub (List.nil_sublist _)⟩
theorem valid_C (w : World) (i : It) (a : Option Addr) (c : Nat) (hc : i.cm.length = 32) (hp : i.pd.length = 32) (hg : LD w) (hn : numB i.fo i.dv i.ct i.kd = true) (hl : lnE i.sz = 0) (hk : ¬ ckE i.cA i.cB = 0) : Pure Tryz.prog 55 [itV i (.slice a i.bd.length c)] w (.bool i.vld) := by
  have hbd := lnV_bd i.sz
  refine enter Tryz.func55 Tryz.ntmps55 ?_
  refine c_seq <| c_reg <| s_box rfl fun b1 => s_y y_as <| s_nil <| q_then <| c_seq <| c_reg <| s_y y_fa <| s_y y_fa <| s_y (y_ld (b := b1) (v := I i.sz) (hv := it_sz hc)) <| s_pure (fun w' hw => padding_Length_ok w' i.sz (hg.st hw)) <| s_y y_mv <| s_y y_ext <| s_y y_ext <| s_y y_as <| s_y y_as <| s_nil <| q_then <| c_seq <| c_reg <| s_y y_fa <| s_y y_fa <| s_y (y_ld (b := b1) (v := I i.fo) (hv := it_fo)) <| s_y y_fa <| s_y y_fa <| s_y (y_ld (b := b1) (v := I i.dv) (hv := it_dv hc)) <| s_y y_fa <| s_y y_fa <| s_y (y_ld (b := b1) (v := I i.ct) (hv := it_ct hc)) <| s_y y_fa <| s_y y_fa <| s_y (y_ld (b := b1) (v := I i.kd) (hv := it_kd hc)) <| s_pure (fun w' hw => (by have h9 := numbers_ok w' i.fo i.dv i.ct i.kd; rw [hn] at h9; exact h9)) <| s_y y_mv <| s_y y_mv <| s_kt (y_eql (p := lnE i.sz) (q := 0)) hl <| s_y y_pk <| s_y y_mv <| s_y y_fa <| s_y y_fa <| s_y (y_ldin (b := b1) (off := 37) (cs := (itC i (.slice a i.bd.length c)).toArray) (ys := (I i.cA :: I i.cB :: bs i.pd)) (hl := (by simp [bs_length, hp])) (hv := it_cap hc)) <| s_pure (fun w' hw => capCheck_ok w' i.cA i.cB i.pd hp) <| s_kf (y_eql (p := ckE i.cA i.cB) (q := 0)) hk <| s_y y_pk <| s_y y_mv <| s_no <| s_no <| s_no <| s_no <| s_no <| s_no <| s_no <| s_y y_pk <| s_y y_as <| s_nil <| q_then <| c_ret <| ?_
  exact ret1 Tryz.results55 rv_t fun w' hw => ⟨by rw [It.vld, hn, decide_eq_true hl, decide_eq_false hk, Bool.false_and]; rfl, hw.sub (List.nil_sublist _)⟩
theorem valid_D (w : World) (i : It) (a : Option Addr) (c : Nat) (hc : i.cm.length = 32) (hp : i.pd.length = 32) (hg : LD w) (hn : numB i.fo i.dv i.ct i.kd = true) (hl : lnE i.sz = 0) (hk : ckE i.cA i.cB = 0) (hb : i.bd.length ≤ 70000) : Pure Tryz.prog 55 [itV i (.slice a i.bd.length c)] w (.bool i.vld) := by
  have hbd := lnV_bd i.sz
  refine enter Tryz.func55 Tryz.ntmps55 ?_
  refine c_seq <| c_reg <| s_box rfl fun b1 => s_y y_as <| s_nil <| q_then <| c_seq <| c_reg <| s_y y_fa <| s_y y_fa <| s_y (y_ld (b := b1) (v := I i.sz) (hv := it_sz hc)) <| s_pure (fun w' hw => padding_Length_ok w' i.sz (hg.st hw)) <| s_y y_mv <| s_y y_ext <| s_y y_ext <| s_y y_as <| s_y y_as <| s_nil <| q_then <| c_seq <| c_reg <| s_y y_fa <| s_y y_fa <| s_y (y_ld (b := b1) (v := I i.fo) (hv := it_fo)) <| s_y y_fa <| s_y y_fa <| s_y (y_ld (b := b1) (v := I i.dv) (hv := it_dv hc)) <| s_y y_fa <| s_y y_fa <| s_y (y_ld (b := b1) (v := I i.ct) (hv := it_ct hc)) <| s_y y_fa <| s_y y_fa <| s_y (y_ld (b := b1) (v := I i.kd) (hv := it_kd hc)) <| s_pure (fun w' hw => (by have h9 := numbers_ok w' i.fo i.dv i.ct i.kd; rw [hn] at h9; exact h9)) <| s_y y_mv <| s_y y_mv <| s_kt (y_eql (p := lnE i.sz) (q := 0)) hl <| s_y y_pk <| s_y y_mv <| s_y y_fa <| s_y y_fa <| s_y (y_ldin (b := b1) (off := 37) (cs := (itC i (.slice a i.bd.length c)).toArray) (ys := (I i.cA :: I i.cB :: bs i.pd)) (hl := (by simp [bs_length, hp])) (hv := it_cap hc)) <| s_pure (fun w' hw => capCheck_ok w' i.cA i.cB i.pd hp) <| s_kt (y_eql (p := ckE i.cA i.cB) (q := 0)) hk <| s_y y_pk <| s_y y_mv <| s_y y_fa <| s_y y_fa <| s_y (y_ld (b := b1) (v := .slice a i.bd.length c) (hv := it_bd hc hp)) <| s_y y_len <| s_y y_mv <| s_y (y_add (p := lnV i.sz) (q := 16)) <| s_y (y_eql (p := i.bd.length) (q := (lnV i.sz) + 16)) <| s_y y_pk <| s_y y_as <| s_nil <| q_then <| c_ret <| ?_
  exact ret1 Tryz.results55 rv_t fun w' hw => ⟨by rw [It.vld, hn, decide_eq_true hl, decide_eq_true hk]; rfl, hw.sub (List.nil_sublist _)⟩
theorem valid_ok (w : World) (i : It) (a : Option Addr) (c : Nat) (hc : i.cm.length = 32) (hp : i.pd.length = 32) (hg : LD w) (hb : i.bd.length ≤ 70000) : Pure Tryz.prog 55 [itV i (.slice a i.bd.length c)] w (.bool i.vld) := by
  cases hn : numB i.fo i.dv i.ct i.kd with
  | false => exact valid_A w i a c hc hp hg hn
  | true =>
    by_cases hl : lnE i.sz = 0
    · by_cases hk : ckE i.cA i.cB = 0
      · exact valid_D w i a c hc hp hg hn hl hk hb
      · exact valid_C w i a c hc hp hg hn hl hk
    · exact valid_B w i a c hc hp hg hn hl
theorem fields_ok (w : World) (i : It) (a : Option Addr) (c : Nat) (hc : i.cm.length = 32) (hp : i.pd.length = 32) : Gives Tryz.prog 65 [itV i (.slice a i.bd.length c)] w [] (fun y : Option Addr × Nat => .agg #[I 3, I 0, .string (sb []), .slice y.1 9 y.2]) (fun y => [.row y.1 y.2 76 4 9 (fcells i.hl)]) (fun _ => True) := by
  refine enter Tryz.func65 Tryz.ntmps65 ?_
  refine c_seq <| c_reg <| s_box rfl fun b1 => s_alloc fun b2 => s_nil <| q_then <| c_seq <| c_regL [.blk b1 (.cells (itC i (.slice a i.bd.length c)).toArray 83 (0, 0))] <| r_y 0 rfl y_fa <| r_y 1 rfl y_fa <| r_y 2 rfl (y_ld (b := b1) (v := I i.fo) (hv := it_fo)) <| r_y 3 rfl y_mki <| r_y 4 rfl y_fa <| r_y 5 rfl y_fa <| r_y 6 rfl (y_ld (b := b1) (v := I i.dv) (hv := it_dv hc)) <| r_y 7 rfl y_mki <| r_y 8 rfl y_fa <| r_y 9 rfl y_fa <| r_y 10 rfl (y_ld (b := b1) (v := I i.ct) (hv := it_ct hc)) <| r_y 11 rfl y_mki <| r_y 12 rfl y_fa <| r_y 13 rfl y_fa <| r_y 14 rfl (y_ld (b := b1) (v := I i.kd) (hv := it_kd hc)) <| r_y 15 rfl y_mki <| r_y 16 rfl y_fa <| r_y 17 rfl y_fa <| r_y 18 rfl (y_ld (b := b1) (v := I i.sz) (hv := it_sz hc)) <| r_y 19 rfl y_mki <| r_y 20 rfl y_fa <| r_y 21 rfl y_fa <| r_y 22 rfl y_sla <| r_y 23 rfl y_mki <| r_y 24 rfl y_fa <| r_y 25 rfl y_fa <| r_y 26 rfl y_fa <| r_y 27 rfl (y_ld (b := b1) (v := I i.cA) (hv := it_cA hc)) <| r_y 28 rfl y_mki <| r_y 29 rfl y_fa <| r_y 30 rfl y_fa <| r_y 31 rfl y_fa <| r_y 32 rfl (y_ld (b := b1) (v := I i.cB) (hv := it_cB hc)) <| r_y 33 rfl y_mki <| r_y 34 rfl y_fa <| r_y 35 rfl y_fa <| r_y 36 rfl y_fa <| r_y 37 rfl y_sla <| r_y 38 rfl y_mki <| r_W 39 rfl <| s_bslr (cs := [.iface 3 (I i.fo), .iface 3 (I i.dv), .iface 3 (I i.ct), .iface 3 (I i.kd), .iface 3 (I i.sz), .iface 27 (.slice (some ⟨b1, 1, none⟩) 32 32), .iface 3 (I i.cA), .iface 3 (I i.cB), .iface 27 (.slice (some ⟨b1, 39, none⟩) 32 32)]) (hf := by kernel_rfl) fun b42 => r_K <| r_W 40 rfl <| s_gives (fun w' hw => list_ok w' (some ⟨b42, 0, none⟩) 9 [.inl i.fo, .inl i.dv, .inl i.ct, .inl i.kd, .inl i.sz, .inr (some ⟨b1, 0 + 1, none⟩, 32, 32, i.cm), .inl i.cA, .inl i.cB, .inr (some ⟨b1, 0 + 37 + 2, none⟩, 32, 32, i.pd)] (rdR (.head _) w' hw) ⟨hc, rdB (.tail _ (.tail _ (.head _))) it_cm w' hw, hp, rdB (.tail _ (.tail _ (.head _))) (it_pd hc) w' hw, trivial⟩ (by simp)) fun x43 _ => r_K <| r_W 41 rfl <| s_sta (b := b2) (vs := #[I 3, I 0, .string (sb []), .slice x43.1 9 x43.2]) (cs := #[I 0, I 0, .string .empty, .slice none 0 0]) (h1 := by intro u hu; simp at hu; rcases hu with rfl | rfl | rfl | rfl <;> rfl) (hl := rfl) (hs1 := rfl) ?_
  refine r_K <| r_E <| q_then <| c_ret <| ?_
  exact ret1 Tryz.results65 (rv_ca (b := b2) (cs := #[I 3, I 0, .string (sb []), .slice x43.1 9 x43.2]) (hl := rfl)) fun w' hw => ⟨x43, trivial, rfl, hw.sub (.cons_cons _ (List.nil_sublist _))⟩
theorem head_ok (w : World) (i : It) (a : Option Addr) (c : Nat) (h : i.Wf) : GivesB Tryz.prog 106 [itV i (.slice a i.bd.length c)] w i.head := by
  obtain ⟨hc, hp⟩ : i.cm.length = 32 ∧ i.pd.length = 32 := ⟨h.cm, h.pd⟩
  refine enter Tryz.func106 Tryz.ntmps106 ?_
  refine c_seq <| c_reg <| s_box rfl fun b1 => s_y y_as <| s_nil <| q_then <| c_seq <| c_reg <| s_y (y_lda (b := b1) (cs := (itC i (.slice a i.bd.length c)).toArray) (hl := it_size hc hp)) <| s_gives (fun w' hw => fields_ok w' i a c hc hp) fun x7 _ => s_gives (fun w' hw => codec_Encode_ok w' (vL i.hl) (.agg #[I 3, I 0, .string (sb []), .slice x7.1 9 x7.2]) (vL_vv (rdR (.head _) w' hw) (hl_flat h) (show (9 : Nat) < 1152921504606846976 by decide)) (by rw [vL_dep (hl_k i)]; decide) (Nat.le_trans (head_len h) (by decide))) fun x8 _ => ?_
  rw [vL_encd (hl_k i), vL_chk (hl_k i), show (vL i.hl).enc = i.head from rfl]
  refine s_y y_mv <| s_y y_ext <| s_y y_ext <| s_y y_as <| s_y y_as <| s_nil <| q_then <| c_seq <| c_reg <| s_y y_mv <| s_y y_as <| s_nil <| q_then <| c_ret <| ?_
  exact ret1 Tryz.results106 rv_t fun w' hw => ⟨x8, trivial, rfl, hw.sub (.cons_cons _ (List.nil_sublist _))⟩
theorem isgd_ok (w : World) (i : It) (a : Option Addr) (c : Nat) (h : i.Wf) (hr : Rd w a (bs i.bd)) (hb : i.bd.length ≤ 70000) : GivesB Tryz.prog 63 [itV i (.slice a i.bd.length c)] w i.sg := by
  obtain ⟨hc, hp⟩ : i.cm.length = 32 ∧ i.pd.length = 32 := ⟨h.cm, h.pd⟩
  have hhl := head_len h
  refine enter Tryz.func63 Tryz.ntmps63 ?_
  refine c_seq <| c_reg <| s_box rfl fun b1 => s_y y_as <| s_nil <| q_then <| c_seq <| c_regL [.blk b1 (.cells (itC i (.slice a i.bd.length c)).toArray 83 (0, 0))] <| r_y 0 rfl (y_lda (b := b1) (cs := (itC i (.slice a i.bd.length c)).toArray) (hl := it_size hc hp)) <| r_y 2 rfl y_fa <| r_y 3 rfl y_fa <| r_y 4 rfl (y_ld (b := b1) (v := .slice a i.bd.length c) (hv := it_bd hc hp)) <| r_W 1 rfl <| s_gives (fun w' hw => head_ok w' i a c h) fun x4 _ => r_K <| r_W 5 rfl <| s_app (m := i.bd.length) (srcB (q := i.bd) (rdW0 hr) rfl) (h1 := fun v hv => bs_one hv) (hm := .head _) (hrep := fun _ _ => .head _) fun a8 c8 h8 => ?_
  rw [← bs_append]
  rw [show i.head.length + i.bd.length = (i.head ++ i.bd).length by first | omega | (simp only [List.length_append]; done) | (simp only [List.length_append]; omega)]
  refine r_K <| r_y 6 rfl y_as <| r_E <| q_then <| c_ret <| ?_
  exact ret1 Tryz.results63 rv_t fun w' hw => ⟨(a8, c8), trivial, rfl, hw.sub (.cons_cons _ (List.nil_sublist _))⟩
end Go.Proofs.YtejdjnkilikehaaGreatDoor
end
section
namespace Cod
open Go Eng
def rdNum : Nat → Nat → List UInt8 → Option (Nat × List UInt8)
  | _, _, [] => none
  | i, u, c :: q => if (i = 0 ∨ c.toNat ≠ 0) ∧ (i < 9 ∨ c.toNat ≤ 1) then (if c.toNat < 128 then some (u + c.toNat * 2 ^ (7 * i), q) else rdNum (i + 1) (u + (c.toNat - 128) * 2 ^ (7 * i)) q) else none
def rdLen (q : List UInt8) : Option (Nat × List UInt8) :=
  match rdNum 0 0 q with
  | some (n, q') => if n ≤ q'.length then some (n, q') else none
  | none => none
def sgn (u : Nat) : Int := if u % 2 = 0 then ((u / 2 : Nat) : Int) else -((u / 2 : Nat) : Int) - 1
def rdL (g : List UInt8 → Option (V × List UInt8)) : Nat → List UInt8 → Option (List V × List UInt8)
  | 0, q => some ([], q)
  | n + 1, q => match g q with
    | none => none
    | some (v, q') => match rdL g n q' with
      | none => none
      | some (l, q'') => some (v :: l, q'')
def rdVal : Nat → List UInt8 → Option (V × List UInt8)
  | _, [] => none
  | 0, c :: q => if c.toNat = 1 then (match rdNum 0 0 q with | some (u, q') => some (V.mk 1 (sgn u) [] [], q') | none => none)
      else if c.toNat = 2 then (match rdLen q with | some (n, q') => some (V.mk 2 0 (q'.take n) [], q'.drop n) | none => none)
      else none
  | f + 1, c :: q => if c.toNat = 1 then (match rdNum 0 0 q with | some (u, q') => some (V.mk 1 (sgn u) [] [], q') | none => none)
      else if c.toNat = 2 then (match rdLen q with | some (n, q') => some (V.mk 2 0 (q'.take n) [], q'.drop n) | none => none)
      else if c.toNat = 3 then (match rdLen q with | some (n, q') => (match rdL (rdVal f) n q' with | some (l, q'') => some (V.mk 3 0 [] l, q'') | none => none) | none => none)
      else none
theorem sgn_uns (n : Int) : sgn (uns n) = n := by
  unfold sgn uns
  split <;> split <;> omega
theorem pw7 (i : Nat) : 2 ^ (7 * (i + 1)) = 128 * 2 ^ (7 * i) := by rw [Nat.mul_add, Nat.pow_add, Nat.mul_comm]
theorem rdNum_num (q : List UInt8) : ∀ (x i u : Nat), x < 2 ^ (64 - 7 * i) → i ≤ 9 → (i = 0 ∨ 0 < x) → rdNum i u (num x ++ q) = some (u + x * 2 ^ (7 * i), q) := by
  intro x
  induction x using Nat.strongRecOn with
  | ind x ih =>
    intro i u hx hi h0
    rw [num]
    by_cases h : x < 128
    · rw [if_pos h]
      have e : (UInt8.ofNat x).toNat = x := by rw [UInt8.toNat_ofNat']; omega
      show rdNum i u (UInt8.ofNat x :: q) = _
      have h9 : i < 9 ∨ x ≤ 1 := by
        rcases Nat.lt_or_ge i 9 with h | h
        · exact .inl h
        · have : i = 9 := by omega
          subst this
          have : x < 2 := hx
          exact .inr (by omega)
      have h8 : i = 0 ∨ x ≠ 0 := by omega
      rw [rdNum, e, if_pos ⟨h8, h9⟩, if_pos h]
    · rw [if_neg h]
      have e : (UInt8.ofNat (x % 128 + 128)).toNat = x % 128 + 128 := by rw [UInt8.toNat_ofNat']; omega
      show rdNum i u (UInt8.ofNat (x % 128 + 128) :: (num (x / 128) ++ q)) = _
      have h9 : i < 9 := by
        rcases Nat.lt_or_ge i 9 with h' | h'
        · exact h'
        · have : i = 9 := by omega
          subst this
          have : x < 2 := hx
          omega
      rw [rdNum, e, if_pos ⟨by omega, .inl h9⟩, if_neg (by omega), Nat.add_sub_cancel, ih (x / 128) (by omega) (i + 1) _ ?_ (by omega) (by omega), pw7]
      · congr 2
        have : x = x % 128 + 128 * (x / 128) := (Nat.mod_add_div x 128).symm
        calc u + x % 128 * 2 ^ (7 * i) + x / 128 * (128 * 2 ^ (7 * i)) = u + (x % 128 + 128 * (x / 128)) * 2 ^ (7 * i) := by rw [Nat.add_mul, Nat.add_assoc, ← Nat.mul_assoc, Nat.mul_comm (x / 128) 128]
          _ = u + x * 2 ^ (7 * i) := by rw [← this]
      · have h5 : 2 ^ (64 - 7 * i) = 128 * 2 ^ (64 - 7 * (i + 1)) := by
          rw [show 64 - 7 * i = 7 + (64 - 7 * (i + 1)) by omega, Nat.pow_add]
        rw [h5] at hx
        exact Nat.div_lt_of_lt_mul hx
theorem rdNum_enc {x : Nat} (h : x < 18446744073709551616) (q : List UInt8) : rdNum 0 0 (num x ++ q) = some (x, q) := by
  have := rdNum_num q x 0 0 h (by decide) (.inl rfl)
  simpa using this
theorem rdLen_enc {x : Nat} (h : x < 18446744073709551616) {q : List UInt8} (hq : x ≤ q.length) : rdLen (num x ++ q) = some (x, q) := by
  rw [rdLen, rdNum_enc h]; exact if_pos hq
theorem enc_pos (v : V) : 0 < v.enc.length := by
  obtain ⟨k, n, s, l⟩ := v
  rw [V.enc]; split
  · simp
  · split <;> simp
theorem encL_long (l : List V) : l.length ≤ (encL l).length := by
  induction l with
  | nil => simp
  | cons x r ih => rw [encL, List.length_append, List.length_cons]; have := enc_pos x; omega
end Cod
end
section
namespace Eng
open Go Go.RowKit
section
variable {P : Program} {n : Nat} {D : List Deferred} {W : World} {Bo : List Nat} {F : List (Nat × Value)} {l : SH}
  {d : Option Tmp} {ty : TypeId} {ps : String} {af : Array Edge} {g : Option (Nat × Bool)} {x y z : Operand} {ta tb t e : TypeId}
theorem y_slhm [hu : HU P t (.slice e)] {s by' : Nat} [hs : HS P e s by'] {a : Option Addr} {m c : Nat} {k k' : IntKind} {j h : Int} (hx : evO F x = some (.slice a m c) := by rfl) (hy : evO F y = some (.int k j) := by rfl) (hz : evO F z = some (.int k' h) := by rfl)
    (h1 : 0 ≤ j := by omega) (h2 : j ≤ h := by omega) (h3 : h ≤ c := by omega) : Y P n D W Bo ⟨d, .slice t x none (some y) (some z), ty, ps, af, g⟩ F l (.slice a j.toNat h.toNat) :=
  .mk (by simp) fun ac w ha hw => by
    have e0 : (Instr.sliceBound (.int k' h) c .slice3Acap).run P w = .ok h.toNat w := run_sliceBound w k' h c _ (by omega) h3
    have e1 : (Instr.sliceBound (.int k j) h.toNat .slice3B).run P w = .ok j.toNat w := run_sliceBound w k j h.toNat _ (by omega) (by omega)
    have e2 := sa_zero (a := a) (c := h.toNat) (s := s)
    unfold sa at e2
    simp only [execOp, ha.eval hx, Option.map, ha.eval hy, ha.eval hz, Sem.run_bind, Instr.sliceAt, Instr.slice, run_underlying hu.h, Result.andThen_ok, Instr.sliceBounds, Sem.run_pure, if_true, e0, e1, run_sizeOf' hs]
    simp only [Option.map] at e2
    rw [e2]
    rfl
end
end Eng
namespace Cod
open Go Eng
/-- bytes that a reader has before it -/
structure RdX (w : World) (b : Nat) (a : Option Addr) (q : List UInt8) (c : Nat) : Prop where
  rd : Rd w a (bs q)
  le : q.length ≤ c
  ne : a.map (·.block) ≠ some b
theorem RdX.rds {W : World} {l : SH} {b c : Nat} {a : Option Addr} {q : List UInt8} (h : RdX W b a q c) : RdS W [b] l a (bs q) := rdW h.rd (by simpa using h.ne)
theorem RdX.drop {w : World} {b c : Nat} {a : Option Addr} {q : List UInt8} (h : RdX w b a q c) (k : Nat) (hk : k ≤ q.length) : RdX w b (sa a k c 1) (q.drop k) (c - k) where
  rd := by
    have h1 : RdS w [] [] (sa a k c 1) ((bs q).drop (k * 1)) := RdS.sa (rdW0 h.rd) (by rw [bs_length, Nat.mul_one]; exact h.le)
    rw [Nat.mul_one, ← bs_drop] at h1
    exact h1 w (St.refl w)
  le := by rw [List.length_drop]; have := h.le; omega
  ne := by rw [sa_block]; exact h.ne
theorem RdX.take {w : World} {b c : Nat} {a : Option Addr} {q : List UInt8} (h : RdX w b a q c) (k : Nat) : Rd w a (bs (q.take k)) := by rw [bs_take]; exact h.rd.take k
def Adv (b : Nat) (a : Option Addr) (q : List UInt8) (c : Nat) (a' : Option Addr) (q' : List UInt8) (c' : Nat) : Prop := ∀ w : World, RdX w b a q c → RdX w b a' q' c' ∧ c' ≤ c
theorem Adv.refl {b : Nat} {a : Option Addr} {q : List UInt8} {c : Nat} : Adv b a q c a q c := fun _ h => ⟨h, Nat.le_refl _⟩
theorem Adv.trans {b : Nat} {a a' a2 : Option Addr} {q q' q2 : List UInt8} {c c' c2 : Nat} (h : Adv b a q c a' q' c') (h' : Adv b a' q' c' a2 q2 c2) : Adv b a q c a2 q2 c2 := fun w hr =>
  ⟨(h' w (h w hr).1).1, Nat.le_trans (h' w (h w hr).1).2 (h w hr).2⟩
theorem Adv.drop {b : Nat} {a : Option Addr} {q : List UInt8} {c : Nat} (k : Nat) (hk : k ≤ q.length) : Adv b a q c (sa a k c 1) (q.drop k) (c - k) := fun _ h => ⟨h.drop k hk, Nat.sub_le _ _⟩
theorem lt64 {i p : Nat} (hi : i ≤ 9) (hp : p < 128) (h9 : i < 9 ∨ p ≤ 1) : p * 2 ^ (7 * i) < 18446744073709551616 := by
  rcases Nat.lt_or_ge i 9 with h | h
  · have h1 : 2 ^ (7 * i) ≤ 2 ^ 56 := Nat.pow_le_pow_right (by decide) (by omega)
    have h2 : p * 2 ^ (7 * i) ≤ 127 * 2 ^ 56 := Nat.mul_le_mul (by omega) h1
    omega
  · have : i = 9 := by omega
    subst this
    have h2 : p * 2 ^ (7 * 9) ≤ 1 * 2 ^ 63 := Nat.mul_le_mul (by omega) (Nat.le_refl _)
    omega
theorem sum7 {i p u : Nat} (hu : u < 2 ^ (7 * i)) (hp : p < 128) : u + p * 2 ^ (7 * i) < 2 ^ (7 * (i + 1)) := by
  rw [pw7]
  have : (p + 1) * 2 ^ (7 * i) ≤ 128 * 2 ^ (7 * i) := Nat.mul_le_mul (by omega) (Nat.le_refl _)
  rw [Nat.add_mul, Nat.one_mul] at this
  omega
theorem sum64 {i p u : Nat} (hi : i ≤ 9) (hu : u < 2 ^ (7 * i)) (hp : p < 128) (h9 : i < 9 ∨ p ≤ 1) : u + p * 2 ^ (7 * i) < 18446744073709551616 := by
  rcases Nat.lt_or_ge i 9 with h | h
  · have h1 := sum7 hu hp
    have h2 : 2 ^ (7 * (i + 1)) ≤ 2 ^ 63 := Nat.pow_le_pow_right (by decide) (by omega)
    omega
  · have : i = 9 := by omega
    subst this
    have h2 : p * 2 ^ (7 * 9) ≤ 1 * 2 ^ 63 := Nat.mul_le_mul (by omega) (Nat.le_refl _)
    have h3 : u < 2 ^ 63 := hu
    omega
theorem or_add {u p i : Nat} (h : u < 2 ^ i) : u ||| p * 2 ^ i = u + p * 2 ^ i := by
  have := Nat.shiftLeft_add_eq_or_of_lt h p
  rw [Nat.shiftLeft_eq] at this
  rw [Nat.or_comm, ← this, Nat.add_comm]
theorem and127 (x : Nat) : x &&& 127 = x % 128 := Nat.and_two_pow_sub_one_eq_mod x 7
end Cod
namespace Go.Proofs.YtejdjnkilikehaaGreatDoor
open Go Eng Cod
abbrev rblk (b : Nat) (a : Option Addr) (n c : Nat) : Res := .blk b (.cells #[.slice a n c] 140 (0, 0))
theorem want_ok (w : World) (v : Value) : Pure Tryz.prog 147 [v, .bool true] w (.tuple #[]) := by
  refine enter Tryz.func147 Tryz.ntmps147 ?_
  refine c_seq <| c_reg <| s_y y_mv <| s_y (v := .bool false) (y_not (b := true)) <| s_nil <| q_then <| c_f <| c_skip <| ?_
  exact ret0 Tryz.results147 (fun w' hw => ⟨rfl, hw⟩) _ (.inr rfl)
theorem take_ok (w : World) (b : Nat) (a : Option Addr) (n c k : Nat) (hk : k ≤ n) (hc : n ≤ c) (hm : c ≤ 9223372036854775807) (hp : (rblk b a n c).holds w) :
    Gives Tryz.prog 191 [.pointer (some ⟨b, 0, none⟩), I k] w [b] (fun _ : Unit => .slice a k k) (fun _ => [rblk b (sa a k c 1) (n - k) (c - k)]) (fun _ => True) := by
  refine enterR Tryz.func191 Tryz.ntmps191 hp ?_
  refine c_seq <| c_reg <| s_y y_as <| s_nil <| q_then <| c_seq <| c_reg <| s_y y_mv <| s_y y_mv <| s_y y_mv <| s_y y_nc <| s_y y_fa <| s_y (y_ld (v := .slice a n c)) <| s_y y_len <| s_kt (y_leq (p := (k : Int)) (q := (n : Int))) (by omega) <| s_pure (fun w' hw => want_ok w' _) <| s_nil <| q_then <| ?_
  refine c_seq <| c_reg <| s_y y_mv <| s_y y_nc <| s_y y_fa <| s_y (y_ld (v := .slice a n c)) <| s_y y_mv <| s_y y_mv <| s_y (y_slhm (j := (k : Int)) (h := (k : Int))) <| s_y y_as <| s_nil <| q_then <| ?_
  refine c_seq <| c_reg <| s_y y_mv <| s_y y_mv <| s_y y_nc <| s_y y_fa <| s_y (y_ld (v := .slice a n c)) <| s_y y_mv <| s_y (y_sll (i := (k : Int))) <| s_y y_nc <| s_y y_fa <| s_st (b := b) (v := .slice (sa a k c 1) (n - k) (c - k)) (cs := #[.slice a n c]) (hl := Nat.zero_lt_one) ?_
  refine s_nil <| q_then <| c_seq <| c_reg <| s_y y_mv <| s_y y_as <| s_nil <| q_then <| c_ret <| ?_
  exact ret1 Tryz.results191 rv_t fun w' hw => ⟨(), trivial, rfl, hw⟩
theorem number_ok (w : World) (b : Nat) (a : Option Addr) (c : Nat) (q : List UInt8) (N : Nat) (q' : List UInt8) (hr : RdX w b a q c) (hm : c ≤ 9223372036854775807) (hN : rdNum 0 0 q = some (N, q')) (hp : (rblk b a q.length c).holds w) :
    Gives Tryz.prog 193 [.pointer (some ⟨b, 0, none⟩)] w [b] (fun _ : Option Addr × Nat => U N) (fun x => [rblk b x.1 q'.length x.2]) (fun x => Adv b a q c x.1 q' x.2 ∧ N < 18446744073709551616) := by
  refine enterR Tryz.func193 Tryz.ntmps193 hp ?_
  refine c_seq <| c_reg <| s_y y_as <| s_nil <| q_then <| c_seq <| c_reg <| s_y y_as <| s_nil <| q_then <| c_block <| ?_
  refine c_loop (σ := Nat × Nat × List UInt8 × Option Addr × Nat) (fun x => [(0, .pointer (some ⟨b, 0, none⟩)), (2, U x.2.1), (3, I x.1)]) (fun x => [rblk b x.2.2.2.1 x.2.2.1.length x.2.2.2.2]) (fun x => rdNum x.1 x.2.1 x.2.2.1 = some (N, q') ∧ x.1 ≤ 9 ∧ x.2.1 < 2 ^ (7 * x.1) ∧ Adv b a q c x.2.2.2.1 x.2.2.1 x.2.2.2.2) (fun x => x.2.2.1.length) (0, 0, q, a, c) ⟨hN, Nat.zero_le _, Nat.zero_lt_one, .refl⟩ ⟨rfl, rfl, rfl, trivial⟩ (.refl _) ?_
  rintro ⟨i, u, q1, a1, c1⟩ ⟨h1, h2, h3, hA⟩
  simp only at h1 h2 h3 hA
  obtain ⟨h4, h5⟩ := hA w hr
  cases q1 with
  | nil => simp [rdNum] at h1
  | cons x q1 =>
  have hcnd : (i = 0 ∨ x.toNat ≠ 0) ∧ (i < 9 ∨ x.toNat ≤ 1) := Classical.byContradiction fun hn => by rw [rdNum, if_neg hn] at h1; cases h1
  rw [rdNum, if_pos hcnd] at h1
  obtain ⟨hg1, hg2⟩ := hcnd
  have hlt := x.toNat_lt
  have hle := h4.le
  rw [List.length_cons] at hle
  refine c_seq <| c_block <| c_seq <| c_reg <| s_y y_mv <| s_chg (b := b) (fun w' hw => take_ok w' b a1 (x :: q1).length c1 1 (by simp) h4.le (by omega) (hw.own _ (.head _)).1) (fun _ => .head _) (fun _ _ => ?_)
  have hd := hA.trans (Adv.drop 1 (by simp))
  refine s_y (y_ixs1 (xs := bs (x :: q1)) (hr := rdW h4.rd (by intro k hk; cases List.mem_singleton.1 hk; exact h4.ne)) (hl := by rw [bs_length]; simp)) <| s_y (y_ldb (q := x :: q1) (i := 0) (hr := rdW h4.rd (by intro k hk; cases List.mem_singleton.1 hk; exact h4.ne)) (hi := by simp)) <| ?_
  rw [show (x :: q1).getD 0 0 = x from rfl]
  refine s_y y_as <| s_nil <| q_then <| ?_
  refine c_join [(0, .pointer (some ⟨b, 0, none⟩)), (2, U u), (3, I i), (4, B x)] [rblk b (sa a1 1 c1 1) q1.length (c1 - 1)] ?_ ?_
  · have fin : ∀ F' : List (Nat × Value), Sub F' [(0, .pointer (some ⟨b, 0, none⟩)), (2, U u), (3, I i), (4, B x)] → True := fun _ _ => trivial
    by_cases hi0 : i = 0
    · subst hi0
      refine c_reg <| s_y y_mv <| s_y y_mv <| s_kt (y_eql (p := ((0 : Nat) : Int)) (q := 0)) (by omega) <| s_y y_mv <| s_no <| s_no <| s_y y_pk <| s_y y_mv <| s_y y_mv <| s_kt (y_lss (p := ((0 : Nat) : Int)) (q := 9)) (by omega) <| s_y y_mv <| s_no <| s_no <| s_y y_pk <| s_y y_pk <| s_pure (fun w' hw => want_ok w' _) <| s_nil <| ?_
      exact q_join ⟨rfl, rfl, rfl, rfl, trivial⟩ (.refl _)
    · have hx0 : x.toNat ≠ 0 := hg1.resolve_left hi0
      by_cases hi9 : i < 9
      · refine c_reg <| s_y y_mv <| s_y y_mv <| s_kf (y_eql (p := (i : Int)) (q := 0)) (by omega) <| s_y y_mv <| s_y y_mv <| s_nt (y_neq (p := (x.toNat : Int)) (q := 0)) (by omega) <| s_y y_pk <| s_y y_mv <| s_y y_mv <| s_kt (y_lss (p := (i : Int)) (q := 9)) (by omega) <| s_y y_mv <| s_no <| s_no <| s_y y_pk <| s_y y_pk <| s_pure (fun w' hw => want_ok w' _) <| s_nil <| ?_
        exact q_join ⟨rfl, rfl, rfl, rfl, trivial⟩ (.refl _)
      · have hx1 : x.toNat ≤ 1 := hg2.resolve_left hi9
        refine c_reg <| s_y y_mv <| s_y y_mv <| s_kf (y_eql (p := (i : Int)) (q := 0)) (by omega) <| s_y y_mv <| s_y y_mv <| s_nt (y_neq (p := (x.toNat : Int)) (q := 0)) (by omega) <| s_y y_pk <| s_y y_mv <| s_y y_mv <| s_kf (y_lss (p := (i : Int)) (q := 9)) (by omega) <| s_y y_mv <| s_y y_mv <| s_kt (y_leq (p := (x.toNat : Int)) (q := 1)) (by omega) <| s_y y_pk <| s_y y_pk <| s_pure (fun w' hw => want_ok w' _) <| s_nil <| ?_
        exact q_join ⟨rfl, rfl, rfl, rfl, trivial⟩ (.refl _)
  have h64 := lt64 (i := i) (p := x.toNat % 128) h2 (by omega) (by omega)
  have hu64 : u < 18446744073709551616 := by
    have := Nat.pow_le_pow_right (show 0 < 2 by decide) (show 7 * i ≤ 63 by omega)
    omega
  refine c_seq <| c_reg <| s_y y_mv <| s_y y_mv <| s_y (y_andn (k := .u8) (p := x.toNat) (q := 127) (hw := by rw [and127, wrap_u8]; omega)) <| ?_
  rw [and127]
  refine s_y (y_cvn (k := .u64) (p := ((x.toNat % 128 : Nat) : Int)) (hw := wrap_u64 (by omega) (by omega))) <| s_y y_mv <| s_y (y_mul (p := 7) (q := (i : Int))) <| ?_
  rw [show (7 : Int) * (i : Int) = ((7 * i : Nat) : Int) by omega]
  refine s_y (y_shlW (7 * i) (p := x.toNat % 128)) <| ?_
  rw [Nat.mod_eq_of_lt h64]
  refine s_y (y_orU (p := u) (q := x.toNat % 128 * 2 ^ (7 * i))) <| ?_
  rw [or_add h3]
  refine s_y y_as <| s_nil <| q_then <| c_seq <| c_reg <| s_y y_mv <| ?_
  by_cases h128 : x.toNat < 128
  · rw [if_pos h128] at h1
    simp only [Option.some.injEq, Prod.mk.injEq] at h1
    obtain ⟨rfl, rfl⟩ := h1
    rw [Nat.mod_eq_of_lt h128] at h64 ⊢
    refine s_kt (y_lss (p := (x.toNat : Int)) (q := 128)) (by omega) <| s_nil <| q_then <| c_t <| c_seq <| c_reg <| s_y y_mv <| s_y y_as <| s_nil <| q_then <| c_ret <| q_retb <| q_ret <| q_ret <| q_retb <| ?_
    exact ret1 Tryz.results193 rv_t fun w' hw => ⟨(sa a1 1 c1 1, c1 - 1), ⟨hd, sum64 h2 h3 h128 hg2⟩, rfl, hw⟩
  · rw [if_neg h128] at h1
    have e : x.toNat % 128 = x.toNat - 128 := by omega
    refine s_kf (y_lss (p := (x.toNat : Int)) (q := 128)) (by omega) <| s_nil <| q_then <| c_f <| c_skip <| q_nb <| q_then <| c_reg <| s_y y_mv <| s_y (y_add (p := (i : Int)) (q := 1)) <| s_y y_as <| s_nil <| ?_
    rw [show (i : Int) + 1 = ((i + 1 : Nat) : Int) by omega]
    refine q_round (i + 1, u + x.toNat % 128 * 2 ^ (7 * i), q1, sa a1 1 c1 1, c1 - 1) ⟨by rw [e]; exact h1, by show i + 1 ≤ 9; omega, sum7 h3 (by omega), hd⟩ (by simp) ⟨rfl, rfl, rfl, trivial⟩ (.refl _)
end Go.Proofs.YtejdjnkilikehaaGreatDoor
end
section
namespace Eng
open Go Go.RowKit
section
variable {r : Option Nat} {P : Program} {n : Nat} {D : List Deferred} {W : World} {Bo : List Nat} {F : List (Nat × Value)} {l l' : SH}
  {d : Option Tmp} {ty : TypeId} {ps : String} {af : Array Edge} {g : Option (Nat × Bool)} {x y z : Operand} {ta tb t e : TypeId}
  {Q : Exit → Act → World → Prop} {ops : Array Oper} {rest : List Oper} {c : Code}
theorem c_regG [hm : HM P] (lp : SH) (hlp : lp.Sublist l) (f : Nat) {id : Nat} {os : List Oper} (h : DF P n D W Bo os.toArray Q lp f os.length (Array.replicate os.length false) F l) (hs : Region.noSelect os.toArray = true := by kernel_rfl) :
    CP none P n D W Bo (.region id os.toArray true) Q F l := by
  intro a w ha hw
  have h1 := (h hs a w.drew ha hw.drew).any
  have h2 : (Code.region id os.toArray true).wpIn (Fw none) 0 P (Q0 Q) a w := wpIn_region_any hm.h (by simpa using h1)
  exact wpIn_mono h2 fun e a w hq => by obtain ⟨rfl, hq⟩ := hq; exact hq
theorem f_kk {lp : SH} {f fuel : Nat} {listed : Array Bool} (h : DF P n D W Bo ops Q lp f fuel listed F l) (hs : Region.noSelect ops = true := by kernel_rfl) : LP none P n D W Bo ops (QF P W Bo ops Q lp f fuel listed) [] F l :=
  s_nil fun a w ha hw => ⟨rfl, h hs a w ha hw⟩
theorem s_perm (hs : l'.Perm l) (h : LP r P n D W Bo ops Q rest F l') : LP r P n D W Bo ops Q rest F l := fun a w ha hw => h a w ha (hw.perm hs)
theorem y_xorm {p : Nat} {q : Int} (hx : evO F x = some (I (p : Int)) := by rfl) (hy : evO F y = some (I q) := by rfl) (hq : q = -1) (hp : p < 9223372036854775808) :
    Y P n D W Bo ⟨d, .binOp .xor ta x y tb, ty, ps, af, g⟩ F l (I (-(p : Int) - 1)) :=
  .mk (by simp) fun a w ha _ => by
    refine exec_bin P w w _ _ _ _ _ _ _ _ _ _ _ _ ⟨by simp, by simp⟩ ?_
    rw [ha.eval hx, ha.eval hy]
    subst hq
    simp only [binOp, ne_eq, not_true_eq_false, if_false, Op.intBits, Sem.run_pure]
    have e1 : (BitVec.ofInt IntKind.i64.bits (p : Int)).toNat = p := bitsn (k := .i64) (by simp only [IntKind.bits]; omega)
    have e2 : (BitVec.ofInt IntKind.i64.bits (-1)).toNat = 18446744073709551615 := by decide
    have e3 : (2 : Int) ^ IntKind.i64.bits = 18446744073709551616 := by decide
    have e4 : (2 : Int) ^ (IntKind.i64.bits - 1) = 9223372036854775808 := by decide
    have e5 : IntKind.i64.signed = true := rfl
    have e6 : IntKind.i64.wrap ((18446744073709551615 - p : Nat) : Int) = -(p : Int) - 1 := by
      simp only [IntKind.wrap, e3, e4, e5, Bool.true_and, decide_eq_true_eq]
      split <;> omega
    rw [BitVec.toNat_xor, e1, e2, xor_ones p (by omega), e6]
end
end Eng
namespace Cod
open Go Eng
theorem RdX.st {W w : World} {l : SH} {b c : Nat} {a : Option Addr} {q : List UInt8} (h : RdX W b a q c) (hs : St W [b] w l) : RdX w b a q c := ⟨h.rds w hs, h.le, h.ne⟩
def Vs (rs : SH) (v : V) (val : Value) : Prop := ∀ w : World, (∀ p ∈ rs, p.holds w) → Vv w v val
theorem Vs.mono {rs rs' : SH} {v : V} {val : Value} (h : Vs rs v val) (hs : ∀ p ∈ rs, p ∈ rs') : Vs rs' v val := fun w hw => h w fun p hp => hw p (hs p hp)
abbrev vval (v : V) (a : Option Addr) (c : Nat) : Value := .agg #[I v.k, I v.n, .string (sb v.s), .slice a v.l.length c]
theorem rdL_length {g : List UInt8 → Option (V × List UInt8)} : ∀ {n : Nat} {q q' : List UInt8} {L : List V}, rdL g n q = some (L, q') → L.length = n
  | 0, q, q', L, h => by simp only [rdL, Option.some.injEq, Prod.mk.injEq] at h; rw [← h.1]; rfl
  | n + 1, q, q', L, h => by
    rw [rdL] at h
    split at h
    · cases h
    · split at h
      · cases h
      · rename_i h2
        simp only [Option.some.injEq, Prod.mk.injEq] at h
        rw [← h.1, List.length_cons, rdL_length h2]
theorem rdL_cons {g : List UInt8 → Option (V × List UInt8)} {n : Nat} {q q' : List UInt8} {v : V} {L : List V} (h : rdL g (n + 1) q = some (v :: L, q')) : ∃ q2, g q = some (v, q2) ∧ rdL g n q2 = some (L, q') := by
  rw [rdL] at h
  split at h
  · cases h
  · rename_i v1 q2 h1
    split at h
    · cases h
    · rename_i h2
      simp only [Option.some.injEq, Prod.mk.injEq, List.cons.injEq] at h
      obtain ⟨⟨rfl, rfl⟩, rfl⟩ := h
      exact ⟨q2, h1, h2⟩
theorem rdNum_le : ∀ {q : List UInt8} {i u N : Nat} {q' : List UInt8}, rdNum i u q = some (N, q') → q'.length ≤ q.length
  | [], _, _, _, _, h => by simp [rdNum] at h
  | x :: q, i, u, N, q', h => by
    rw [rdNum] at h
    split at h
    · split at h
      · simp only [Option.some.injEq, Prod.mk.injEq] at h; rw [← h.2]; simp
      · have := rdNum_le h; rw [List.length_cons]; omega
    · cases h
theorem rdLen_inv {q q' : List UInt8} {N : Nat} (h : rdLen q = some (N, q')) : rdNum 0 0 q = some (N, q') ∧ N ≤ q'.length := by
  rw [rdLen] at h
  cases h1 : rdNum 0 0 q with
  | none => rw [h1] at h; cases h
  | some p =>
    obtain ⟨n, q1⟩ := p
    rw [h1] at h
    by_cases h2 : n ≤ q1.length
    · simp only [if_pos h2, Option.some.injEq, Prod.mk.injEq] at h
      obtain ⟨rfl, rfl⟩ := h
      exact ⟨rfl, h2⟩
    · simp only [if_neg h2] at h; cases h
structure LSt where
  j : Nat
  dn : List V
  td : List V
  q : List UInt8
  a : Option Addr
  c : Nat
  la : Option Addr
  lc : Nat
  cells : List Value
  rs : SH
theorem cells_old {cs ds : List Value} {m i : Nat} (h : cs.length = m * 4) (hi : i < m) : ((cs ++ ds).drop (i * 4)).take 4 = (cs.drop (i * 4)).take 4 := by
  rw [List.drop_append_of_le_length (by omega), List.take_append_of_le_length (by rw [List.length_drop]; omega)]
theorem cells_new {cs ds : List Value} {m : Nat} (h : cs.length = m * 4) (hd : ds.length = 4) : ((cs ++ ds).drop (m * 4)).take 4 = ds := by
  rw [← h, List.drop_left, List.take_of_length_le (by omega)]
end Cod
namespace Go.Proofs.YtejdjnkilikehaaGreatDoor
open Go Eng Cod
theorem signed_ok (w : World) (u : Nat) (hu : u < 18446744073709551616) : Pure Tryz.prog 192 [U u] w (I (sgn u)) := by
  refine enter Tryz.func192 Tryz.ntmps192 ?_
  refine c_seq <| c_reg <| s_y y_as <| s_nil <| q_then <| c_seq <| c_reg <| s_y y_mv <| s_y (y_shrW 1 (p := u)) <| s_y (y_cvn (k := .i64) (p := ((u / 2 ^ 1 : Nat) : Int)) (hw := wrap_i64 (by unfold R64; omega))) <| s_y y_mv <| s_y (y_andn (k := .u64) (p := u) (q := 1) (hw := by rw [Nat.and_one_is_mod]; exact wrap_u64 (by omega) (by omega))) <| ?_
  rw [Nat.and_one_is_mod, Nat.pow_one]
  refine s_y (y_cvn (k := .i64) (p := ((u % 2 : Nat) : Int)) (hw := wrap_i64 (by unfold R64; omega))) <| s_y (y_neg (p := ((u % 2 : Nat) : Int))) <| ?_
  by_cases h : u % 2 = 0
  · rw [sgn, if_pos h, h]
    refine s_y (y_xorn (k := .i64) (p := u / 2) (q := 0) (hw := by rw [Nat.xor_zero]; exact wrap_i64 (by unfold R64; omega))) <| ?_
    rw [Nat.xor_zero]
    refine s_y y_as <| s_nil <| q_then <| c_ret <| ?_
    exact ret1 Tryz.results192 rv_t fun w' hw => ⟨rfl, hw⟩
  · have h1 : u % 2 = 1 := by omega
    rw [sgn, if_neg h, h1]
    refine s_y (y_xorm (p := u / 2) (q := -((1 : Nat) : Int)) (hq := rfl) (hp := by omega)) <| s_y y_as <| s_nil <| q_then <| c_ret <| ?_
    exact ret1 Tryz.results192 rv_t fun w' hw => ⟨rfl, hw⟩
theorem length_ok (w : World) (b : Nat) (a : Option Addr) (c : Nat) (q : List UInt8) (N : Nat) (q' : List UInt8) (hr : RdX w b a q c) (hm : c ≤ 9223372036854775807) (hN : rdLen q = some (N, q')) (hp : (rblk b a q.length c).holds w) :
    Gives Tryz.prog 194 [.pointer (some ⟨b, 0, none⟩)] w [b] (fun _ : Option Addr × Nat => I N) (fun x => [rblk b x.1 q'.length x.2]) (fun x => Adv b a q c x.1 q' x.2 ∧ N ≤ q'.length) := by
  obtain ⟨h1, h2⟩ := rdLen_inv hN
  refine enterR Tryz.func194 Tryz.ntmps194 hp ?_
  refine c_seq <| c_reg <| s_y y_as <| s_nil <| q_then <| c_seq <| c_reg <| s_y y_mv <| s_chg (b := b) (fun w' hw => number_ok w' b a c q N q' (hr.st hw) hm h1 (hw.own _ (.head _)).1) (fun _ => .head _) (fun x hx => ?_)
  obtain ⟨hx1, hx2⟩ := hx
  have hx3 := (hx1 w hr).2
  have hx4 := (hx1 w hr).1.le
  refine s_y y_as <| s_nil <| q_then <| c_seq <| c_reg <| s_y y_mv <| s_y y_mv <| s_y y_mv <| s_y y_nc <| s_y y_fa <| s_y (y_ld (v := .slice x.1 q'.length x.2)) <| s_y y_len <| s_y (y_cvn (k := .u64) (p := ((q'.length : Nat) : Int)) (hw := wrap_u64 (by omega) (by omega))) <| s_kt (y_leq (p := ((N : Nat) : Int)) (q := ((q'.length : Nat) : Int))) (by omega) <| s_pure (fun w' hw => want_ok w' _) <| s_nil <| q_then <| ?_
  refine c_seq <| c_reg <| s_y y_mv <| s_y (y_cvn (k := .i64) (p := ((N : Nat) : Int)) (hw := wrap_i64 (by unfold R64; omega))) <| s_y y_as <| s_nil <| q_then <| c_ret <| ?_
  exact ret1 Tryz.results194 rv_t fun w' hw => ⟨x, ⟨hx1, h2⟩, rfl, hw⟩
end Go.Proofs.YtejdjnkilikehaaGreatDoor
end
section
namespace Cod
open Go Eng
theorem rdVal_inv {f : Nat} {x : UInt8} {q q' : List UInt8} {v : V} (h : rdVal f (x :: q) = some (v, q')) :
    (x.toNat = 1 ∧ ∃ u, rdNum 0 0 q = some (u, q') ∧ v = .mk 1 (sgn u) [] []) ∨ (x.toNat = 2 ∧ ∃ N q1, rdLen q = some (N, q1) ∧ v = .mk 2 0 (q1.take N) [] ∧ q' = q1.drop N) ∨
    (x.toNat = 3 ∧ ∃ f' N q1 L, f = f' + 1 ∧ rdLen q = some (N, q1) ∧ rdL (rdVal f') N q1 = some (L, q') ∧ v = .mk 3 0 [] L) := by
  by_cases h1 : x.toNat = 1
  · refine .inl ⟨h1, ?_⟩
    have h2 : (match rdNum 0 0 q with | some (u, q') => some (V.mk 1 (sgn u) [] [], q') | none => none) = some (v, q') := by
      cases f <;> (simp only [rdVal] at h; rwa [if_pos h1] at h)
    cases h3 : rdNum 0 0 q with
    | none => rw [h3] at h2; cases h2
    | some p =>
      obtain ⟨u, q1⟩ := p
      rw [h3] at h2
      simp only [Option.some.injEq, Prod.mk.injEq] at h2
      exact ⟨u, by rw [h2.2], h2.1.symm⟩
  by_cases h2 : x.toNat = 2
  · refine .inr (.inl ⟨h2, ?_⟩)
    have h4 : (match rdLen q with | some (n, q') => some (V.mk 2 0 (q'.take n) [], q'.drop n) | none => none) = some (v, q') := by
      cases f <;> (simp only [rdVal] at h; rwa [if_neg h1, if_pos h2] at h)
    cases h3 : rdLen q with
    | none => rw [h3] at h4; cases h4
    | some p =>
      obtain ⟨N, q1⟩ := p
      rw [h3] at h4
      simp only [Option.some.injEq, Prod.mk.injEq] at h4
      exact ⟨N, q1, rfl, h4.1.symm, h4.2.symm⟩
  cases f with
  | zero => simp only [rdVal] at h; rw [if_neg h1, if_neg h2] at h; cases h
  | succ f =>
    simp only [rdVal] at h
    rw [if_neg h1, if_neg h2] at h
    by_cases h3 : x.toNat = 3
    · rw [if_pos h3] at h
      refine .inr (.inr ⟨h3, f, ?_⟩)
      cases h4 : rdLen q with
      | none => rw [h4] at h; cases h
      | some p =>
        obtain ⟨N, q1⟩ := p
        rw [h4] at h
        simp only at h
        cases h5 : rdL (rdVal f) N q1 with
        | none => rw [h5] at h; cases h
        | some p =>
          obtain ⟨L, q2⟩ := p
          rw [h5] at h
          simp only [Option.some.injEq, Prod.mk.injEq] at h
          exact ⟨N, q1, L, rfl, rfl, by rw [h5, h.2], h.1.symm⟩
    · rw [if_neg h3] at h; cases h
theorem sgn_R64 {u : Nat} (h : u < 18446744073709551616) : R64 (sgn u) := by unfold sgn R64; split <;> omega
theorem rdLen_le {q q' : List UInt8} {N : Nat} (h : rdLen q = some (N, q')) : q'.length ≤ q.length := rdNum_le (rdLen_inv h).1
theorem rdL_le {g : List UInt8 → Option (V × List UInt8)} (hg : ∀ q v q', g q = some (v, q') → q'.length ≤ q.length) : ∀ (n : Nat) (q : List UInt8) (L : List V) (q' : List UInt8), rdL g n q = some (L, q') → q'.length ≤ q.length
  | 0, q, L, q', h => by simp only [rdL, Option.some.injEq, Prod.mk.injEq] at h; rw [h.2]; exact Nat.le_refl _
  | n + 1, q, L, q', h => by
    have hl := rdL_length h
    cases L with
    | nil => simp at hl
    | cons v L =>
      obtain ⟨q2, h1, h2⟩ := rdL_cons h
      exact Nat.le_trans (rdL_le hg n _ _ _ h2) (hg _ _ _ h1)
theorem rdVal_le (f : Nat) : ∀ (q : List UInt8) (v : V) (q' : List UInt8), rdVal f q = some (v, q') → q'.length ≤ q.length := by
  induction f using Nat.strongRecOn with
  | ind f ih =>
    intro q v q' h
    cases q with
    | nil => cases f <;> simp [rdVal] at h
    | cons x q =>
      rw [List.length_cons]
      rcases rdVal_inv h with ⟨_, u, h2, rfl⟩ | ⟨_, N, q1, h2, rfl, rfl⟩ | ⟨_, f', N, q1, L, rfl, h2, h3, rfl⟩
      · have := rdNum_le h2; omega
      · have := rdLen_le h2; rw [List.length_drop]; omega
      · have := rdLen_le h2; have := rdL_le (ih f' (by omega)) _ _ _ _ h3; omega
end Cod
namespace Go.Proofs.YtejdjnkilikehaaGreatDoor
open Go Eng Cod
set_option maxRecDepth 100000
theorem value_ok : ∀ (f : Nat) (w : World) (b : Nat) (a : Option Addr) (c : Nat) (q : List UInt8) (v : V) (q' : List UInt8), f ≤ 16 → RdX w b a q c → c ≤ 9223372036854775807 → q.length ≤ 2000000000000 → rdVal f q = some (v, q') → (rblk b a q.length c).holds w →
    Gives Tryz.prog 146 [.pointer (some ⟨b, 0, none⟩), I (16 - f : Nat)] w [b] (fun x : Option Addr × Nat × Option Addr × Nat × SH => vval v x.2.2.1 x.2.2.2.1) (fun x => rblk b x.1 q'.length x.2.1 :: x.2.2.2.2) (fun x => Adv b a q c x.1 q' x.2.1 ∧ Vs x.2.2.2.2 v (vval v x.2.2.1 x.2.2.2.1)) := by
  intro f
  induction f using Nat.strongRecOn with
  | ind f ih =>
  intro w b a c q v q' hf hr hm hq h hp
  cases q with
  | nil => cases f <;> simp [rdVal] at h
  | cons x q =>
  rw [List.length_cons] at hq
  refine enterR Tryz.func146 Tryz.ntmps146 hp ?_
  refine c_seq <| c_reg <| s_alloc fun b4 => s_nil <| q_then <| c_seq <| c_reg <| s_y y_mv <| s_chg (b := b) (fun w' hw => take_ok w' b a (x :: q).length c 1 (by simp) hr.le (by omega) (hw.own _ (.tail _ (.head _))).1) (fun _ => .tail _ (.head _)) (fun _ _ => ?_)
  have hA : Adv b a (x :: q) c (sa a 1 c 1) q (c - 1) := Adv.drop 1 (by simp)
  have hne : ∀ k ∈ keys [rblk b a (x :: q).length c], a.map (·.block) ≠ some k := by intro k hk; cases List.mem_singleton.1 hk; exact hr.ne
  refine s_y (y_ixs1 (xs := bs (x :: q)) (hr := rdW hr.rd hne) (hl := by rw [bs_length]; simp)) <| s_y (y_ldb (q := x :: q) (i := 0) (hr := rdW hr.rd hne) (hi := by simp)) <| ?_
  rw [show (x :: q).getD 0 0 = x from rfl]
  refine s_y (y_cvb (p := x)) <| s_y y_fa <| s_st (b := b4) (off := 0) (v := I x.toNat) (cs := #[I 0, I 0, .string (sb []), .slice none 0 0]) (hl := by decide) ?_
  refine s_nil <| q_then <| ?_
  rcases rdVal_inv h with ⟨h1, u, h2, rfl⟩ | ⟨h1, N, q1, h2, rfl, rfl⟩ | ⟨h1, f', N, q1, L, rfl, h2, h3, rfl⟩
  · rw [h1]
    refine c_seq <| c_seq <| c_reg <| s_y y_fa <| s_y (y_ld (v := I 1)) <| s_nil <| q_then <| c_block <| c_seq <| c_reg <| s_kt (y_eql (p := 1) (q := 1)) rfl <| s_y y_as <| s_nil <| q_then <| c_t <| c_reg <| s_y y_mv <| s_chg (b := b) (fun w' hw => number_ok w' b (sa a 1 c 1) (c - 1) q u q' ((hA w hr).1.st hw) (by omega) h2 (hw.own _ (.tail _ (.head _))).1) (fun _ => .tail _ (.head _)) (fun y hy => ?_)
    obtain ⟨hy1, hy2⟩ := hy
    refine s_pure (fun w' hw => signed_ok w' u hy2) <| s_y y_fa <| s_st (b := b4) (off := 1) (v := I (sgn u)) (cs := #[I 1, I 0, .string (sb []), .slice none 0 0]) (hl := by decide) ?_
    refine s_nil <| q_nb <| q_then <| c_seq <| c_reg <| s_y (y_lda (b := b4) (cs := #[I 1, I (sgn u), .string (sb []), .slice none 0 0]) (hl := rfl)) <| s_sta (b := b4) (vs := #[I 1, I (sgn u), .string (sb []), .slice none 0 0]) (cs := #[I 1, I (sgn u), .string (sb []), .slice none 0 0]) (h1 := by intro u hu; simp at hu; rcases hu with rfl | rfl | rfl | rfl <;> rfl) (hl := rfl) (hs1 := rfl) ?_
    refine s_nil <| q_then <| c_ret <| ?_
    refine ret1 Tryz.results146 (rv_ca (b := b4) (cs := #[I 1, I (sgn u), .string (sb []), .slice none 0 0]) (hl := rfl)) fun w' hw => ⟨(y.1, y.2, none, 0, []), ⟨hA.trans hy1, fun w2 _ => ?_⟩, rfl, hw.sub (.cons _ (.refl _))⟩
    rw [Vv]
    exact ⟨none, 0, [], rfl, sgn_R64 hy2, ⟨by simp, by simp⟩, Rd.nil _ _, rfl, fun i => i.elim0⟩
  · rw [h1]
    refine c_seq <| c_seq <| c_reg <| s_y y_fa <| s_y (y_ld (v := I 2)) <| s_nil <| q_then <| c_block <| c_seq <| c_reg <| s_kf (y_eql (p := 2) (q := 1)) (by decide) <| s_y y_as <| s_nil <| q_then <| c_f <| c_seq <| c_reg <| s_kt (y_eql (p := 2) (q := 2)) rfl <| s_y y_as <| s_nil <| q_then <| c_t <| c_reg <| s_y y_mv <| s_y y_mv <| s_chg (b := b) (fun w' hw => length_ok w' b (sa a 1 c 1) (c - 1) q N q1 ((hA w hr).1.st hw) (by omega) h2 (hw.own _ (.tail _ (.head _))).1) (fun _ => .tail _ (.head _)) (fun y hy => ?_)
    obtain ⟨hy1, hy2⟩ := hy
    have hA2 := hA.trans hy1
    have hr2 := (hA2 w hr).1
    have hle := (hA2 w hr).2
    refine s_chg (b := b) (fun w' hw => take_ok w' b y.1 q1.length y.2 N hy2 hr2.le (by omega) (hw.own _ (.tail _ (.head _))).1) (fun _ => .tail _ (.head _)) (fun _ _ => ?_)
    have hq1 := rdLen_le h2
    refine s_y (y_b2s (q := q1.take N) (hr := rdW (hr2.take N) (by intro k hk; cases List.mem_singleton.1 hk; exact hr2.ne)) (hm := by rw [List.length_take]; omega)) <| s_y y_fa <| s_st (b := b4) (off := 2) (v := .string (sb (q1.take N))) (cs := #[I 2, I 0, .string (sb []), .slice none 0 0]) (hl := by decide) ?_
    refine s_nil <| q_nb <| q_then <| c_seq <| c_reg <| s_y (y_lda (b := b4) (cs := #[I 2, I 0, .string (sb (q1.take N)), .slice none 0 0]) (hl := rfl)) <| s_sta (b := b4) (vs := #[I 2, I 0, .string (sb (q1.take N)), .slice none 0 0]) (cs := #[I 2, I 0, .string (sb (q1.take N)), .slice none 0 0]) (h1 := by intro u hu; simp at hu; rcases hu with rfl | rfl | rfl | rfl <;> rfl) (hl := rfl) (hs1 := rfl) ?_
    refine s_nil <| q_then <| c_ret <| ?_
    rw [show q1.length - N = (q1.drop N).length by rw [List.length_drop]]
    refine ret1 Tryz.results146 (rv_ca (b := b4) (cs := #[I 2, I 0, .string (sb (q1.take N)), .slice none 0 0]) (hl := rfl)) fun w' hw => ⟨(sa y.1 N y.2 1, y.2 - N, none, 0, []), ⟨hA2.trans (Adv.drop N hy2), fun w2 _ => ?_⟩, rfl, hw.sub (.cons _ (.refl _))⟩
    rw [Vv]
    exact ⟨none, 0, [], rfl, by unfold R64; omega, ⟨by rw [List.length_take]; omega, by simp⟩, Rd.nil _ _, rfl, fun i => i.elim0⟩
  · rw [h1]
    refine c_seq <| c_seq <| c_reg <| s_y y_fa <| s_y (y_ld (v := I 3)) <| s_nil <| q_then <| c_block <| c_seq <| c_reg <| s_kf (y_eql (p := 3) (q := 1)) (by decide) <| s_y y_as <| s_nil <| q_then <| c_f <| c_seq <| c_reg <| s_kf (y_eql (p := 3) (q := 2)) (by decide) <| s_y y_as <| s_nil <| q_then <| c_f <| c_seq <| c_reg <| s_kt (y_eql (p := 3) (q := 3)) rfl <| s_y y_as <| s_nil <| q_then <| c_t <| c_seq <| c_reg <| s_y y_mv <| s_y y_mv <| s_kt (y_lss (p := ((16 - (f' + 1) : Nat) : Int)) (q := 16)) (by omega) <| s_pure (fun w' hw => want_ok w' _) <| s_nil <| q_then <| c_seq <| c_reg <| s_y y_mv <| s_chg (b := b) (fun w' hw => length_ok w' b (sa a 1 c 1) (c - 1) q N q1 ((hA w hr).1.st hw) (by omega) h2 (hw.own _ (.tail _ (.head _))).1) (fun _ => .tail _ (.head _)) (fun y hy => ?_)
    obtain ⟨hy1, hy2⟩ := hy
    have hA2 := hA.trans hy1
    have hq1 := rdLen_le h2
    have hLn := rdL_length h3
    refine s_y y_mv <| s_nil <| q_then <| c_nilrow 76 4 <| c_perm (.swap _ _ _) <| c_block <| ?_
    refine c_loop (fun s : LSt => [(0, .pointer (some ⟨b, 0, none⟩)), (1, I (16 - (f' + 1) : Nat)), (4, .pointer (some ⟨b4, 0, none⟩)), (36, I N), (37, I s.j)])
      (fun s => .blk b4 (.cells #[I 3, I 0, .string (sb []), .slice s.la s.j s.lc] 76 (0, 0)) :: .row s.la s.lc 76 4 s.j s.cells :: rblk b s.a s.q.length s.c :: s.rs)
      (fun s => rdL (rdVal f') s.td.length s.q = some (s.td, q') ∧ s.dn ++ s.td = L ∧ Adv b a (x :: q) c s.a s.q s.c ∧ s.q.length ≤ q.length ∧ s.dn.length = s.j ∧ s.cells.length = s.j * 4 ∧ ∀ (i : Nat) (hi : i < s.dn.length), Vs s.rs s.dn[i] (.agg ((s.cells.drop (i * 4)).take 4).toArray))
      (fun s => s.td.length) ⟨0, [], L, q1, y.1, y.2, none, 0, [], []⟩ ⟨by rw [hLn]; exact h3, rfl, hA2, hq1, rfl, rfl, fun i hi => absurd hi (Nat.not_lt_zero _)⟩ ⟨rfl, rfl, rfl, rfl, rfl, trivial⟩ (.refl _) ?_
    rintro ⟨j, dn, td, q2, a2, c2, la, lc, cells, rs⟩ ⟨i1, i2, i3, i4, i7, i5, i6⟩
    simp only at i1 i2 i3 i4 i7 i5 i6
    have hj : j + td.length = N := by rw [← hLn, ← i2, List.length_append, i7]
    obtain ⟨hr3, hc3⟩ := i3 w hr
    by_cases hlt : j < N
    · cases td with
      | nil => rw [List.length_nil] at hj; omega
      | cons v td =>
      rw [List.length_cons] at hj
      obtain ⟨q3, j1, j2⟩ := rdL_cons i1
      have hq3 := rdVal_le _ _ _ _ j1
      refine c_seq <| c_reg <| s_kt (y_lss (p := ((j : Nat) : Int)) (q := ((N : Nat) : Int))) (by omega) <| s_nil <| q_then <| c_seq <| c_t <| c_skip <| q_then <| c_seq <| c_block <| ?_
      refine c_regG [.blk b4 (.cells #[I 3, I 0, .string (sb []), .slice la j lc] 76 (0, 0))] (List.Sublist.cons_cons _ (List.nil_sublist _)) 9 <| f_y 0 rfl y_fa <| f_y 2 rfl y_mv <| f_y 3 rfl y_mv <| f_y 4 rfl (y_add (p := ((16 - (f' + 1) : Nat) : Int)) (q := 1)) <| f_y 1 rfl (y_ld (v := .slice la j lc)) <| ?_
      rw [show ((16 - (f' + 1) : Nat) : Int) + 1 = ((16 - f' : Nat) : Int) by omega]
      refine f_w 5 rfl (s_chg (b := b) (fun w' hw => ih f' (by omega) w' b a2 c2 q2 v q3 (by omega) (hr3.st hw) (by omega) (by omega) j1 (hw.own _ (.tail _ (.tail _ (.head _)))).1) (fun _ => .tail _ (.tail _ (.head _))) (fun z hz => s_perm (List.perm_append_comm_assoc [_, _, _] _ _) (f_kk ?_))) (hsub := List.Sublist.cons_cons _ (List.nil_sublist _))
      obtain ⟨a3, c3, va, vc, rs3⟩ := z
      obtain ⟨hz1, hz2⟩ := hz
      simp only at hz1 hz2
      refine f_w 6 rfl (s_bslr (cs := [I v.k, I v.n, .string (sb v.s), .slice va v.l.length vc]) fun b45 => f_kk ?_) (hsub := List.Sublist.cons_cons _ (List.nil_sublist _))
      refine f_w 7 rfl (s_app (m := 1) (fun w' hw => Src.slice (rdR (.head _) w' hw) rfl) (h1 := fun v hv => by simp at hv; rcases hv with rfl | rfl | rfl | rfl <;> rfl) (hm := .tail _ (.tail _ (.head _))) (hrep := fun _ _ => .tail _ (.tail _ (.head _))) (hfit := by show j + 1 ≤ maxLen; unfold maxLen; omega) (hby := by show (j + 1) * 56 ≤ 140737488355328; omega) fun a46 c46 h46 => f_kk ?_) (hsub := List.Sublist.cons _ (List.Sublist.cons_cons _ (List.nil_sublist _)))
      refine f_y 8 rfl y_fa <| f_w 9 rfl (s_st (b := b4) (off := 3) (v := .slice a46 (j + 1) c46) (cs := #[I 3, I 0, .string (sb []), .slice la j lc]) (hl := show 3 < 4 by decide) <| f_z <| q_nb <| q_then <| c_reg <| s_y (y_add (p := ((j : Nat) : Int)) (q := 1)) <| s_y y_mv <| s_nil <| ?_) (hsub := List.Sublist.cons _ (List.Sublist.cons_cons _ (List.nil_sublist _)))
      rw [show ((j : Nat) : Int) + 1 = ((j + 1 : Nat) : Int) by omega]
      refine q_round ⟨j + 1, dn ++ [v], td, q3, a3, c3, a46, c46, cells ++ [I v.k, I v.n, .string (sb v.s), .slice va v.l.length vc], rs3 ++ rs⟩ ⟨j2, by rw [← i2, List.append_assoc]; rfl, i3.trans hz1, Nat.le_trans hq3 i4, by rw [List.length_append, i7]; rfl, by rw [List.length_append, i5]; show j * 4 + 4 = (j + 1) * 4; omega, ?_⟩ (Nat.lt_succ_self _) ⟨rfl, rfl, rfl, rfl, rfl, trivial⟩ (.cons _ (.refl _))
      intro i hi
      rw [List.length_append, i7] at hi
      have hi : i < j + 1 := hi
      rcases Nat.lt_or_ge i j with h9 | h9
      · rw [List.getElem_append_left (by omega), cells_old i5 h9]
        exact (i6 i (by omega)).mono fun p hp => List.mem_append_right _ hp
      · obtain rfl : i = j := by omega
        rw [cells_new i5 rfl]
        have e : (dn ++ [v])[i]'(by rw [List.length_append, i7]; exact hi) = v := by simp [← i7]
        rw [e]
        exact hz2.mono fun p hp => List.mem_append_left _ hp
    · obtain rfl : td = [] := List.length_eq_zero_iff.1 (by omega)
      rw [List.length_nil, Nat.add_zero] at hj
      subst hj
      rw [List.append_nil] at i2
      subst i2
      simp only [List.length_nil, rdL, Option.some.injEq, Prod.mk.injEq, true_and] at i1
      subst i1
      refine c_seq <| c_reg <| s_kf (y_lss (p := ((j : Nat) : Int)) (q := ((j : Nat) : Int))) (by omega) <| s_nil <| q_then <| c_seq <| c_f <| c_exit <| q_ex <| q_ex <| q_exb <| q_nb <| q_then <| c_seq <| c_reg <| s_y (y_lda (b := b4) (cs := #[I 3, I 0, .string (sb []), .slice la j lc]) (hl := rfl)) <| s_sta (b := b4) (vs := #[I 3, I 0, .string (sb []), .slice la j lc]) (cs := #[I 3, I 0, .string (sb []), .slice la j lc]) (h1 := by intro u hu; simp at hu; rcases hu with rfl | rfl | rfl | rfl <;> rfl) (hl := rfl) (hs1 := rfl) ?_
      refine s_nil <| q_then <| c_ret <| ?_
      refine ret1 Tryz.results146 (rv_ca (b := b4) (cs := #[I 3, I 0, .string (sb []), .slice la j lc]) (hl := rfl)) fun w' hw => ⟨(a2, c2, la, lc, .row la lc 76 4 j cells :: rs), ⟨i3, fun w2 hw2 => ?_⟩, by rw [← i7]; rfl, (hw.sub (.cons _ (.refl _))).perm (.swap _ _ _)⟩
      rw [Vv]
      exact ⟨la, lc, cells, rfl, by unfold R64; omega, ⟨by simp, by omega⟩, Res.rd (hw2 _ (.head _)), by rw [i5, i7], fun i => i6 i.val i.isLt w2 fun p hp => hw2 p (.tail _ hp)⟩
end Go.Proofs.YtejdjnkilikehaaGreatDoor
end
section
namespace Go.Proofs.YtejdjnkilikehaaGreatDoor
open Go Eng Cod
set_option maxRecDepth 100000
theorem decode_idle (w : World) (b2 b3 : Nat) : GivesD Tryz.prog 145 [.pointer (some ⟨b2, 0, none⟩), .pointer (some ⟨b3, 0, none⟩)] .returning w [] .returning [] := by
  have hnn : ∀ w : World, (binOp .neq 20 .nilIface .nilIface).run Tryz.prog w = .ok (.bool false) w := fun _ => by kernel_rfl
  refine callsD_of_wpS Tryz.func145 rfl fun c₀ cs hu => ?_
  apply wpS_seq
  apply wpS_region
  simp [wpOpsS, go_sem, recoverD, hu, Tryz.ntmps145, Exit.thenS]
  apply wpS_seq
  apply wpS_region
  simp [wpOpsS, go_sem, hnn, Exit.thenS, Act.eval, Act.put]
  refine wpS_cond (t := false) (by simp [Act.eval, Array.replicate]) ?_
  simp only [Bool.false_eq_true, if_false]
  refine wpS_of_wp (wp_skip ?_)
  cases c₀
  simp_all [bodyPostS, results, Tryz.results145]
  exact St.refl w
theorem Decode_ok (w : World) (a : Option Addr) (c : Nat) (q : List UInt8) (v : V) (hr : Rd w a (bs q)) (hc : q.length ≤ c) (hm : c ≤ 9223372036854775807) (hq : q.length ≤ 2000000000000) (h : rdVal 16 q = some (v, [])) :
    Gives Tryz.prog 70 [.slice a q.length c] w [] (fun x : Option Addr × Nat × SH => .tuple #[vval v x.1 x.2.1, I 0]) (fun x => x.2.2) (fun x => Vs x.2.2 v (vval v x.1 x.2.1)) := by
  refine enterD Tryz.func70 Tryz.ntmps70 ?_
  refine c_seq <| c_reg <| s_alloc fun b2 => s_alloc fun b3 => s_nil <| q_then <| c_seq <| c_reg <| s_y y_func <| s_deferC <| s_nil <| q_then <| ?_
  have hne : bs q ≠ [] := by
    cases q with
    | nil => simp [rdVal] at h
    | cons x q => exact List.cons_ne_nil _ _
  refine c_seq <| c_reg <| s_y y_mv <| s_y (y_blds (places := #[(0, 1)]) (cs := [.slice a q.length c]) Tryz.underlying140 (fun w => by kernel_rfl)) <| s_box rfl fun b8 => s_y y_as <| s_nil <| q_then <| ?_
  refine c_seq <| c_reg <| s_y y_mv <| s_chg (b := b8) (fun w' hw => value_ok 16 w' b8 a c q v [] (Nat.le_refl _) ⟨hr.st hw, hc, hr.apart hne hw.new⟩ hm hq h (hw.own _ (.head _)).1) (fun _ => .head _) (fun z hz => s_perm (List.perm_append_comm_assoc [_, _, _] _ _) ?_)
  obtain ⟨a3, c3, va, vc, rs3⟩ := z
  obtain ⟨hz1, hz2⟩ := hz
  simp only at hz1 hz2
  refine s_sta (b := b2) (vs := #[I v.k, I v.n, .string (sb v.s), .slice va v.l.length vc]) (cs := #[I 0, I 0, .string (sb []), .slice none 0 0]) (h1 := by intro u hu; simp at hu; rcases hu with rfl | rfl | rfl | rfl <;> rfl) (hl := rfl) (hs1 := rfl) ?_
  refine s_nil <| q_then <| c_seq <| c_reg <| s_y y_mv <| s_y y_mv <| s_y y_nc <| s_y y_fa <| s_y (y_ld (v := .slice a3 0 c3)) <| s_y y_len <| s_kt (y_eql (p := ((0 : Nat) : Int)) (q := 0)) rfl <| s_pure (fun w' hw => want_ok w' _) <| s_nil <| q_then <| ?_
  refine c_seq <| c_reg <| s_y (y_lda (b := b2) (cs := #[I v.k, I v.n, .string (sb v.s), .slice va v.l.length vc]) (hl := rfl)) <| s_sta (b := b2) (vs := #[I v.k, I v.n, .string (sb v.s), .slice va v.l.length vc]) (cs := #[I v.k, I v.n, .string (sb v.s), .slice va v.l.length vc]) (h1 := by intro u hu; simp at hu; rcases hu with rfl | rfl | rfl | rfl <;> rfl) (hl := rfl) (hs1 := rfl) ?_
  refine s_st (b := b3) (v := I 0) (cs := #[I 0]) (hl := Nat.zero_lt_one) ?_
  refine s_nil <| q_then <| c_ret <| ?_
  exact leave_R (cs := [.pointer (some ⟨b2, 0, none⟩), .pointer (some ⟨b3, 0, none⟩)]) (fun w' hw => decode_idle w' b2 b3) Tryz.results70 (.cons (rv_ca (b := b2) (cs := #[I v.k, I v.n, .string (sb v.s), .slice va v.l.length vc]) (hl := rfl)) (.cons (rv_cf (b := b3) (v := I 0)) .nil)) fun w' hw => ⟨(va, vc, rs3), hz2, rfl, hw.sub (.cons _ (.cons _ (.cons _ (by rw [List.append_nil]; exact .refl _))))⟩
end Go.Proofs.YtejdjnkilikehaaGreatDoor
end
section
namespace Eng
open Go Go.RowKit
section
variable {r : Option Nat} {P : Program} {n : Nat} {D : List Deferred} {W : World} {Bo : List Nat} {F : List (Nat × Value)} {l l' lp : SH} {f fuel : Nat} {listed : Array Bool}
  {d : Option Tmp} {dd : Nat} {ty : TypeId} {ps : String} {af : Array Edge} {g : Option (Nat × Bool)} {x y z : Operand} {v u : Value} {ta tb t e : TypeId}
  {Q : Exit → Act → World → Prop} {ops : Array Oper} {rest : List Oper} {c : Code} {Z : List PanicEntry → World → Prop}
def DiesB (P : Program) (k : FuncId) (args : List Value) (w : World) (b : Nat) {σ : Type} (o' : σ → Obj) (v : Value) : Prop :=
  Calls P k args.toArray w fun e w' => e = .panicked [{ v := v, recovered := false }] ∧ ∃ x : σ, St w [b] w' [.blk b (o' x)]
theorem s_diesB {k : FuncId} [hf : HF P k] {fo : Operand} {fs cs vs args : List Value} {ao : Array Operand} {ts : Array TypeId} {σ : Type} {b : Nat} {o : Obj} {o' : σ → Obj} {l1 : σ → SH}
    (hc : ∀ w, St W Bo w l → DiesB P k args w b o' v) (hrep : ∀ x, Rep (.blk b o) (.blk b (o' x)) l (l1 x))
    (h : ∀ x, QP n D W Bo Q (.panic [{ v := v, recovered := false }]) F (l1 x))
    (hfo : evO F fo = some (.func (.func k) fs.toArray cs.toArray) := by rfl) (hargs : evL F ao.toList = some vs := by rfl) (hap : args = fs ++ vs ++ cs := by rfl) (hg : Wn ops F g := by first | exact .none | exact .some rfl rfl) :
    LP r P n D W Bo ops Q (⟨d, .call ⟨.value fo, ao, ts⟩, ty, ps, af, g⟩ :: rest) F l := by
  intro a w ha hw
  refine wpListIn_of (hg.wanted rfl ha) ?_
  refine ⟨fun f _ => trivial, ?_⟩
  rw [semAt_eq _ (by simp), run_call hfo hargs ha]
  refine ⟨by simp [Fw, Fence.wide], callsFw ((hap ▸ hc w hw : DiesB P k (fs ++ vs ++ cs) w b o' v).mono ?_)⟩
  rintro e w' ⟨rfl, x, hw'⟩
  have h9 : St W Bo w' ([] ++ l1 x) := hw.trans1 (hrep x) hw'
  exact h x _ _ ha h9
def QZ (Q : Exit → Act → World → Prop) (D : List Deferred) (Z : List PanicEntry → World → Prop) : Exit → Act → World → Prop := fun e a w => (e = .normal ∧ Q .normal a w) ∨ ∃ ch, e = .panic ch ∧ a.defers = D ∧ Z ch w
def QD (D : List Deferred) (Z : List PanicEntry → World → Prop) : Exit → Act → World → Prop := fun e a w => ∃ ch, e = .panic ch ∧ a.defers = D ∧ Z ch w
def DZ (P : Program) (n : Nat) (D : List Deferred) (W : World) (Bo : List Nat) (ops : Array Oper) (Q : Exit → Act → World → Prop) (Z : List PanicEntry → World → Prop) (lp : SH) (f fuel : Nat) (listed : Array Bool) (F : List (Nat × Value)) (l : SH) : Prop :=
  Region.noSelect ops = true → ∀ a w, Fr n F D a → St W Bo w l → AnyF P ops (QZ Q D Z) (fun w => St W Bo w lp) f fuel listed a w
theorem c_regZ [hm : HM P] (lp : SH) (hZ : ∀ ch a w, a.defers = D → Z ch w → Q (.panic ch) a w) (f : Nat) {id : Nat} {os : List Oper} (h : DZ P n D W Bo os.toArray Q Z lp f os.length (Array.replicate os.length false) F l) (hs : Region.noSelect os.toArray = true := by kernel_rfl) :
    CP none P n D W Bo (.region id os.toArray true) Q F l := by
  intro a w ha hw
  have h1 := (h hs a w.drew ha hw.drew).any
  have h2 : (Code.region id os.toArray true).wpIn (Fw none) 0 P (QZ Q D Z) a w := wpIn_region_any hm.h (by simpa using h1)
  refine wpIn_mono h2 fun e a w hq => ?_
  rcases hq with ⟨rfl, hq⟩ | ⟨ch, rfl, hd, hz⟩
  · exact hq
  · exact hZ ch a w hd hz
theorem z_y {op : Op} (i : Nat) (hi : ops[i]? = some ⟨some dd, op, ty, ps, af, g⟩) (hy : Y P n D W Bo ⟨some dd, op, ty, ps, af, g⟩ F lp v) (h : DZ P n D W Bo ops Q Z lp f fuel (listed.setIfInBounds i true) ((dd, v) :: F) l)
    (hn : Nat.blt dd n = true := by rfl) (hg : Wn ops F g := by first | exact .none | exact .some rfl rfl) (hok : okF ops f listed i = true := by kernel_rfl) : DZ P n D W Bo ops Q Z lp f (fuel + 1) listed F l := by
  intro hs a w ha hw
  obtain ⟨h1, h2, h3, h4, h5⟩ := okF_spec hok
  refine AnyF.first hi (Region.noSelect_spec hs) (fun c a w hq => ?_) h3 h5 fuel listed a w (Region.free_spec hi h2) h1 h4 (.inl ⟨hg.wanted rfl ha, fun w hw => hy.2 a w ha hw⟩) (h hs _ w (ha.put dd v hn) hw)
  rcases hq with ⟨h, _⟩ | ⟨ch, h6, h7, h8⟩
  · cases h
  · exact .inr ⟨ch, h6, by simpa [Act.put] using h7, h8⟩
theorem z_die {o : Oper} (i : Nat) (hi : ops[i]? = some o) (h : LP none P n D W Bo ops (QD D Z) [o] F l)
    (hr : Region.ready .any ops listed = [i] := by kernel_rfl) (hsub : lp.Sublist l := by first | exact List.nil_sublist _ | exact List.Sublist.refl _ | exact .cons _ (.refl _)) : DZ P n D W Bo ops Q Z lp f (fuel + 1) listed F l := by
  intro hs a w ha hw
  unfold AnyF
  refine ⟨.inr (hw.sub hsub), fun h0 => absurd (hr ▸ h0) (by simp), fun j hj => ?_⟩
  rw [hr, List.mem_singleton] at hj
  subst hj
  have h9 := h a w ha hw
  unfold wpOpIn
  simp only [hi]
  simp only [wpListIn] at h9
  split
  · rename_i hwd
    rw [if_pos hwd] at h9
    exact wpIn_monoQ (Q := QD D Z) (fun c a w hq => .inr hq) (fun hq => by obtain ⟨_, _, ch, h1, _⟩ := hq; cases h1) (Oper.wpIn_mono (fun a w hk => by obtain ⟨ch, h1, _⟩ := hk; cases h1) h9)
  · rename_i hwd
    rw [if_neg hwd] at h9
    obtain ⟨ch, h1, _⟩ := h9.2
    cases h1
end
end Eng
end
section
namespace Go.Proofs.YtejdjnkilikehaaGreatDoor
open Go Eng Cod
set_option maxRecDepth 100000
abbrev codeE : Value := .iface 37 (I 10)
abbrev rdObj (x : Option Addr × Nat × Nat) : Obj := .cells #[.slice x.1 x.2.1 x.2.2] 140 (0, 0)
theorem want_no (w : World) (v : Value) : Dies Tryz.prog 147 [v, .bool false] w codeE := by
  refine enter Tryz.func147 Tryz.ntmps147 ?_
  refine c_seq <| c_reg <| s_y y_mv <| s_y (v := .bool true) (y_not (b := false)) <| s_nil <| q_then <| c_t <| c_reg <| s_y y_mki <| s_panic <| ?_
  exact Eng.die fun w' hw => ⟨rfl, hw⟩
theorem take_no (w : World) (b : Nat) (a : Option Addr) (n c k : Nat) (hk : n < k) (hp : (rblk b a n c).holds w) :
    DiesB Tryz.prog 191 [.pointer (some ⟨b, 0, none⟩), I k] w b rdObj codeE := by
  refine enterR Tryz.func191 Tryz.ntmps191 hp ?_
  refine c_seq <| c_reg <| s_y y_as <| s_nil <| q_then <| c_seq <| c_reg <| s_y y_mv <| s_y y_mv <| s_y y_mv <| s_y y_nc <| s_y y_fa <| s_y (y_ld (v := .slice a n c)) <| s_y y_len <| s_kf (y_leq (p := (k : Int)) (q := (n : Int))) (by omega) <| s_dies (fun w' hw => want_no w' _) <| q_pt <| ?_
  exact Eng.die fun w' hw => ⟨rfl, (a, n, c), hw⟩
theorem number_no (w : World) (b : Nat) (a : Option Addr) (c : Nat) (q : List UInt8) (hr : RdX w b a q c) (hm : c ≤ 9223372036854775807) (hN : rdNum 0 0 q = none) (hp : (rblk b a q.length c).holds w) :
    DiesB Tryz.prog 193 [.pointer (some ⟨b, 0, none⟩)] w b rdObj codeE := by
  refine enterR Tryz.func193 Tryz.ntmps193 hp ?_
  refine c_seq <| c_reg <| s_y y_as <| s_nil <| q_then <| c_seq <| c_reg <| s_y y_as <| s_nil <| q_then <| c_block <| ?_
  refine c_loop (σ := Nat × Nat × List UInt8 × Option Addr × Nat) (fun x => [(0, .pointer (some ⟨b, 0, none⟩)), (2, U x.2.1), (3, I x.1)]) (fun x => [rblk b x.2.2.2.1 x.2.2.1.length x.2.2.2.2]) (fun x => rdNum x.1 x.2.1 x.2.2.1 = none ∧ x.1 ≤ 9 ∧ x.2.1 < 2 ^ (7 * x.1) ∧ Adv b a q c x.2.2.2.1 x.2.2.1 x.2.2.2.2) (fun x => x.2.2.1.length) (0, 0, q, a, c) ⟨hN, Nat.zero_le _, Nat.zero_lt_one, .refl⟩ ⟨rfl, rfl, rfl, trivial⟩ (.refl _) ?_
  rintro ⟨i, u, q1, a1, c1⟩ ⟨h1, h2, h3, hA⟩
  simp only at h1 h2 h3 hA
  obtain ⟨h4, h5⟩ := hA w hr
  cases q1 with
  | nil =>
    refine c_seq <| c_block <| c_seq <| c_reg <| s_y y_mv <| s_diesB (b := b) (fun w' hw => take_no w' b a1 0 c1 1 Nat.zero_lt_one (hw.own _ (.head _)).1) (fun _ => .head _) fun x => q_pt <| q_pb <| q_pt <| q_pt <| q_pb <| ?_
    exact Eng.die fun w' hw => ⟨rfl, x, hw⟩
  | cons x q1 =>
  have hlt := x.toNat_lt
  have hle := h4.le
  rw [List.length_cons] at hle
  refine c_seq <| c_block <| c_seq <| c_reg <| s_y y_mv <| s_chg (b := b) (fun w' hw => take_ok w' b a1 (x :: q1).length c1 1 (by simp) h4.le (by omega) (hw.own _ (.head _)).1) (fun _ => .head _) (fun _ _ => ?_)
  have hd := hA.trans (Adv.drop 1 (by simp))
  refine s_y (y_ixs1 (xs := bs (x :: q1)) (hr := rdW h4.rd (by intro k hk; cases List.mem_singleton.1 hk; exact h4.ne)) (hl := by rw [bs_length]; simp)) <| s_y (y_ldb (q := x :: q1) (i := 0) (hr := rdW h4.rd (by intro k hk; cases List.mem_singleton.1 hk; exact h4.ne)) (hi := by simp)) <| ?_
  rw [show (x :: q1).getD 0 0 = x from rfl]
  refine s_y y_as <| s_nil <| q_then <| ?_
  by_cases hcnd : (i = 0 ∨ x.toNat ≠ 0) ∧ (i < 9 ∨ x.toNat ≤ 1)
  · rw [rdNum, if_pos hcnd] at h1
    obtain ⟨hg1, hg2⟩ := hcnd
    refine c_join [(0, .pointer (some ⟨b, 0, none⟩)), (2, U u), (3, I i), (4, B x)] [rblk b (sa a1 1 c1 1) q1.length (c1 - 1)] ?_ ?_
    · by_cases hi0 : i = 0
      · subst hi0
        refine c_reg <| s_y y_mv <| s_y y_mv <| s_kt (y_eql (p := ((0 : Nat) : Int)) (q := 0)) (by omega) <| s_y y_mv <| s_no <| s_no <| s_y y_pk <| s_y y_mv <| s_y y_mv <| s_kt (y_lss (p := ((0 : Nat) : Int)) (q := 9)) (by omega) <| s_y y_mv <| s_no <| s_no <| s_y y_pk <| s_y y_pk <| s_pure (fun w' hw => want_ok w' _) <| s_nil <| ?_
        exact q_join ⟨rfl, rfl, rfl, rfl, trivial⟩ (.refl _)
      · have hx0 : x.toNat ≠ 0 := hg1.resolve_left hi0
        by_cases hi9 : i < 9
        · refine c_reg <| s_y y_mv <| s_y y_mv <| s_kf (y_eql (p := (i : Int)) (q := 0)) (by omega) <| s_y y_mv <| s_y y_mv <| s_nt (y_neq (p := (x.toNat : Int)) (q := 0)) (by omega) <| s_y y_pk <| s_y y_mv <| s_y y_mv <| s_kt (y_lss (p := (i : Int)) (q := 9)) (by omega) <| s_y y_mv <| s_no <| s_no <| s_y y_pk <| s_y y_pk <| s_pure (fun w' hw => want_ok w' _) <| s_nil <| ?_
          exact q_join ⟨rfl, rfl, rfl, rfl, trivial⟩ (.refl _)
        · have hx1 : x.toNat ≤ 1 := hg2.resolve_left hi9
          refine c_reg <| s_y y_mv <| s_y y_mv <| s_kf (y_eql (p := (i : Int)) (q := 0)) (by omega) <| s_y y_mv <| s_y y_mv <| s_nt (y_neq (p := (x.toNat : Int)) (q := 0)) (by omega) <| s_y y_pk <| s_y y_mv <| s_y y_mv <| s_kf (y_lss (p := (i : Int)) (q := 9)) (by omega) <| s_y y_mv <| s_y y_mv <| s_kt (y_leq (p := (x.toNat : Int)) (q := 1)) (by omega) <| s_y y_pk <| s_y y_pk <| s_pure (fun w' hw => want_ok w' _) <| s_nil <| ?_
          exact q_join ⟨rfl, rfl, rfl, rfl, trivial⟩ (.refl _)
    have h64 := lt64 (i := i) (p := x.toNat % 128) h2 (by omega) (by omega)
    have hu64 : u < 18446744073709551616 := by
      have := Nat.pow_le_pow_right (show 0 < 2 by decide) (show 7 * i ≤ 63 by omega)
      omega
    refine c_seq <| c_reg <| s_y y_mv <| s_y y_mv <| s_y (y_andn (k := .u8) (p := x.toNat) (q := 127) (hw := by rw [and127, wrap_u8]; omega)) <| ?_
    rw [and127]
    refine s_y (y_cvn (k := .u64) (p := ((x.toNat % 128 : Nat) : Int)) (hw := wrap_u64 (by omega) (by omega))) <| s_y y_mv <| s_y (y_mul (p := 7) (q := (i : Int))) <| ?_
    rw [show (7 : Int) * (i : Int) = ((7 * i : Nat) : Int) by omega]
    refine s_y (y_shlW (7 * i) (p := x.toNat % 128)) <| ?_
    rw [Nat.mod_eq_of_lt h64]
    refine s_y (y_orU (p := u) (q := x.toNat % 128 * 2 ^ (7 * i))) <| ?_
    rw [or_add h3]
    refine s_y y_as <| s_nil <| q_then <| c_seq <| c_reg <| s_y y_mv <| ?_
    by_cases h128 : x.toNat < 128
    · rw [if_pos h128] at h1
      cases h1
    · rw [if_neg h128] at h1
      have e : x.toNat % 128 = x.toNat - 128 := by omega
      refine s_kf (y_lss (p := (x.toNat : Int)) (q := 128)) (by omega) <| s_nil <| q_then <| c_f <| c_skip <| q_nb <| q_then <| c_reg <| s_y y_mv <| s_y (y_add (p := (i : Int)) (q := 1)) <| s_y y_as <| s_nil <| ?_
      rw [show (i : Int) + 1 = ((i + 1 : Nat) : Int) by omega]
      refine q_round (i + 1, u + x.toNat % 128 * 2 ^ (7 * i), q1, sa a1 1 c1 1, c1 - 1) ⟨by rw [e]; exact h1, by show i + 1 ≤ 9; omega, sum7 h3 (by omega), hd⟩ (by simp) ⟨rfl, rfl, rfl, trivial⟩ (.refl _)
  · by_cases hg1 : i = 0 ∨ x.toNat ≠ 0
    · have hg2 : ¬ (i < 9 ∨ x.toNat ≤ 1) := fun h => hcnd ⟨hg1, h⟩
      have hi9 : i = 9 := by omega
      have hx1 : ¬ x.toNat ≤ 1 := by omega
      refine c_seq <| c_reg <| s_y y_mv <| s_y y_mv <| s_kf (y_eql (p := (i : Int)) (q := 0)) (by omega) <| s_y y_mv <| s_y y_mv <| s_nt (y_neq (p := (x.toNat : Int)) (q := 0)) (by omega) <| s_y y_pk <| s_y y_mv <| s_y y_mv <| s_kf (y_lss (p := (i : Int)) (q := 9)) (by omega) <| s_y y_mv <| s_y y_mv <| s_kf (y_leq (p := (x.toNat : Int)) (q := 1)) (by omega) <| s_y y_pk <| s_y y_pk <| s_dies (fun w' hw => want_no w' _) <| q_pt <| q_pb <| q_pt <| q_pt <| q_pb <| ?_
      exact Eng.die fun w' hw => ⟨rfl, (sa a1 1 c1 1, q1.length, c1 - 1), hw⟩
    · have hi0 : i ≠ 0 := fun h => hg1 (.inl h)
      have hx0 : x.toNat = 0 := by omega
      refine c_seq <| c_reg <| s_y y_mv <| s_y y_mv <| s_kf (y_eql (p := (i : Int)) (q := 0)) (by omega) <| s_y y_mv <| s_y y_mv <| s_nf (y_neq (p := (x.toNat : Int)) (q := 0)) (by omega) <| s_y y_pk <| s_y y_mv <| s_no <| s_no <| s_no <| s_nu <| s_nu <| s_no <| s_y y_pk <| s_dies (fun w' hw => want_no w' _) <| q_pt <| q_pb <| q_pt <| q_pt <| q_pb <| ?_
      exact Eng.die fun w' hw => ⟨rfl, (sa a1 1 c1 1, q1.length, c1 - 1), hw⟩
theorem length_no (w : World) (b : Nat) (a : Option Addr) (c : Nat) (q : List UInt8) (hr : RdX w b a q c) (hm : c ≤ 9223372036854775807) (hN : rdLen q = none) (hp : (rblk b a q.length c).holds w) :
    DiesB Tryz.prog 194 [.pointer (some ⟨b, 0, none⟩)] w b rdObj codeE := by
  refine enterR Tryz.func194 Tryz.ntmps194 hp ?_
  refine c_seq <| c_reg <| s_y y_as <| s_nil <| q_then <| c_seq <| c_reg <| s_y y_mv <| ?_
  cases h1 : rdNum 0 0 q with
  | none =>
    refine s_diesB (b := b) (fun w' hw => number_no w' b a c q (hr.st hw) hm h1 (hw.own _ (.head _)).1) (fun _ => .head _) fun x => q_pt <| ?_
    exact Eng.die fun w' hw => ⟨rfl, x, hw⟩
  | some p =>
    obtain ⟨N, q'⟩ := p
    rw [rdLen, h1] at hN
    have h2 : ¬ N ≤ q'.length := fun h => by simp only [if_pos h] at hN; cases hN
    refine s_chg (b := b) (fun w' hw => number_ok w' b a c q N q' (hr.st hw) hm h1 (hw.own _ (.head _)).1) (fun _ => .head _) (fun x hx => ?_)
    obtain ⟨hx1, hx2⟩ := hx
    have hx3 := (hx1 w hr).2
    have hx4 := (hx1 w hr).1.le
    refine s_y y_as <| s_nil <| q_then <| c_seq <| c_reg <| s_y y_mv <| s_y y_mv <| s_y y_mv <| s_y y_nc <| s_y y_fa <| s_y (y_ld (v := .slice x.1 q'.length x.2)) <| s_y y_len <| s_y (y_cvn (k := .u64) (p := ((q'.length : Nat) : Int)) (hw := wrap_u64 (by omega) (by omega))) <| s_kf (y_leq (p := ((N : Nat) : Int)) (q := ((q'.length : Nat) : Int))) (by omega) <| s_dies (fun w' hw => want_no w' _) <| q_pt <| ?_
    exact Eng.die fun w' hw => ⟨rfl, (x.1, q'.length, x.2), hw⟩
theorem rdL_none {g : List UInt8 → Option (V × List UInt8)} {n : Nat} {q : List UInt8} (h : rdL g (n + 1) q = none) : g q = none ∨ ∃ v q', g q = some (v, q') ∧ rdL g n q' = none := by
  rw [rdL] at h
  cases h1 : g q with
  | none => exact .inl rfl
  | some p =>
    obtain ⟨v, q'⟩ := p
    rw [h1] at h
    simp only at h
    cases h2 : rdL g n q' with
    | none => exact .inr ⟨v, q', rfl, h2⟩
    | some p => rw [h2] at h; cases h
theorem rdVal_none {f : Nat} {x : UInt8} {q : List UInt8} (h : rdVal f (x :: q) = none) :
    (x.toNat = 1 ∧ rdNum 0 0 q = none) ∨ (x.toNat = 2 ∧ rdLen q = none) ∨ (x.toNat = 3 ∧ f = 0) ∨ (x.toNat = 3 ∧ ∃ f', f = f' + 1 ∧ rdLen q = none) ∨
    (x.toNat = 3 ∧ ∃ f' N q1, f = f' + 1 ∧ rdLen q = some (N, q1) ∧ rdL (rdVal f') N q1 = none) ∨ (x.toNat ≠ 1 ∧ x.toNat ≠ 2 ∧ x.toNat ≠ 3) := by
  by_cases h1 : x.toNat = 1
  · refine .inl ⟨h1, ?_⟩
    cases h3 : rdNum 0 0 q with
    | none => rfl
    | some p => cases f <;> (simp only [rdVal] at h; rw [if_pos h1, h3] at h; cases h)
  by_cases h2 : x.toNat = 2
  · refine .inr (.inl ⟨h2, ?_⟩)
    cases h3 : rdLen q with
    | none => rfl
    | some p => cases f <;> (simp only [rdVal] at h; rw [if_neg h1, if_pos h2, h3] at h; cases h)
  by_cases h3 : x.toNat = 3
  · cases f with
    | zero => exact .inr (.inr (.inl ⟨h3, rfl⟩))
    | succ f =>
      simp only [rdVal] at h
      rw [if_neg h1, if_neg h2, if_pos h3] at h
      cases h4 : rdLen q with
      | none => exact .inr (.inr (.inr (.inl ⟨h3, f, rfl, rfl⟩)))
      | some p =>
        obtain ⟨N, q1⟩ := p
        rw [h4] at h
        simp only at h
        cases h5 : rdL (rdVal f) N q1 with
        | none => exact .inr (.inr (.inr (.inr (.inl ⟨h3, f, N, q1, rfl, rfl, h5⟩))))
        | some p => rw [h5] at h; cases h
  · exact .inr (.inr (.inr (.inr (.inr ⟨h1, h2, h3⟩))))
structure LSn where
  j : Nat
  n : Nat
  q : List UInt8
  a : Option Addr
  c : Nat
  la : Option Addr
  lc : Nat
  cells : List Value
  rs : SH
theorem value_no : ∀ (f : Nat) (w : World) (b : Nat) (a : Option Addr) (c : Nat) (q : List UInt8), f ≤ 16 → (q = [] ∨ RdX w b a q c) → c ≤ 9223372036854775807 → q.length ≤ 2000000000000 → rdVal f q = none → (rblk b a q.length c).holds w →
    DiesB Tryz.prog 146 [.pointer (some ⟨b, 0, none⟩), I (16 - f : Nat)] w b rdObj codeE := by
  intro f
  induction f using Nat.strongRecOn with
  | ind f ih =>
  intro w b a c q hf hr hm hq h hp
  refine enterR Tryz.func146 Tryz.ntmps146 hp ?_
  refine c_seq <| c_reg <| s_alloc fun b4 => s_nil <| q_then <| c_seq <| c_reg <| s_y y_mv <| ?_
  cases q with
  | nil =>
    refine s_diesB (b := b) (fun w' hw => take_no w' b a 0 c 1 Nat.zero_lt_one (hw.own _ (.tail _ (.head _))).1) (fun _ => .tail _ (.head _)) fun x => q_pt <| ?_
    exact Eng.die fun w' hw => ⟨rfl, x, hw.sub (.cons _ (.refl _))⟩
  | cons x q =>
  have hr := hr.resolve_left (List.cons_ne_nil _ _)
  rw [List.length_cons] at hq
  refine s_chg (b := b) (fun w' hw => take_ok w' b a (x :: q).length c 1 (by simp) hr.le (by omega) (hw.own _ (.tail _ (.head _))).1) (fun _ => .tail _ (.head _)) (fun _ _ => ?_)
  have hA : Adv b a (x :: q) c (sa a 1 c 1) q (c - 1) := Adv.drop 1 (by simp)
  have hne : ∀ k ∈ keys [rblk b a (x :: q).length c], a.map (·.block) ≠ some k := by intro k hk; cases List.mem_singleton.1 hk; exact hr.ne
  refine s_y (y_ixs1 (xs := bs (x :: q)) (hr := rdW hr.rd hne) (hl := by rw [bs_length]; simp)) <| s_y (y_ldb (q := x :: q) (i := 0) (hr := rdW hr.rd hne) (hi := by simp)) <| ?_
  rw [show (x :: q).getD 0 0 = x from rfl]
  refine s_y (y_cvb (p := x)) <| s_y y_fa <| s_st (b := b4) (off := 0) (v := I x.toNat) (cs := #[I 0, I 0, .string (sb []), .slice none 0 0]) (hl := by decide) ?_
  refine s_nil <| q_then <| ?_
  rcases rdVal_none h with ⟨h1, h2⟩ | ⟨h1, h2⟩ | ⟨h1, rfl⟩ | ⟨h1, f', rfl, h2⟩ | ⟨h1, f', N, q1, rfl, h2, h3⟩ | ⟨h1, h2, h3⟩
  · rw [h1]
    refine c_seq <| c_seq <| c_reg <| s_y y_fa <| s_y (y_ld (v := I 1)) <| s_nil <| q_then <| c_block <| c_seq <| c_reg <| s_kt (y_eql (p := 1) (q := 1)) rfl <| s_y y_as <| s_nil <| q_then <| c_t <| c_reg <| s_y y_mv <| s_diesB (b := b) (fun w' hw => number_no w' b (sa a 1 c 1) (c - 1) q ((hA w hr).1.st hw) (by omega) h2 (hw.own _ (.tail _ (.head _))).1) (fun _ => .tail _ (.head _)) fun x => q_pb <| q_pt <| ?_
    exact Eng.die fun w' hw => ⟨rfl, x, hw.sub (.cons _ (.refl _))⟩
  · rw [h1]
    refine c_seq <| c_seq <| c_reg <| s_y y_fa <| s_y (y_ld (v := I 2)) <| s_nil <| q_then <| c_block <| c_seq <| c_reg <| s_kf (y_eql (p := 2) (q := 1)) (by decide) <| s_y y_as <| s_nil <| q_then <| c_f <| c_seq <| c_reg <| s_kt (y_eql (p := 2) (q := 2)) rfl <| s_y y_as <| s_nil <| q_then <| c_t <| c_reg <| s_y y_mv <| s_y y_mv <| s_diesB (b := b) (fun w' hw => length_no w' b (sa a 1 c 1) (c - 1) q ((hA w hr).1.st hw) (by omega) h2 (hw.own _ (.tail _ (.head _))).1) (fun _ => .tail _ (.head _)) fun x => q_pb <| q_pt <| ?_
    exact Eng.die fun w' hw => ⟨rfl, x, hw.sub (.cons _ (.refl _))⟩
  · rw [h1]
    refine c_seq <| c_seq <| c_reg <| s_y y_fa <| s_y (y_ld (v := I 3)) <| s_nil <| q_then <| c_block <| c_seq <| c_reg <| s_kf (y_eql (p := 3) (q := 1)) (by decide) <| s_y y_as <| s_nil <| q_then <| c_f <| c_seq <| c_reg <| s_kf (y_eql (p := 3) (q := 2)) (by decide) <| s_y y_as <| s_nil <| q_then <| c_f <| c_seq <| c_reg <| s_kt (y_eql (p := 3) (q := 3)) rfl <| s_y y_as <| s_nil <| q_then <| c_t <| c_seq <| c_reg <| s_y y_mv <| s_y y_mv <| s_kf (y_lss (p := ((16 - 0 : Nat) : Int)) (q := 16)) (by omega) <| s_dies (fun w' hw => want_no w' _) <| q_pt <| q_pb <| q_pt <| ?_
    exact Eng.die fun w' hw => ⟨rfl, (sa a 1 c 1, q.length, c - 1), hw.sub (.cons _ (.refl _))⟩
  · rw [h1]
    refine c_seq <| c_seq <| c_reg <| s_y y_fa <| s_y (y_ld (v := I 3)) <| s_nil <| q_then <| c_block <| c_seq <| c_reg <| s_kf (y_eql (p := 3) (q := 1)) (by decide) <| s_y y_as <| s_nil <| q_then <| c_f <| c_seq <| c_reg <| s_kf (y_eql (p := 3) (q := 2)) (by decide) <| s_y y_as <| s_nil <| q_then <| c_f <| c_seq <| c_reg <| s_kt (y_eql (p := 3) (q := 3)) rfl <| s_y y_as <| s_nil <| q_then <| c_t <| c_seq <| c_reg <| s_y y_mv <| s_y y_mv <| s_kt (y_lss (p := ((16 - (f' + 1) : Nat) : Int)) (q := 16)) (by omega) <| s_pure (fun w' hw => want_ok w' _) <| s_nil <| q_then <| c_seq <| c_reg <| s_y y_mv <| s_diesB (b := b) (fun w' hw => length_no w' b (sa a 1 c 1) (c - 1) q ((hA w hr).1.st hw) (by omega) h2 (hw.own _ (.tail _ (.head _))).1) (fun _ => .tail _ (.head _)) fun x => q_pt <| q_pb <| q_pt <| ?_
    exact Eng.die fun w' hw => ⟨rfl, x, hw.sub (.cons _ (.refl _))⟩
  · rw [h1]
    refine c_seq <| c_seq <| c_reg <| s_y y_fa <| s_y (y_ld (v := I 3)) <| s_nil <| q_then <| c_block <| c_seq <| c_reg <| s_kf (y_eql (p := 3) (q := 1)) (by decide) <| s_y y_as <| s_nil <| q_then <| c_f <| c_seq <| c_reg <| s_kf (y_eql (p := 3) (q := 2)) (by decide) <| s_y y_as <| s_nil <| q_then <| c_f <| c_seq <| c_reg <| s_kt (y_eql (p := 3) (q := 3)) rfl <| s_y y_as <| s_nil <| q_then <| c_t <| c_seq <| c_reg <| s_y y_mv <| s_y y_mv <| s_kt (y_lss (p := ((16 - (f' + 1) : Nat) : Int)) (q := 16)) (by omega) <| s_pure (fun w' hw => want_ok w' _) <| s_nil <| q_then <| c_seq <| c_reg <| s_y y_mv <| s_chg (b := b) (fun w' hw => length_ok w' b (sa a 1 c 1) (c - 1) q N q1 ((hA w hr).1.st hw) (by omega) h2 (hw.own _ (.tail _ (.head _))).1) (fun _ => .tail _ (.head _)) (fun y hy => ?_)
    obtain ⟨hy1, hy2⟩ := hy
    have hA2 := hA.trans hy1
    have hq1 := rdLen_le h2
    refine s_y y_mv <| s_nil <| q_then <| c_nilrow 76 4 <| c_perm (.swap _ _ _) <| c_block <| ?_
    refine c_loop (fun s : LSn => [(0, .pointer (some ⟨b, 0, none⟩)), (1, I (16 - (f' + 1) : Nat)), (4, .pointer (some ⟨b4, 0, none⟩)), (36, I N), (37, I s.j)])
      (fun s => .blk b4 (.cells #[I 3, I 0, .string (sb []), .slice s.la s.j s.lc] 76 (0, 0)) :: .row s.la s.lc 76 4 s.j s.cells :: rblk b s.a s.q.length s.c :: s.rs)
      (fun s => rdL (rdVal f') s.n s.q = none ∧ s.j + s.n = N ∧ Adv b a (x :: q) c s.a s.q s.c ∧ s.q.length ≤ q.length)
      (fun s => s.n) ⟨0, N, q1, y.1, y.2, none, 0, [], []⟩ ⟨h3, Nat.zero_add _, hA2, hq1⟩ ⟨rfl, rfl, rfl, rfl, rfl, trivial⟩ (.refl _) ?_
    rintro ⟨j, n, q2, a2, c2, la, lc, cells, rs⟩ ⟨i1, hj, i3, i4⟩
    simp only at i1 hj i3 i4
    obtain ⟨hr3, hc3⟩ := i3 w hr
    cases n with
    | zero => simp [rdL] at i1
    | succ n =>
    refine c_seq <| c_reg <| s_kt (y_lss (p := ((j : Nat) : Int)) (q := ((N : Nat) : Int))) (by omega) <| s_nil <| q_then <| c_seq <| c_t <| c_skip <| q_then <| c_seq <| c_block <| ?_
    rcases rdL_none i1 with j1 | ⟨v, q3, j1, j2⟩
    · refine c_regZ (Z := fun ch w' => ch = [{ v := codeE, recovered := false }] ∧ ∃ x, St w [b] w' [.blk b (rdObj x)]) [.blk b4 (.cells #[I 3, I 0, .string (sb []), .slice la j lc] 76 (0, 0))] (fun ch a w' hd hz => ?_) 9 ?_
      · obtain ⟨rfl, hz⟩ := hz
        exact ⟨hd, rfl, hz⟩
      · refine z_y 0 rfl y_fa <| z_y 2 rfl y_mv <| z_y 3 rfl y_mv <| z_y 4 rfl (y_add (p := ((16 - (f' + 1) : Nat) : Int)) (q := 1)) <| z_y 1 rfl (y_ld (v := .slice la j lc)) <| ?_
        rw [show ((16 - (f' + 1) : Nat) : Int) + 1 = ((16 - f' : Nat) : Int) by omega]
        refine z_die 5 rfl (s_diesB (b := b) (fun w' hw => ih f' (by omega) w' b a2 c2 q2 (by omega) (.inr (hr3.st hw)) (by omega) (by omega) j1 (hw.own _ (.tail _ (.tail _ (.head _)))).1) (fun _ => .tail _ (.tail _ (.head _))) fun x => ?_) (hsub := List.Sublist.cons_cons _ (List.nil_sublist _))
        exact fun a w' ha hw => ⟨_, rfl, ha.defers, rfl, x, hw.sub (.cons _ (.cons _ (.cons_cons _ (List.nil_sublist _))))⟩
    · have hq3 := rdVal_le _ _ _ _ j1
      refine c_regG [.blk b4 (.cells #[I 3, I 0, .string (sb []), .slice la j lc] 76 (0, 0))] (List.Sublist.cons_cons _ (List.nil_sublist _)) 9 <| f_y 0 rfl y_fa <| f_y 2 rfl y_mv <| f_y 3 rfl y_mv <| f_y 4 rfl (y_add (p := ((16 - (f' + 1) : Nat) : Int)) (q := 1)) <| f_y 1 rfl (y_ld (v := .slice la j lc)) <| ?_
      rw [show ((16 - (f' + 1) : Nat) : Int) + 1 = ((16 - f' : Nat) : Int) by omega]
      refine f_w 5 rfl (s_chg (b := b) (fun w' hw => value_ok f' w' b a2 c2 q2 v q3 (by omega) (hr3.st hw) (by omega) (by omega) j1 (hw.own _ (.tail _ (.tail _ (.head _)))).1) (fun _ => .tail _ (.tail _ (.head _))) (fun z hz => s_perm (List.perm_append_comm_assoc [_, _, _] _ _) (f_kk ?_))) (hsub := List.Sublist.cons_cons _ (List.nil_sublist _))
      obtain ⟨a3, c3, va, vc, rs3⟩ := z
      obtain ⟨hz1, hz2⟩ := hz
      simp only at hz1 hz2
      refine f_w 6 rfl (s_bslr (cs := [I v.k, I v.n, .string (sb v.s), .slice va v.l.length vc]) fun b45 => f_kk ?_) (hsub := List.Sublist.cons_cons _ (List.nil_sublist _))
      refine f_w 7 rfl (s_app (m := 1) (fun w' hw => Src.slice (rdR (.head _) w' hw) rfl) (h1 := fun v hv => by simp at hv; rcases hv with rfl | rfl | rfl | rfl <;> rfl) (hm := .tail _ (.tail _ (.head _))) (hrep := fun _ _ => .tail _ (.tail _ (.head _))) (hfit := by show j + 1 ≤ maxLen; unfold maxLen; omega) (hby := by show (j + 1) * 56 ≤ 140737488355328; omega) fun a46 c46 h46 => f_kk ?_) (hsub := List.Sublist.cons _ (List.Sublist.cons_cons _ (List.nil_sublist _)))
      refine f_y 8 rfl y_fa <| f_w 9 rfl (s_st (b := b4) (off := 3) (v := .slice a46 (j + 1) c46) (cs := #[I 3, I 0, .string (sb []), .slice la j lc]) (hl := show 3 < 4 by decide) <| f_z <| q_nb <| q_then <| c_reg <| s_y (y_add (p := ((j : Nat) : Int)) (q := 1)) <| s_y y_mv <| s_nil <| ?_) (hsub := List.Sublist.cons _ (List.Sublist.cons_cons _ (List.nil_sublist _)))
      rw [show ((j : Nat) : Int) + 1 = ((j + 1 : Nat) : Int) by omega]
      exact q_round ⟨j + 1, n, q3, a3, c3, a46, c46, cells ++ [I v.k, I v.n, .string (sb v.s), .slice va v.l.length vc], rs3 ++ rs⟩ ⟨j2, by show j + 1 + n = N; omega, i3.trans hz1, Nat.le_trans hq3 i4⟩ (Nat.lt_succ_self _) ⟨rfl, rfl, rfl, rfl, rfl, trivial⟩ (.cons _ (.refl _))
  · refine c_seq <| c_seq <| c_reg <| s_y y_fa <| s_y (y_ld (v := I x.toNat)) <| s_nil <| q_then <| c_block <| c_seq <| c_reg <| s_kf (y_eql (p := (x.toNat : Int)) (q := 1)) (by omega) <| s_y y_as <| s_nil <| q_then <| c_f <| c_seq <| c_reg <| s_kf (y_eql (p := (x.toNat : Int)) (q := 2)) (by omega) <| s_y y_as <| s_nil <| q_then <| c_f <| c_seq <| c_reg <| s_kf (y_eql (p := (x.toNat : Int)) (q := 3)) (by omega) <| s_y y_as <| s_nil <| q_then <| c_f <| c_reg <| s_y y_mv <| s_dies (fun w' hw => want_no w' _) <| q_pb <| q_pt <| ?_
    exact Eng.die fun w' hw => ⟨rfl, (sa a 1 c 1, q.length, c - 1), hw.sub (.cons _ (.refl _))⟩
end Go.Proofs.YtejdjnkilikehaaGreatDoor
end
section
namespace Cod
open Go Eng
theorem rdNum_inv : ∀ (q : List UInt8) (i u N : Nat) (q' : List UInt8), i ≤ 9 → rdNum i u q = some (N, q') → ∃ x, q = num x ++ q' ∧ N = u + x * 2 ^ (7 * i) ∧ (i = 0 ∨ 0 < x) ∧ x < 2 ^ (64 - 7 * i)
  | [], i, u, N, q', _, h => by simp [rdNum] at h
  | c :: q, i, u, N, q', hi, h => by
    have hcnd : (i = 0 ∨ c.toNat ≠ 0) ∧ (i < 9 ∨ c.toNat ≤ 1) := Classical.byContradiction fun hn => by rw [rdNum, if_neg hn] at h; cases h
    rw [rdNum, if_pos hcnd] at h
    obtain ⟨h1, h2⟩ := hcnd
    have hlt := c.toNat_lt
    by_cases h128 : c.toNat < 128
    · rw [if_pos h128] at h
      simp only [Option.some.injEq, Prod.mk.injEq] at h
      obtain ⟨rfl, rfl⟩ := h
      refine ⟨c.toNat, ?_, rfl, by omega, ?_⟩
      · rw [num, if_pos h128]
        have : UInt8.ofNat c.toNat = c := by simp
        rw [this]; rfl
      · rcases Nat.lt_or_ge i 9 with h9 | h9
        · have : 2 ^ (64 - 7 * 8) ≤ 2 ^ (64 - 7 * i) := Nat.pow_le_pow_right (by decide) (by omega)
          omega
        · obtain rfl : i = 9 := by omega
          have : c.toNat ≤ 1 := by omega
          show c.toNat < 2
          omega
    · rw [if_neg h128] at h
      have h9 : i < 9 := by omega
      obtain ⟨x, e1, e2, e3, e4⟩ := rdNum_inv q (i + 1) _ N q' (by omega) h
      have hx : 0 < x := by omega
      refine ⟨(c.toNat - 128) + 128 * x, ?_, ?_, by omega, ?_⟩
      · rw [num, if_neg (by omega), e1]
        have e5 : ((c.toNat - 128) + 128 * x) % 128 + 128 = c.toNat := by omega
        have e6 : ((c.toNat - 128) + 128 * x) / 128 = x := by omega
        rw [e5, e6]
        have : UInt8.ofNat c.toNat = c := by simp
        rw [this]; rfl
      · rw [e2, pw7, Nat.add_mul, Nat.mul_comm 128 x, Nat.mul_assoc, Nat.add_assoc]
      · have h5 : 2 ^ (64 - 7 * i) = 128 * 2 ^ (64 - 7 * (i + 1)) := by
          rw [show 64 - 7 * i = 7 + (64 - 7 * (i + 1)) by omega, Nat.pow_add]
        rw [h5]
        omega
theorem rdNum_inv0 {q q' : List UInt8} {N : Nat} (h : rdNum 0 0 q = some (N, q')) : q = num N ++ q' ∧ N < 18446744073709551616 := by
  obtain ⟨x, e1, e2, _, e4⟩ := rdNum_inv q 0 0 N q' (by decide) h
  obtain rfl : N = x := by simpa using e2
  exact ⟨e1, e4⟩
theorem rdLen_inv0 {q q' : List UInt8} {N : Nat} (h : rdLen q = some (N, q')) : q = num N ++ q' ∧ N ≤ q'.length := by
  obtain ⟨h1, h2⟩ := rdLen_inv h
  exact ⟨(rdNum_inv0 h1).1, h2⟩
theorem uns_sgn {u : Nat} : uns (sgn u) = u := by
  unfold sgn uns
  split <;> split <;> omega
theorem rdL_inv {g : List UInt8 → Option (V × List UInt8)} {f : Nat} (hg : ∀ q v q', g q = some (v, q') → q = v.enc ++ q' ∧ v.ok = true ∧ v.dep ≤ f) : ∀ (n : Nat) (q : List UInt8) (L : List V) (q' : List UInt8), rdL g n q = some (L, q') → q = encL L ++ q' ∧ okL L = true ∧ depL L ≤ f
  | 0, q, L, q', h => by
    simp only [rdL, Option.some.injEq, Prod.mk.injEq] at h
    obtain ⟨rfl, rfl⟩ := h
    exact ⟨by rw [encL]; rfl, by rw [okL], by rw [depL]; exact Nat.zero_le _⟩
  | n + 1, q, L, q', h => by
    have hl := rdL_length h
    cases L with
    | nil => simp at hl
    | cons v L =>
      obtain ⟨q2, h1, h2⟩ := rdL_cons h
      obtain ⟨a1, a2, a3⟩ := hg _ _ _ h1
      obtain ⟨b1, b2, b3⟩ := rdL_inv hg n _ _ _ h2
      refine ⟨by rw [a1, b1, encL, List.append_assoc], by rw [okL, a2, b2]; rfl, by rw [depL]; omega⟩
theorem rdVal_inv' (f : Nat) : ∀ (q : List UInt8) (v : V) (q' : List UInt8), rdVal f q = some (v, q') → q = v.enc ++ q' ∧ v.ok = true ∧ v.dep ≤ f := by
  induction f using Nat.strongRecOn with
  | ind f ih =>
    intro q v q' h
    cases q with
    | nil => cases f <;> simp [rdVal] at h
    | cons x q =>
      have hx : ∀ n : Nat, x.toNat = n → x = UInt8.ofNat n := fun n hn => by rw [← hn]; simp
      rcases rdVal_inv h with ⟨h1, u, h2, rfl⟩ | ⟨h1, N, q1, h2, rfl, rfl⟩ | ⟨h1, f', N, q1, L, rfl, h2, h3, rfl⟩
      · obtain ⟨e1, e2⟩ := rdNum_inv0 h2
        refine ⟨?_, by rw [V.ok]; simp, by rw [V.dep, if_neg (by decide)]; exact Nat.zero_le _⟩
        rw [V.enc, if_pos rfl, uns_sgn, e1, hx 1 h1]; rfl
      · obtain ⟨e1, e2⟩ := rdLen_inv0 h2
        refine ⟨?_, by rw [V.ok]; simp, by rw [V.dep, if_neg (by decide)]; exact Nat.zero_le _⟩
        rw [V.enc, if_neg (by decide), if_pos rfl, e1, hx 2 h1, List.length_take, Nat.min_eq_left e2]
        simp
      · obtain ⟨e1, e2⟩ := rdLen_inv0 h2
        obtain ⟨b1, b2, b3⟩ := rdL_inv (ih f' (by omega)) _ _ _ _ h3
        have hL := rdL_length h3
        refine ⟨?_, by rw [V.ok, b2]; simp, by rw [V.dep, if_pos rfl]; omega⟩
        rw [V.enc, if_neg (by decide), if_neg (by decide), e1, hx 3 h1, hL, b1]
        simp
end Cod
end
section
namespace Go.Proofs.YtejdjnkilikehaaGreatDoor
open Go Eng Cod
set_option maxRecDepth 100000
section
variable {n : Nat} {D : List Deferred} {W : World} {Bo : List Nat} {F : List (Nat × Value)} {l : SH} {d : Option Tmp} {ty : TypeId} {ps : String} {af : Array Edge} {g : Option (Nat × Bool)} {x y : Operand} {tb : TypeId} {T : TypeId} {v : Value}
theorem y_neqf (hx : evO F x = some (.iface T v) := by rfl) (hy : evO F y = some .nilIface := by rfl) : Y Tryz.prog n D W Bo ⟨d, .binOp .neq 20 x y tb, ty, ps, af, g⟩ F l (.bool true) :=
  .mk (by simp) fun a w ha _ => by simp only [execOp, ha.eval hx, ha.eval hy]; kernel_rfl
theorem y_taE (hx : evO F x = some (.iface 37 v) := by rfl) : Y Tryz.prog n D W Bo ⟨d, .typeAssert x 20 37 false, ty, ps, af, g⟩ F l v :=
  .mk (by simp) fun a w ha _ => by simp only [execOp, ha.eval hx]; kernel_rfl
end
abbrev bV (b : Nat) (cs : Array Value) : Res := .blk b (.cells cs 76 (0, 0))
abbrev bE (b : Nat) (z : Int) : Res := .blk b (.cells #[I z] 37 (0, 0))
theorem decode_caught (w : World) (b2 b3 : Nat) (k n : Int) (s : List UInt8) (a : Option Addr) (m c : Nat) (z : Int) (hp : ∀ p ∈ [bV b2 #[I k, I n, .string (sb s), .slice a m c], bE b3 z], p.holds w) (hnd : (keys [bV b2 #[I k, I n, .string (sb s), .slice a m c], bE b3 z]).Nodup) :
    GivesD Tryz.prog 145 [.pointer (some ⟨b2, 0, none⟩), .pointer (some ⟨b3, 0, none⟩)] (.panicking [{ v := codeE, recovered := false }]) w (keys [bV b2 #[I k, I n, .string (sb s), .slice a m c], bE b3 z]) (.panicking [{ v := codeE, recovered := true }]) [bV b2 #[I 0, I 0, .string (sb []), .slice none 0 0], bE b3 10] := by
  refine callsD_of_wpS Tryz.func145 rfl fun c₀ cs hu => ?_
  apply wpS_seq
  apply wpS_region
  simp [wpOpsS, go_sem, recoverD, hu, Tryz.ntmps145, Exit.thenS]
  refine wpS_of_wp ?_
  rw [← wpIn_wide (n := 0), ← Fw_none]
  refine (show CP none Tryz.prog 9 [] w (keys [bV b2 #[I k, I n, .string (sb s), .slice a m c], bE b3 z]) _ _ [(0, .pointer (some ⟨b2, 0, none⟩)), (1, .pointer (some ⟨b3, 0, none⟩)), (2, codeE)] [bV b2 #[I k, I n, .string (sb s), .slice a m c], bE b3 z] from ?_) _ _ ⟨?_, ?_, ?_⟩ (St.borrowL hp hnd)
  · refine c_seq <| c_reg <| s_y y_mv <| s_y y_neqf <| s_nil <| q_then <| c_t <| ?_
    refine c_regL [] <| r_y 0 rfl (y_bval (cs := [I 0, I 0, .string (sb []), .slice none 0 0])) <| r_y 1 rfl y_mv <| r_y 2 rfl y_taE <| r_W 3 rfl <| s_sta (b := b2) (vs := #[I 0, I 0, .string (sb []), .slice none 0 0]) (cs := #[I k, I n, .string (sb s), .slice a m c]) (h1 := by intro u hu; simp at hu; rcases hu with rfl | rfl | rfl <;> rfl) (hl := rfl) (hs1 := rfl) ?_
    refine r_K <| r_W 4 rfl <| s_st (b := b3) (v := I 10) (cs := #[I z]) (hl := Nat.zero_lt_one) ?_
    refine r_K <| r_E <| ?_
    intro a' w' ha hw
    exact ⟨ha.defers, _, rfl, .tuple #[], by rw [results_eq, show Tryz.f145.results = #[] from Tryz.results145]; simp, rfl, rfl, hw⟩
  · simp
  · simp
  · intro t v ht
    rcases t with _ | _ | _ | t
    · rw [← Option.some.inj (show some (Value.pointer (some ⟨b2, 0, none⟩)) = some v from ht)]; simp
    · rw [← Option.some.inj (show some (Value.pointer (some ⟨b3, 0, none⟩)) = some v from ht)]; simp
    · rw [← Option.some.inj (show some codeE = some v from ht)]; simp
    · cases (show (none : Option Value) = some v from ht)
theorem Decode_no (w : World) (a : Option Addr) (c : Nat) (q : List UInt8) (hr : Rd w a (bs q)) (hc : q.length ≤ c) (hm : c ≤ 9223372036854775807) (hq : q.length ≤ 2000000000000) (h : ∀ v, rdVal 16 q ≠ some (v, [])) :
    Pure Tryz.prog 70 [.slice a q.length c] w (.tuple #[.agg #[I 0, I 0, .string (sb []), .slice none 0 0], I 10]) := by
  refine enterD Tryz.func70 Tryz.ntmps70 ?_
  refine c_seq <| c_reg <| s_alloc fun b2 => s_alloc fun b3 => s_nil <| q_then <| c_seq <| c_reg <| s_y y_func <| s_deferC <| s_nil <| q_then <| ?_
  refine c_seq <| c_reg <| s_y y_mv <| s_y (y_blds (places := #[(0, 1)]) (cs := [.slice a q.length c]) Tryz.underlying140 (fun w => by kernel_rfl)) <| s_box rfl fun b8 => s_y y_as <| s_nil <| q_then <| ?_
  have fin : ∀ (F : List (Nat × Value)) (k n : Int) (s : List UInt8) (a' : Option Addr) (m c' : Nat) (l : SH), lkO F 2 = some (.pointer (some ⟨b2, 0, none⟩)) → lkO F 3 = some (.pointer (some ⟨b3, 0, none⟩)) →
      QP 20 [{ target := .fn (.func 145) [.pointer (some ⟨b2, 0, none⟩), .pointer (some ⟨b3, 0, none⟩)].toArray, args := #[] }] w [] (bodyPostD Tryz.prog Tryz.f70 fun e w' => e = .returned (.tuple #[.agg #[I 0, I 0, .string (sb []), .slice none 0 0], I 10]) ∧ St w [] w' []) (.panic [{ v := codeE, recovered := false }]) F (bV b2 #[I k, I n, .string (sb s), .slice a' m c'] :: bE b3 0 :: l) := fun F k n s a' m c' l h2 h3 =>
    leave_D (ps0 := [bV b2 #[I k, I n, .string (sb s), .slice a' m c'], bE b3 0]) (l2 := l) (lx := [bV b2 #[I 0, I 0, .string (sb []), .slice none 0 0], bE b3 10]) (m := .panicking [{ v := codeE, recovered := false }]) (m' := .panicking [{ v := codeE, recovered := true }]) (fun _ _ h => h) (by simp) rfl (.refl _)
      (fun w' hw => decode_caught w' b2 b3 k n s a' m c' 0 (fun p hp => (hw.own p (List.mem_append_left _ hp)).1) (by have := hw.nd; rw [keys_app, List.nodup_append] at this; exact this.1))
      Tryz.results70 (.cons (rv_ca (b := b2) (cs := #[I 0, I 0, .string (sb []), .slice none 0 0]) (h := h2) (hl := rfl)) (.cons (rv_cf (b := b3) (v := I 10) (h := h3)) .nil)) fun w' hw => ⟨rfl, hw.sub (List.nil_sublist _)⟩
  refine c_seq <| c_reg <| s_y y_mv <| ?_
  cases h1 : rdVal 16 q with
  | none =>
    refine s_diesB (b := b8) (fun w' hw => value_no 16 w' b8 a c q (Nat.le_refl _) ?_ hm hq h1 (hw.own _ (.head _)).1) (fun _ => .head _) fun x => q_pt <| ?_
    · by_cases hne : q = []
      · exact .inl hne
      · exact .inr ⟨hr.st hw, hc, hr.apart (fun h => hne (by cases q <;> simp_all [bs])) hw.new⟩
    · exact q_perm (l' := bV b2 #[I 0, I 0, .string (sb []), .slice none 0 0] :: bE b3 0 :: [.blk b8 (rdObj x)]) (List.reverse_perm [_, _, _]) (fin _ 0 0 [] none 0 0 _ rfl rfl)
  | some p =>
    obtain ⟨v, q'⟩ := p
    have hq' : q' ≠ [] := fun e => h v (e ▸ h1)
    have hl' : q'.length ≠ 0 := fun e => hq' (List.length_eq_zero_iff.1 e)
    have hne : bs q ≠ [] := by
      cases q with
      | nil => simp [rdVal] at h1
      | cons x q => exact List.cons_ne_nil _ _
    refine s_chg (b := b8) (fun w' hw => value_ok 16 w' b8 a c q v q' (Nat.le_refl _) ⟨hr.st hw, hc, hr.apart hne hw.new⟩ hm hq h1 (hw.own _ (.head _)).1) (fun _ => .head _) (fun z hz => s_perm (List.perm_append_comm_assoc [_, _, _] _ _) ?_)
    obtain ⟨a3, c3, va, vc, rs3⟩ := z
    obtain ⟨hz1, hz2⟩ := hz
    simp only at hz1 hz2
    refine s_sta (b := b2) (vs := #[I v.k, I v.n, .string (sb v.s), .slice va v.l.length vc]) (cs := #[I 0, I 0, .string (sb []), .slice none 0 0]) (h1 := by intro u hu; simp at hu; rcases hu with rfl | rfl | rfl | rfl <;> rfl) (hl := rfl) (hs1 := rfl) ?_
    refine s_nil <| q_then <| c_seq <| c_reg <| s_y y_mv <| s_y y_mv <| s_y y_nc <| s_y y_fa <| s_y (y_ld (v := .slice a3 q'.length c3)) <| s_y y_len <| s_kf (y_eql (p := ((q'.length : Nat) : Int)) (q := 0)) (by omega) <| s_dies (fun w' hw => want_no w' _) <| q_pt <| ?_
    exact q_perm (l' := bV b2 #[I v.k, I v.n, .string (sb v.s), .slice va v.l.length vc] :: bE b3 0 :: (rblk b8 a3 q'.length c3 :: (rs3 ++ []))) ((List.reverse_perm [_, _, _]).append_right _) (fin _ v.k v.n v.s va v.l.length vc _ rfl rfl)
end Go.Proofs.YtejdjnkilikehaaGreatDoor
end
section
namespace Eng
open Go Go.RowKit
end Eng
namespace Go.Proofs.YtejdjnkilikehaaGreatDoor
open Go Eng Cod
set_option maxRecDepth 100000
structure LSr where
  j : Nat
  dn : List V
  At : Nat
  bd : Bool
  la : Option Addr
  lc : Nat
  cells : List Value
  rs : SH
structure RVl where
  v : V
  va : Option Addr
  vc : Nat
  At : Nat
  bd : Bool
  rs : SH
end Go.Proofs.YtejdjnkilikehaaGreatDoor
end
section
namespace Go.Proofs.YtejdjnkilikehaaGreatDoor
open Go Eng Cod
set_option maxRecDepth 100000
end Go.Proofs.YtejdjnkilikehaaGreatDoor
end
section
namespace Eng
open Go Go.RowKit
theorem y_fld {P : Program} {n : Nat} {D : List Deferred} {W : World} {Bo : List Nat} {F : List (Nat × Value)} {l : SH} {d : Option Tmp} {ty : TypeId} {ps : String} {af : Array Edge} {g : Option (Nat × Bool)} {x : Operand} {v : Value} {t : TypeId}
    {k ft off : Nat} [hu : HD P t k ft off] [hf : HT P ft true] {by' : Nat} [hs : HS P ft 1 by'] {cs : Array Value} (hx : evO F x = some (.agg cs) := by rfl) (hv : cs[off]? = some v := by rfl) :
    Y P n D W Bo ⟨d, .field t x k, ty, ps, af, g⟩ F l v :=
  .mk (by simp) fun a w ha _ => by
    obtain ⟨fs, f, h1, h2, rfl, rfl⟩ := hu.h
    simp [execOp, ha.eval hx, Instr.field, run_underlying h1, h2, asAgg, run_part1 hv]
end Eng
namespace Go.Proofs.YtejdjnkilikehaaGreatDoor
open Go Eng Gf Sha Sig Wr Cod Cha Itm
set_option maxRecDepth 100000
theorem hgd : (Tryz.prog).eqGuardType (Tryz.prog).depth 23 = false := by kernel_rfl
/-- what lies in the variables of packages -/
structure LG (w : World) : Prop where
  ls : LS w
  ld : LD w
  lc : LC w
theorem LG.st {W w : World} {l : SH} (h : LG W) (hs : St W [] w l) : LG w := ⟨h.ls.st hs, h.ld.st hs, h.lc.st hs⟩
theorem fcells_one1 (l : List V) : ∀ v ∈ fcells l, v.oneCell' = true := by
  intro v hv
  unfold fcells at hv
  obtain ⟨x, _, h⟩ := List.mem_flatMap.1 hv
  unfold fcell at h
  simp only [List.mem_cons, List.not_mem_nil, or_false] at h
  rcases h with rfl | rfl | rfl | rfl <;> rfl
/-- bytes that lie somewhere in a row -/
structure OX where
  a : Option Addr
  c : Nat
  ra : Option Addr
  rc : Nat
  p : List UInt8
def OX.row (x : OX) : Res := .row x.ra x.rc 5 1 x.p.length (bs x.p)
structure OX.ok (x : OX) (q : List UInt8) : Prop where
  rd : ∀ w, x.row.holds w → Rd w x.a (bs q)
  le : q.length ≤ x.c
abbrev GivesO (k : FuncId) (args : List Value) (w : World) (q : List UInt8) (e : Int) : Prop :=
  Gives Tryz.prog k args w [] (fun x : OX => .tuple #[.slice x.a q.length x.c, I e]) (fun x => [x.row]) (fun x => x.ok q)
def OX.nil : OX := ⟨none, 0, none, 0, []⟩
theorem OX.nil_ok : OX.nil.ok [] := ⟨fun _ _ => Rd.nil _ _, Nat.le_refl _⟩
theorem St.nilO {W w : World} {l : SH} (hw : St W [] w l) : St W [] w [OX.nil.row] := (hw.nilRow _ _).sub (.cons_cons _ (List.nil_sublist _))
theorem opB_len {k h c : List UInt8} (hc : c.length ≤ 70000) : (opB k z12 h c).length ≤ 70000 := by
  unfold opB
  split
  · rw [strm_length, List.length_take]; omega
  · simp
theorem rd0 {W w : World} {Bo : List Nat} {l : SH} {b : Nat} {xs : List Value} {t : TypeId} (hw : St W Bo w l) (hm : Res.blk b (.cells xs.toArray t (0, 0)) ∈ l) : Rd w (some ⟨b, 0, none⟩) xs :=
  rdB hm (fun j v h => by rw [Nat.zero_add, List.getElem?_toArray]; exact h) w hw
theorem Open1_ok (w : World) (b2 b3 : Nat) (i : It) (s : Value) (km ks : List UInt8) (hg : LG w) (h : i.Wf) (hkm : km.length = 32) (hks : ks.length = 32) (hr2 : Rd w (some ⟨b2, 0, none⟩) (bs km ++ bs ks)) (hr3 : Rd w (some ⟨b3, 0, none⟩) (itC i s)) :
    Pure Tryz.prog 57 [.pointer (some ⟨b2, 0, none⟩), .pointer (some ⟨b3, 0, none⟩)] w (.tuple #[.agg (bs (ckey ks i.dv i.ct)).toArray, I 0]) := by
  have e1 : (itC i s)[0 + 33]? = some (I i.dv) := by have := it_dv (i := i) (s := s) h.cm; rwa [List.getElem?_toArray] at this
  have e2 : (itC i s)[0 + 34]? = some (I i.ct) := by have := it_ct (i := i) (s := s) h.cm; rwa [List.getElem?_toArray] at this
  refine enter Tryz.func57 Tryz.ntmps57 ?_
  refine c_seq <| c_reg <| s_alloc fun b4 => s_y y_as <| s_nil <| q_then <| c_seq <| c_reg <| s_y y_fa <| s_y (y_ldra (a := some ⟨b2, 0, none⟩) (i := 0 + 32) (xs := bs km ++ bs ks) (cs := bs ks) (rdW0 hr2) (by rw [bs_length, hks]) (fun j v hj => by rw [List.getElem?_append_right (by rw [bs_length]; omega), bs_length, hkm, show 0 + 32 + j - 32 = j by omega]; exact hj)) <| s_y y_fa <| s_y (y_ldr (a := some ⟨b3, 0, none⟩) (i := 0 + 33) (xs := itC i s) (v := I i.dv) e1 (hr := rdW0 hr3)) <| s_y y_fa <| s_y (y_ldr (a := some ⟨b3, 0, none⟩) (i := 0 + 34) (xs := itC i s) (v := I i.ct) e2 (hr := rdW0 hr3)) <| ?_
  refine s_pure (fun w' hw => sch_Content_ok w' ks i.dv i.ct (hg.ls.st hw) hks h.dv h.ct) <| s_sta (b := b4) (vs := (bs (ckey ks i.dv i.ct)).toArray) (cs := (bs (List.replicate 32 0)).toArray) (h1 := fun v hv => bs_one (by simpa using hv)) (hl := (hz32 (expand_length _ _ _)).trans (hz32 List.length_replicate).symm) (hs1 := (hz32 (expand_length _ _ _))) ?_
  refine s_y y_as <| s_nil <| q_then <| c_ret <| ?_
  exact ret2 Tryz.results57 (rv_ca (b := b4) (cs := (bs (ckey ks i.dv i.ct)).toArray) (hl := (hz32 (expand_length _ _ _)))) rv_t fun w' hw => ⟨rfl, hw.sub (List.nil_sublist _)⟩
theorem Via1_ok (w : World) (b3 b4 : Nat) (x a b : Int) (p : List UInt8) (hg : LG w) (hp : p.length = 32) (hr3 : Rd w (some ⟨b3, 0, none⟩) [I x]) (hr4 : Rd w (some ⟨b4, 0, none⟩) (I a :: I b :: bs p)) :
    Pure Tryz.prog 60 [.pointer (some ⟨b3, 0, none⟩), .pointer (some ⟨b4, 0, none⟩)] w (.tuple #[.agg (bs (opK x a b p)).toArray, I (Go.Proofs.YtejdjnkilikehaaGreatDoor.opE x a b)]) := by
  have hl : (opK x a b p).length = 32 := opK_length x a b hp
  refine enter Tryz.func60 Tryz.ntmps60 ?_
  refine c_seq <| c_reg <| s_alloc fun b2 => s_y y_as <| s_nil <| q_then <| c_seq <| c_reg <| s_y (y_ldr (a := some ⟨b3, 0, none⟩) (i := 0) (xs := [I x]) (v := I x) rfl (hr := rdW0 hr3)) <| s_y (y_ldra (a := some ⟨b4, 0, none⟩) (i := 0) (xs := I a :: I b :: bs p) (cs := I a :: I b :: bs p) (rdW0 hr4) (by simp [bs_length, hp]) (fun j v h => by rw [Nat.zero_add]; exact h)) <| s_pure (fun w' hw => Open_ok w' x a b p hp (hg.ls.st hw)) <| s_y y_ext <| s_y y_ext <| s_sta (b := b2) (vs := (bs (opK x a b p)).toArray) (cs := (bs (List.replicate 32 0)).toArray) (h1 := fun v hv => bs_one (by simpa using hv)) (hl := (hz32 hl).trans (hz32 List.length_replicate).symm) (hs1 := (hz32 hl)) ?_
  refine s_y y_as <| s_nil <| q_then <| c_ret <| ?_
  exact ret2 Tryz.results60 (rv_ca (b := b2) (cs := (bs (opK x a b p)).toArray) (hl := (hz32 hl))) rv_t fun w' hw => ⟨rfl, hw.sub (List.nil_sublist _)⟩
theorem open_e (w : World) (i : It) (a : Option Addr) (c : Nat) {kf : FuncId} [HF Tryz.prog kf] (cs : List Value) (k : List UInt8) (e : Int) (hkl : k.length = 32) (hk : ∀ w', St w [] w' [] → Pure Tryz.prog kf cs w' (.tuple #[.agg (bs k).toArray, I e])) (hcc : i.bd.length ≤ c) (h : i.Wf) (hg : LG w) (hr : Rd w a (bs i.bd)) (hb : i.bd.length ≤ 70000) (he : ¬ e = 0) : GivesO 56 [itV i (.slice a i.bd.length c), .func (.func kf) #[] cs.toArray] w [] e := by
  obtain ⟨hc, hp⟩ : i.cm.length = 32 ∧ i.pd.length = 32 := ⟨h.cm, h.pd⟩
  have hhl := head_len h
  refine enter Tryz.func56 Tryz.ntmps56 ?_
  refine c_seq <| c_reg <| s_box rfl fun b2 => s_y y_as <| s_y y_as <| s_nil <| q_then <| c_seq <| c_reg <| s_y y_mv <| s_pure (fun w' hw => hk w' (hw.sub (List.nil_sublist _))) <| s_y y_mv <| s_y y_ext <| s_y y_ext <| s_alloc fun b6 => s_sta (b := b6) (vs := (bs k).toArray) (cs := (bs (List.replicate 32 0)).toArray) (h1 := fun v hv => bs_one (by simpa using hv)) (hl := ((hz32 hkl)).trans ((hz32 List.length_replicate)).symm) (hs1 := (hz32 hkl)) ?_
  refine s_y y_as <| s_nil <| q_then <| c_seq <| c_seq <| c_reg <| s_y y_mv <| s_nt (y_neq (p := e) (q := 0)) he <| s_nil <| q_then <| c_t <| c_seq <| c_reg <| s_y y_mv <| s_y y_as <| s_y y_as <| s_nil <| q_then <| c_ret <| q_ret <| ?_
  exact ret2 Tryz.results56 rv_t rv_t fun w' hw => ⟨OX.nil, OX.nil_ok, rfl, St.nilO hw⟩
theorem open_n (w : World) (i : It) (a : Option Addr) (c : Nat) {kf : FuncId} [HF Tryz.prog kf] (cs : List Value) (k : List UInt8) (hkl : k.length = 32) (hk : ∀ w', St w [] w' [] → Pure Tryz.prog kf cs w' (.tuple #[.agg (bs k).toArray, I 0])) (hcc : i.bd.length ≤ c) (h : i.Wf) (hg : LG w) (hr : Rd w a (bs i.bd)) (hb : i.bd.length ≤ 70000) (ho : opOk k z12 i.head i.bd = false) : GivesO 56 [itV i (.slice a i.bd.length c), .func (.func kf) #[] cs.toArray] w [] 60 := by
  obtain ⟨hc, hp⟩ : i.cm.length = 32 ∧ i.pd.length = 32 := ⟨h.cm, h.pd⟩
  have hhl := head_len h
  refine enter Tryz.func56 Tryz.ntmps56 ?_
  refine c_seq <| c_reg <| s_box rfl fun b2 => s_y y_as <| s_y y_as <| s_nil <| q_then <| c_seq <| c_reg <| s_y y_mv <| s_pure (fun w' hw => hk w' (hw.sub (List.nil_sublist _))) <| s_y y_mv <| s_y y_ext <| s_y y_ext <| s_alloc fun b6 => s_sta (b := b6) (vs := (bs k).toArray) (cs := (bs (List.replicate 32 0)).toArray) (h1 := fun v hv => bs_one (by simpa using hv)) (hl := ((hz32 hkl)).trans ((hz32 List.length_replicate)).symm) (hs1 := (hz32 hkl)) ?_
  refine s_y y_as <| s_nil <| q_then <| c_seq <| c_seq <| c_reg <| s_y y_mv <| s_nf (y_neq (p := 0) (q := 0)) (by omega) <| s_nil <| q_then <| c_f <| c_skip <| q_then <| c_seq <| c_regL [.blk b6 (.cells (bs k).toArray 24 (0, 0)), .blk b2 (.cells (itC i (.slice a i.bd.length c)).toArray 83 (0, 0))] <| r_y 0 rfl (y_lda (b := b6) (cs := (bs k).toArray) (hl := (hz32 hkl))) <| r_y 1 rfl (y_blda (cs := bs (List.replicate 12 0))) <| r_y 2 rfl (y_lda (b := b2) (cs := (itC i (.slice a i.bd.length c)).toArray) (hl := it_size hc hp)) <| r_y 4 rfl y_fa <| r_y 5 rfl y_fa <| r_y 6 rfl (y_ld (b := b2) (v := .slice a i.bd.length c) (hv := it_bd hc hp)) <| r_W 3 rfl <| s_gives (fun w' hw => head_ok w' i a c h) fun x20 _ => r_K <| r_W 7 rfl <| s_pure (fun w' hw => c_Open_no w' x20.1 a x20.2 c k z12 i.head i.bd hkl List.length_replicate (rdR (.head _) w' hw) (by omega) (hg.lc.st hw) (hr.st hw) (by omega) hcc ho) <| r_K <| r_y 8 rfl y_mv <| r_y 9 rfl y_ext <| r_y 10 rfl y_ext <| r_y 11 rfl y_as <| r_y 12 rfl y_as <| r_E <| q_then <| c_seq <| c_seq <| c_reg <| s_y y_mv <| s_nt (y_neq (p := 60) (q := 0)) (by omega) <| s_nil <| q_then <| c_t <| c_seq <| c_reg <| s_y y_mv <| s_y y_as <| s_y y_as <| s_nil <| q_then <| c_ret <| q_ret <| ?_
  exact ret2 Tryz.results56 rv_t rv_t fun w' hw => ⟨OX.nil, OX.nil_ok, rfl, St.nilO hw⟩
theorem open_y (w : World) (i : It) (a : Option Addr) (c : Nat) {kf : FuncId} [HF Tryz.prog kf] (cs : List Value) (k : List UInt8) (hkl : k.length = 32) (hk : ∀ w', St w [] w' [] → Pure Tryz.prog kf cs w' (.tuple #[.agg (bs k).toArray, I 0])) (hcc : i.bd.length ≤ c) (h : i.Wf) (hg : LG w) (hr : Rd w a (bs i.bd)) (hb : i.bd.length ≤ 70000) (ho : opOk k z12 i.head i.bd = true) : GivesO 56 [itV i (.slice a i.bd.length c), .func (.func kf) #[] cs.toArray] w (unpad (opB k z12 i.head i.bd)) (unpE (opB k z12 i.head i.bd)) := by
  obtain ⟨hc, hp⟩ : i.cm.length = 32 ∧ i.pd.length = 32 := ⟨h.cm, h.pd⟩
  have hhl := head_len h
  have hol := opB_len (k := k) (h := i.head) hb
  refine enter Tryz.func56 Tryz.ntmps56 ?_
  refine c_seq <| c_reg <| s_box rfl fun b2 => s_y y_as <| s_y y_as <| s_nil <| q_then <| c_seq <| c_reg <| s_y y_mv <| s_pure (fun w' hw => hk w' (hw.sub (List.nil_sublist _))) <| s_y y_mv <| s_y y_ext <| s_y y_ext <| s_alloc fun b6 => s_sta (b := b6) (vs := (bs k).toArray) (cs := (bs (List.replicate 32 0)).toArray) (h1 := fun v hv => bs_one (by simpa using hv)) (hl := ((hz32 hkl)).trans ((hz32 List.length_replicate)).symm) (hs1 := (hz32 hkl)) ?_
  refine s_y y_as <| s_nil <| q_then <| c_seq <| c_seq <| c_reg <| s_y y_mv <| s_nf (y_neq (p := 0) (q := 0)) (by omega) <| s_nil <| q_then <| c_f <| c_skip <| q_then <| c_seq <| c_regL [.blk b6 (.cells (bs k).toArray 24 (0, 0)), .blk b2 (.cells (itC i (.slice a i.bd.length c)).toArray 83 (0, 0))] <| r_y 0 rfl (y_lda (b := b6) (cs := (bs k).toArray) (hl := (hz32 hkl))) <| r_y 1 rfl (y_blda (cs := bs (List.replicate 12 0))) <| r_y 2 rfl (y_lda (b := b2) (cs := (itC i (.slice a i.bd.length c)).toArray) (hl := it_size hc hp)) <| r_y 4 rfl y_fa <| r_y 5 rfl y_fa <| r_y 6 rfl (y_ld (b := b2) (v := .slice a i.bd.length c) (hv := it_bd hc hp)) <| r_W 3 rfl <| s_gives (fun w' hw => head_ok w' i a c h) fun x20 _ => r_K <| r_W 7 rfl <| s_gives (fun w' hw => c_Open_yes w' x20.1 a x20.2 c k z12 i.head i.bd hkl List.length_replicate (rdR (.head _) w' hw) (by omega) (hg.lc.st hw) (hr.st hw) hcc ho) fun x24 _ => r_K <| r_y 8 rfl y_mv <| r_y 9 rfl y_ext <| r_y 10 rfl y_ext <| r_y 11 rfl y_as <| r_y 12 rfl y_as <| r_E <| q_then <| c_seq <| c_seq <| c_reg <| s_y y_mv <| s_nf (y_neq (p := 0) (q := 0)) (by omega) <| s_nil <| q_then <| c_f <| c_skip <| q_then <| c_seq <| c_reg <| s_y y_mv <| s_pure (fun w' hw => padding_Unpad_ok w' x24.1 x24.2 (opB k z12 i.head i.bd) (hg.ld.st hw) (rdR (.head _) w' hw) (by omega) (row_fact hw (.head _)).1) <| s_y y_ext <| s_y y_ext <| s_y y_as <| s_y y_as <| s_nil <| q_then <| c_ret <| ?_
  exact ret2 Tryz.results56 rv_t rv_t fun w' hw => ⟨⟨unpA (opB k z12 i.head i.bd) x24.1, _, x24.1, x24.2, opB k z12 i.head i.bd⟩, ⟨fun w2 h2 => unpad_rd (Res.rd h2), Nat.le_refl _⟩, rfl, hw.sub (.cons_cons _ (List.nil_sublist _))⟩
theorem open_ok (w : World) (i : It) (a : Option Addr) (c : Nat) {kf : FuncId} [HF Tryz.prog kf] (cs : List Value) (k : List UInt8) (hkl : k.length = 32) (hk : ∀ w', St w [] w' [] → Pure Tryz.prog kf cs w' (.tuple #[.agg (bs k).toArray, I 0])) (hcc : i.bd.length ≤ c) (h : i.Wf) (hg : LG w) (hr : Rd w a (bs i.bd)) (hb : i.bd.length ≤ 70000) : GivesO 56 [itV i (.slice a i.bd.length c), .func (.func kf) #[] cs.toArray] w (i.opnB k) (i.opnE k) := by
  unfold It.opnB It.opnE
  cases ho : opOk k z12 i.head i.bd with
  | false => exact open_n w i a c cs k hkl hk hcc h hg hr hb ho
  | true => exact open_y w i a c cs k hkl hk hcc h hg hr hb ho
theorem Open_n1 (w : World) (i : It) (a : Option Addr) (c : Nat) (km ks : List UInt8) (hkm : km.length = 32) (hks : ks.length = 32) (hcc : i.bd.length ≤ c) (h : i.Wf) (hg : LG w) (hr : Rd w a (bs i.bd)) (hb : i.bd.length ≤ 70000) (hv : i.vld = false) : GivesO 17 [.agg (bs km ++ bs ks).toArray, itV i (.slice a i.bd.length c)] w [] 290 := by
  obtain ⟨hc, hp⟩ : i.cm.length = 32 ∧ i.pd.length = 32 := ⟨h.cm, h.pd⟩
  have hhl := head_len h
  refine enter Tryz.func17 Tryz.ntmps17 ?_
  refine c_seq <| c_reg <| s_box rfl fun b2 => s_box rfl fun b3 => s_y y_as <| s_y y_as <| s_nil <| q_then <| c_seq <| c_reg <| s_y (y_lda (b := b3) (cs := (itC i (.slice a i.bd.length c)).toArray) (hl := it_size hc hp)) <| s_y (y_bsealed hc hp) <| s_allocC (cs := (itC it0 (.slice none 0 0)).toArray) (by kernel_rfl) fun b6 => s_sta (b := b6) (vs := (itC i (.slice a i.bd.length c)).toArray) (cs := (itC it0 (.slice none 0 0)).toArray) (h1 := it_one) (hl := (it_size hc hp).trans (it_size rfl rfl).symm) (hs1 := it_size hc hp) ?_
  refine s_nil <| q_then <| c_seq <| c_seq <| c_reg <| s_y (y_lda (b := b6) (cs := (itC i (.slice a i.bd.length c)).toArray) (hl := it_size hc hp)) <| s_pure (fun w' hw => (by have h9 := valid_ok w' i a c hc hp (hg.ld.st hw) hb; rw [hv] at h9; exact h9)) <| s_y (v := .bool true) (y_not (b := false)) <| s_y y_mv <| s_no <| s_no <| s_no <| s_no <| s_no <| s_y y_pk <| s_nil <| q_then <| c_t <| c_seq <| c_reg <| s_y y_as <| s_y y_as <| s_nil <| q_then <| c_ret <| q_ret <| ?_
  exact ret2 Tryz.results17 rv_t rv_t fun w' hw => ⟨OX.nil, OX.nil_ok, rfl, St.nilO hw⟩
theorem Open_n2 (w : World) (i : It) (a : Option Addr) (c : Nat) (km ks : List UInt8) (hkm : km.length = 32) (hks : ks.length = 32) (hcc : i.bd.length ≤ c) (h : i.Wf) (hg : LG w) (hr : Rd w a (bs i.bd)) (hb : i.bd.length ≤ 70000) (hv : i.vld = true) (hm : ¬ i.cm = km) : GivesO 17 [.agg (bs km ++ bs ks).toArray, itV i (.slice a i.bd.length c)] w [] 290 := by
  obtain ⟨hc, hp⟩ : i.cm.length = 32 ∧ i.pd.length = 32 := ⟨h.cm, h.pd⟩
  have hhl := head_len h
  refine enter Tryz.func17 Tryz.ntmps17 ?_
  refine c_seq <| c_reg <| s_box rfl fun b2 => s_box rfl fun b3 => s_y y_as <| s_y y_as <| s_nil <| q_then <| c_seq <| c_reg <| s_y (y_lda (b := b3) (cs := (itC i (.slice a i.bd.length c)).toArray) (hl := it_size hc hp)) <| s_y (y_bsealed hc hp) <| s_allocC (cs := (itC it0 (.slice none 0 0)).toArray) (by kernel_rfl) fun b6 => s_sta (b := b6) (vs := (itC i (.slice a i.bd.length c)).toArray) (cs := (itC it0 (.slice none 0 0)).toArray) (h1 := it_one) (hl := (it_size hc hp).trans (it_size rfl rfl).symm) (hs1 := it_size hc hp) ?_
  refine s_nil <| q_then <| c_seq <| c_seq <| c_reg <| s_y (y_lda (b := b6) (cs := (itC i (.slice a i.bd.length c)).toArray) (hl := it_size hc hp)) <| s_pure (fun w' hw => (by have h9 := valid_ok w' i a c hc hp (hg.ld.st hw) hb; rw [hv] at h9; exact h9)) <| s_y (v := .bool false) (y_not (b := true)) <| s_y y_mv <| s_y y_fa <| s_y (y_ldin (b := b3) (off := 1) (cs := (itC i (.slice a i.bd.length c)).toArray) (ys := bs i.cm) (hl := (by rw [bs_length, hc])) (hv := it_cm)) <| s_y y_fa <| s_y (y_ldin (b := b2) (off := 0 + 0) (cs := (bs km ++ bs ks).toArray) (ys := bs km) (hl := by rw [bs_length, hkm]) (hv := (fun j v h => by rw [List.getElem?_toArray, Nat.add_assoc, Nat.zero_add, Nat.zero_add]; exact pre_at h))) <| s_nt (y_neqa (p := i.cm) (q := km) hc hkm hgd) hm <| s_y y_pk <| s_nil <| q_then <| c_t <| c_seq <| c_reg <| s_y y_as <| s_y y_as <| s_nil <| q_then <| c_ret <| q_ret <| ?_
  exact ret2 Tryz.results17 rv_t rv_t fun w' hw => ⟨OX.nil, OX.nil_ok, rfl, St.nilO hw⟩
theorem Open_y (w : World) (i : It) (a : Option Addr) (c : Nat) (km ks : List UInt8) (hkm : km.length = 32) (hks : ks.length = 32) (hcc : i.bd.length ≤ c) (h : i.Wf) (hg : LG w) (hr : Rd w a (bs i.bd)) (hb : i.bd.length ≤ 70000) (hv : i.vld = true) (hm : i.cm = km) : GivesO 17 [.agg (bs km ++ bs ks).toArray, itV i (.slice a i.bd.length c)] w (i.opnB (ckey ks i.dv i.ct)) (i.opnE (ckey ks i.dv i.ct)) := by
  obtain ⟨hc, hp⟩ : i.cm.length = 32 ∧ i.pd.length = 32 := ⟨h.cm, h.pd⟩
  have hhl := head_len h
  refine enter Tryz.func17 Tryz.ntmps17 ?_
  refine c_seq <| c_reg <| s_box rfl fun b2 => s_box rfl fun b3 => s_y y_as <| s_y y_as <| s_nil <| q_then <| c_seq <| c_reg <| s_y (y_lda (b := b3) (cs := (itC i (.slice a i.bd.length c)).toArray) (hl := it_size hc hp)) <| s_y (y_bsealed hc hp) <| s_allocC (cs := (itC it0 (.slice none 0 0)).toArray) (by kernel_rfl) fun b6 => s_sta (b := b6) (vs := (itC i (.slice a i.bd.length c)).toArray) (cs := (itC it0 (.slice none 0 0)).toArray) (h1 := it_one) (hl := (it_size hc hp).trans (it_size rfl rfl).symm) (hs1 := it_size hc hp) ?_
  refine s_nil <| q_then <| c_seq <| c_seq <| c_reg <| s_y (y_lda (b := b6) (cs := (itC i (.slice a i.bd.length c)).toArray) (hl := it_size hc hp)) <| s_pure (fun w' hw => (by have h9 := valid_ok w' i a c hc hp (hg.ld.st hw) hb; rw [hv] at h9; exact h9)) <| s_y (v := .bool false) (y_not (b := true)) <| s_y y_mv <| s_y y_fa <| s_y (y_ldin (b := b3) (off := 1) (cs := (itC i (.slice a i.bd.length c)).toArray) (ys := bs i.cm) (hl := (by rw [bs_length, hc])) (hv := it_cm)) <| s_y y_fa <| s_y (y_ldin (b := b2) (off := 0 + 0) (cs := (bs km ++ bs ks).toArray) (ys := bs km) (hl := by rw [bs_length, hkm]) (hv := (fun j v h => by rw [List.getElem?_toArray, Nat.add_assoc, Nat.zero_add, Nat.zero_add]; exact pre_at h))) <| s_nf (y_neqa (p := i.cm) (q := km) hc hkm hgd) hm <| s_y y_pk <| s_nil <| q_then <| c_f <| c_skip <| q_then <| c_seq <| c_reg <| s_y (y_lda (b := b6) (cs := (itC i (.slice a i.bd.length c)).toArray) (hl := it_size hc hp)) <| s_y y_func <| s_gives (fun w' hw => open_ok w' i a c (kf := 57) [.pointer (some ⟨b2, 0, none⟩), .pointer (some ⟨b3, 0, none⟩)] (ckey ks i.dv i.ct) (expand_length _ _ _) (fun w2 h2 => Open1_ok w2 b2 b3 i (.slice a i.bd.length c) km ks ((hg.st hw).st h2) h hkm hks ((rd0 hw (.tail _ (.tail _ (.head _)))).st h2) ((rd0 hw (.tail _ (.head _))).st h2)) hcc h (hg.st hw) (hr.st hw) hb) fun x21 hx => s_y y_ext <| s_y y_ext <| s_y y_as <| s_y y_as <| s_nil <| q_then <| c_ret <| ?_
  exact ret2 Tryz.results17 rv_t rv_t fun w' hw => ⟨x21, hx, rfl, hw.sub (.cons_cons _ (List.nil_sublist _))⟩
theorem Open_ok' (w : World) (i : It) (a : Option Addr) (c : Nat) (km ks : List UInt8) (hkm : km.length = 32) (hks : ks.length = 32) (hcc : i.bd.length ≤ c) (h : i.Wf) (hg : LG w) (hr : Rd w a (bs i.bd)) (hb : i.bd.length ≤ 70000) : GivesO 17 [.agg (bs km ++ bs ks).toArray, itV i (.slice a i.bd.length c)] w (i.openB km ks) (i.openE km ks) := by
  unfold It.openB It.openE
  cases hv : i.vld with
  | false =>
    rw [if_neg (by simp), if_neg (by simp)]
    exact Open_n1 w i a c km ks hkm hks hcc h hg hr hb hv
  | true =>
    by_cases hm : i.cm = km
    · rw [if_pos ⟨rfl, hm⟩, if_pos ⟨rfl, hm⟩]
      exact Open_y w i a c km ks hkm hks hcc h hg hr hb hv hm
    · rw [if_neg (fun e => hm e.2), if_neg (fun e => hm e.2)]
      exact Open_n2 w i a c km ks hkm hks hcc h hg hr hb hv hm
theorem Via_n1 (w : World) (i : It) (a : Option Addr) (c : Nat) (x ca cb : Int) (cp : List UInt8) (hcp : cp.length = 32) (hcc : i.bd.length ≤ c) (h : i.Wf) (hg : LG w) (hr : Rd w a (bs i.bd)) (hb : i.bd.length ≤ 70000) (hv : i.vld = false) : GivesO 19 [I x, .agg (I ca :: I cb :: bs cp).toArray, itV i (.slice a i.bd.length c)] w [] 290 := by
  obtain ⟨hc, hp⟩ : i.cm.length = 32 ∧ i.pd.length = 32 := ⟨h.cm, h.pd⟩
  have hhl := head_len h
  refine enter Tryz.func19 Tryz.ntmps19 ?_
  refine c_seq <| c_reg <| s_box rfl fun b3 => s_box rfl fun b4 => s_box rfl fun b5 => s_y y_as <| s_y y_as <| s_nil <| q_then <| c_seq <| c_reg <| s_y (y_lda (b := b5) (cs := (itC i (.slice a i.bd.length c)).toArray) (hl := it_size hc hp)) <| s_y (y_bsealed hc hp) <| s_allocC (cs := (itC it0 (.slice none 0 0)).toArray) (by kernel_rfl) fun b8 => s_sta (b := b8) (vs := (itC i (.slice a i.bd.length c)).toArray) (cs := (itC it0 (.slice none 0 0)).toArray) (h1 := it_one) (hl := (it_size hc hp).trans (it_size rfl rfl).symm) (hs1 := it_size hc hp) ?_
  refine s_nil <| q_then <| c_seq <| c_seq <| c_reg <| s_y (y_lda (b := b8) (cs := (itC i (.slice a i.bd.length c)).toArray) (hl := it_size hc hp)) <| s_pure (fun w' hw => (by have h9 := valid_ok w' i a c hc hp (hg.ld.st hw) hb; rw [hv] at h9; exact h9)) <| s_y (v := .bool true) (y_not (b := false)) <| s_y y_mv <| s_no <| s_no <| s_no <| s_no <| s_no <| s_no <| s_y y_pk <| s_y y_mv <| s_no <| s_no <| s_no <| s_no <| s_no <| s_no <| s_y y_pk <| s_nil <| q_then <| c_t <| c_seq <| c_reg <| s_y y_as <| s_y y_as <| s_nil <| q_then <| c_ret <| q_ret <| ?_
  exact ret2 Tryz.results19 rv_t rv_t fun w' hw => ⟨OX.nil, OX.nil_ok, rfl, St.nilO hw⟩
theorem Via_n2 (w : World) (i : It) (a : Option Addr) (c : Nat) (x ca cb : Int) (cp : List UInt8) (hcp : cp.length = 32) (hcc : i.bd.length ≤ c) (h : i.Wf) (hg : LG w) (hr : Rd w a (bs i.bd)) (hb : i.bd.length ≤ 70000) (hv : i.vld = true) (hm : ¬ cb = i.cB) : GivesO 19 [I x, .agg (I ca :: I cb :: bs cp).toArray, itV i (.slice a i.bd.length c)] w [] 290 := by
  obtain ⟨hc, hp⟩ : i.cm.length = 32 ∧ i.pd.length = 32 := ⟨h.cm, h.pd⟩
  have hhl := head_len h
  refine enter Tryz.func19 Tryz.ntmps19 ?_
  refine c_seq <| c_reg <| s_box rfl fun b3 => s_box rfl fun b4 => s_box rfl fun b5 => s_y y_as <| s_y y_as <| s_nil <| q_then <| c_seq <| c_reg <| s_y (y_lda (b := b5) (cs := (itC i (.slice a i.bd.length c)).toArray) (hl := it_size hc hp)) <| s_y (y_bsealed hc hp) <| s_allocC (cs := (itC it0 (.slice none 0 0)).toArray) (by kernel_rfl) fun b8 => s_sta (b := b8) (vs := (itC i (.slice a i.bd.length c)).toArray) (cs := (itC it0 (.slice none 0 0)).toArray) (h1 := it_one) (hl := (it_size hc hp).trans (it_size rfl rfl).symm) (hs1 := it_size hc hp) ?_
  refine s_nil <| q_then <| c_seq <| c_seq <| c_reg <| s_y (y_lda (b := b8) (cs := (itC i (.slice a i.bd.length c)).toArray) (hl := it_size hc hp)) <| s_pure (fun w' hw => (by have h9 := valid_ok w' i a c hc hp (hg.ld.st hw) hb; rw [hv] at h9; exact h9)) <| s_y (v := .bool false) (y_not (b := true)) <| s_y y_mv <| s_y y_fa <| s_y (y_ld (b := b4) (v := I cb)) <| s_y y_fa <| s_y y_fa <| s_y (y_ld (b := b5) (v := I i.cB) (hv := it_cB hc)) <| s_nt (y_neq (p := cb) (q := i.cB)) hm <| s_y y_pk <| s_y y_mv <| s_no <| s_no <| s_no <| s_no <| s_no <| s_no <| s_y y_pk <| s_nil <| q_then <| c_t <| c_seq <| c_reg <| s_y y_as <| s_y y_as <| s_nil <| q_then <| c_ret <| q_ret <| ?_
  exact ret2 Tryz.results19 rv_t rv_t fun w' hw => ⟨OX.nil, OX.nil_ok, rfl, St.nilO hw⟩
theorem Via_n3 (w : World) (i : It) (a : Option Addr) (c : Nat) (x ca cb : Int) (cp : List UInt8) (hcp : cp.length = 32) (hcc : i.bd.length ≤ c) (h : i.Wf) (hg : LG w) (hr : Rd w a (bs i.bd)) (hb : i.bd.length ≤ 70000) (hv : i.vld = true) (hm : cb = i.cB) (hm2 : ¬ cp = i.pd) : GivesO 19 [I x, .agg (I ca :: I cb :: bs cp).toArray, itV i (.slice a i.bd.length c)] w [] 290 := by
  obtain ⟨hc, hp⟩ : i.cm.length = 32 ∧ i.pd.length = 32 := ⟨h.cm, h.pd⟩
  have hhl := head_len h
  refine enter Tryz.func19 Tryz.ntmps19 ?_
  refine c_seq <| c_reg <| s_box rfl fun b3 => s_box rfl fun b4 => s_box rfl fun b5 => s_y y_as <| s_y y_as <| s_nil <| q_then <| c_seq <| c_reg <| s_y (y_lda (b := b5) (cs := (itC i (.slice a i.bd.length c)).toArray) (hl := it_size hc hp)) <| s_y (y_bsealed hc hp) <| s_allocC (cs := (itC it0 (.slice none 0 0)).toArray) (by kernel_rfl) fun b8 => s_sta (b := b8) (vs := (itC i (.slice a i.bd.length c)).toArray) (cs := (itC it0 (.slice none 0 0)).toArray) (h1 := it_one) (hl := (it_size hc hp).trans (it_size rfl rfl).symm) (hs1 := it_size hc hp) ?_
  refine s_nil <| q_then <| c_seq <| c_seq <| c_reg <| s_y (y_lda (b := b8) (cs := (itC i (.slice a i.bd.length c)).toArray) (hl := it_size hc hp)) <| s_pure (fun w' hw => (by have h9 := valid_ok w' i a c hc hp (hg.ld.st hw) hb; rw [hv] at h9; exact h9)) <| s_y (v := .bool false) (y_not (b := true)) <| s_y y_mv <| s_y y_fa <| s_y (y_ld (b := b4) (v := I cb)) <| s_y y_fa <| s_y y_fa <| s_y (y_ld (b := b5) (v := I i.cB) (hv := it_cB hc)) <| s_nf (y_neq (p := cb) (q := i.cB)) hm <| s_y y_pk <| s_y y_mv <| s_y y_fa <| s_y (y_ldin (b := b4) (off := 0 + 2) (cs := (I ca :: I cb :: bs cp).toArray) (ys := bs cp) (hl := by rw [bs_length, hcp]) (hv := fun j v h => by rw [List.getElem?_toArray, show 0 + 2 + j = j + 1 + 1 by omega, List.getElem?_cons_succ, List.getElem?_cons_succ]; exact h)) <| s_y y_fa <| s_y y_fa <| s_y (y_ldin (b := b5) (off := 39) (cs := (itC i (.slice a i.bd.length c)).toArray) (ys := bs i.pd) (hl := (by rw [bs_length, hp])) (hv := it_pd hc)) <| s_nt (y_neqa (p := cp) (q := i.pd) hcp hp hgk) hm2 <| s_y y_pk <| s_nil <| q_then <| c_t <| c_seq <| c_reg <| s_y y_as <| s_y y_as <| s_nil <| q_then <| c_ret <| q_ret <| ?_
  exact ret2 Tryz.results19 rv_t rv_t fun w' hw => ⟨OX.nil, OX.nil_ok, rfl, St.nilO hw⟩
theorem Via_e (w : World) (i : It) (a : Option Addr) (c : Nat) (x ca cb : Int) (cp : List UInt8) (hcp : cp.length = 32) (hcc : i.bd.length ≤ c) (h : i.Wf) (hg : LG w) (hr : Rd w a (bs i.bd)) (hb : i.bd.length ≤ 70000) (hv : i.vld = true) (hm : cb = i.cB) (hm2 : cp = i.pd) (he : ¬ Go.Proofs.YtejdjnkilikehaaGreatDoor.opE x ca cb = 0) : GivesO 19 [I x, .agg (I ca :: I cb :: bs cp).toArray, itV i (.slice a i.bd.length c)] w [] (Go.Proofs.YtejdjnkilikehaaGreatDoor.opE x ca cb) := by
  obtain ⟨hc, hp⟩ : i.cm.length = 32 ∧ i.pd.length = 32 := ⟨h.cm, h.pd⟩
  have hhl := head_len h
  refine enter Tryz.func19 Tryz.ntmps19 ?_
  refine c_seq <| c_reg <| s_box rfl fun b3 => s_box rfl fun b4 => s_box rfl fun b5 => s_y y_as <| s_y y_as <| s_nil <| q_then <| c_seq <| c_reg <| s_y (y_lda (b := b5) (cs := (itC i (.slice a i.bd.length c)).toArray) (hl := it_size hc hp)) <| s_y (y_bsealed hc hp) <| s_allocC (cs := (itC it0 (.slice none 0 0)).toArray) (by kernel_rfl) fun b8 => s_sta (b := b8) (vs := (itC i (.slice a i.bd.length c)).toArray) (cs := (itC it0 (.slice none 0 0)).toArray) (h1 := it_one) (hl := (it_size hc hp).trans (it_size rfl rfl).symm) (hs1 := it_size hc hp) ?_
  refine s_nil <| q_then <| c_seq <| c_seq <| c_reg <| s_y (y_lda (b := b8) (cs := (itC i (.slice a i.bd.length c)).toArray) (hl := it_size hc hp)) <| s_pure (fun w' hw => (by have h9 := valid_ok w' i a c hc hp (hg.ld.st hw) hb; rw [hv] at h9; exact h9)) <| s_y (v := .bool false) (y_not (b := true)) <| s_y y_mv <| s_y y_fa <| s_y (y_ld (b := b4) (v := I cb)) <| s_y y_fa <| s_y y_fa <| s_y (y_ld (b := b5) (v := I i.cB) (hv := it_cB hc)) <| s_nf (y_neq (p := cb) (q := i.cB)) hm <| s_y y_pk <| s_y y_mv <| s_y y_fa <| s_y (y_ldin (b := b4) (off := 0 + 2) (cs := (I ca :: I cb :: bs cp).toArray) (ys := bs cp) (hl := by rw [bs_length, hcp]) (hv := fun j v h => by rw [List.getElem?_toArray, show 0 + 2 + j = j + 1 + 1 by omega, List.getElem?_cons_succ, List.getElem?_cons_succ]; exact h)) <| s_y y_fa <| s_y y_fa <| s_y (y_ldin (b := b5) (off := 39) (cs := (itC i (.slice a i.bd.length c)).toArray) (ys := bs i.pd) (hl := (by rw [bs_length, hp])) (hv := it_pd hc)) <| s_nf (y_neqa (p := cp) (q := i.pd) hcp hp hgk) hm2 <| s_y y_pk <| s_nil <| q_then <| c_f <| c_skip <| q_then <| c_seq <| c_reg <| s_y (y_lda (b := b8) (cs := (itC i (.slice a i.bd.length c)).toArray) (hl := it_size hc hp)) <| s_y y_func <| s_gives (fun w' hw => open_e w' i a c (kf := 60) [.pointer (some ⟨b3, 0, none⟩), .pointer (some ⟨b4, 0, none⟩)] (opK x ca cb cp) (Go.Proofs.YtejdjnkilikehaaGreatDoor.opE x ca cb) (opK_length x ca cb hcp) (fun w2 h2 => Via1_ok w2 b3 b4 x ca cb cp ((hg.st hw).st h2) hcp ((rd0 (xs := [I x]) hw (.tail _ (.tail _ (.tail _ (.head _))))).st h2) ((rd0 hw (.tail _ (.tail _ (.head _)))).st h2)) hcc h (hg.st hw) (hr.st hw) hb he) fun x32 hx => s_y y_ext <| s_y y_ext <| s_y y_as <| s_y y_as <| s_nil <| q_then <| c_ret <| ?_
  exact ret2 Tryz.results19 rv_t rv_t fun w' hw => ⟨x32, hx, rfl, hw.sub (.cons_cons _ (List.nil_sublist _))⟩
theorem Via_y (w : World) (i : It) (a : Option Addr) (c : Nat) (x ca cb : Int) (cp : List UInt8) (hcp : cp.length = 32) (hcc : i.bd.length ≤ c) (h : i.Wf) (hg : LG w) (hr : Rd w a (bs i.bd)) (hb : i.bd.length ≤ 70000) (hv : i.vld = true) (hm : cb = i.cB) (hm2 : cp = i.pd) (he : Go.Proofs.YtejdjnkilikehaaGreatDoor.opE x ca cb = 0) : GivesO 19 [I x, .agg (I ca :: I cb :: bs cp).toArray, itV i (.slice a i.bd.length c)] w (i.opnB (opK x ca cb cp)) (i.opnE (opK x ca cb cp)) := by
  obtain ⟨hc, hp⟩ : i.cm.length = 32 ∧ i.pd.length = 32 := ⟨h.cm, h.pd⟩
  have hhl := head_len h
  refine enter Tryz.func19 Tryz.ntmps19 ?_
  refine c_seq <| c_reg <| s_box rfl fun b3 => s_box rfl fun b4 => s_box rfl fun b5 => s_y y_as <| s_y y_as <| s_nil <| q_then <| c_seq <| c_reg <| s_y (y_lda (b := b5) (cs := (itC i (.slice a i.bd.length c)).toArray) (hl := it_size hc hp)) <| s_y (y_bsealed hc hp) <| s_allocC (cs := (itC it0 (.slice none 0 0)).toArray) (by kernel_rfl) fun b8 => s_sta (b := b8) (vs := (itC i (.slice a i.bd.length c)).toArray) (cs := (itC it0 (.slice none 0 0)).toArray) (h1 := it_one) (hl := (it_size hc hp).trans (it_size rfl rfl).symm) (hs1 := it_size hc hp) ?_
  refine s_nil <| q_then <| c_seq <| c_seq <| c_reg <| s_y (y_lda (b := b8) (cs := (itC i (.slice a i.bd.length c)).toArray) (hl := it_size hc hp)) <| s_pure (fun w' hw => (by have h9 := valid_ok w' i a c hc hp (hg.ld.st hw) hb; rw [hv] at h9; exact h9)) <| s_y (v := .bool false) (y_not (b := true)) <| s_y y_mv <| s_y y_fa <| s_y (y_ld (b := b4) (v := I cb)) <| s_y y_fa <| s_y y_fa <| s_y (y_ld (b := b5) (v := I i.cB) (hv := it_cB hc)) <| s_nf (y_neq (p := cb) (q := i.cB)) hm <| s_y y_pk <| s_y y_mv <| s_y y_fa <| s_y (y_ldin (b := b4) (off := 0 + 2) (cs := (I ca :: I cb :: bs cp).toArray) (ys := bs cp) (hl := by rw [bs_length, hcp]) (hv := fun j v h => by rw [List.getElem?_toArray, show 0 + 2 + j = j + 1 + 1 by omega, List.getElem?_cons_succ, List.getElem?_cons_succ]; exact h)) <| s_y y_fa <| s_y y_fa <| s_y (y_ldin (b := b5) (off := 39) (cs := (itC i (.slice a i.bd.length c)).toArray) (ys := bs i.pd) (hl := (by rw [bs_length, hp])) (hv := it_pd hc)) <| s_nf (y_neqa (p := cp) (q := i.pd) hcp hp hgk) hm2 <| s_y y_pk <| s_nil <| q_then <| c_f <| c_skip <| q_then <| c_seq <| c_reg <| s_y (y_lda (b := b8) (cs := (itC i (.slice a i.bd.length c)).toArray) (hl := it_size hc hp)) <| s_y y_func <| s_gives (fun w' hw => open_ok w' i a c (kf := 60) [.pointer (some ⟨b3, 0, none⟩), .pointer (some ⟨b4, 0, none⟩)] (opK x ca cb cp) (opK_length x ca cb hcp) (fun w2 h2 => (by have h9 := Via1_ok w2 b3 b4 x ca cb cp ((hg.st hw).st h2) hcp ((rd0 (xs := [I x]) hw (.tail _ (.tail _ (.tail _ (.head _))))).st h2) ((rd0 hw (.tail _ (.tail _ (.head _)))).st h2); rw [he] at h9; exact h9)) hcc h (hg.st hw) (hr.st hw) hb) fun x32 hx => s_y y_ext <| s_y y_ext <| s_y y_as <| s_y y_as <| s_nil <| q_then <| c_ret <| ?_
  exact ret2 Tryz.results19 rv_t rv_t fun w' hw => ⟨x32, hx, rfl, hw.sub (.cons_cons _ (List.nil_sublist _))⟩
theorem Via_ok (w : World) (i : It) (a : Option Addr) (c : Nat) (x ca cb : Int) (cp : List UInt8) (hcp : cp.length = 32) (hcc : i.bd.length ≤ c) (h : i.Wf) (hg : LG w) (hr : Rd w a (bs i.bd)) (hb : i.bd.length ≤ 70000) : GivesO 19 [I x, .agg (I ca :: I cb :: bs cp).toArray, itV i (.slice a i.bd.length c)] w (i.viaB x ca cb cp) (i.viaE x ca cb cp) := by
  unfold It.viaB It.viaE
  cases hv : i.vld with
  | false =>
    rw [if_neg (by simp), if_neg (by simp)]
    exact Via_n1 w i a c x ca cb cp hcp hcc h hg hr hb hv
  | true =>
    by_cases hm : cb = i.cB
    · by_cases hm2 : cp = i.pd
      · rw [if_pos (show true = true ∧ cb = i.cB ∧ cp = i.pd from ⟨rfl, hm, hm2⟩), if_pos (show true = true ∧ cb = i.cB ∧ cp = i.pd from ⟨rfl, hm, hm2⟩)]
        by_cases he : Go.Proofs.YtejdjnkilikehaaGreatDoor.opE x ca cb = 0
        · rw [if_pos he, if_pos he]
          exact Via_y w i a c x ca cb cp hcp hcc h hg hr hb hv hm hm2 he
        · rw [if_neg he, if_neg he]
          exact Via_e w i a c x ca cb cp hcp hcc h hg hr hb hv hm hm2 he
      · rw [if_neg (fun e => hm2 e.2.2), if_neg (fun e => hm2 e.2.2)]
        exact Via_n3 w i a c x ca cb cp hcp hcc h hg hr hb hv hm hm2
    · rw [if_neg (fun e => hm e.2.1), if_neg (fun e => hm e.2.1)]
      exact Via_n2 w i a c x ca cb cp hcp hcc h hg hr hb hv hm
theorem Check_n (w : World) (i : It) (a : Option Addr) (c : Nat) (v : Int) (h : i.Wf) (hg : LG w) (hr : Rd w a (bs i.bd)) (hb : i.bd.length ≤ 70000) (hv : i.vld = false) : Pure Tryz.prog 21 [itV i (.slice a i.bd.length c), I v] w (I 290) := by
  obtain ⟨hc, hp⟩ : i.cm.length = 32 ∧ i.pd.length = 32 := ⟨h.cm, h.pd⟩
  have hhl := head_len h
  have hsg : i.sg.length ≤ 71000 := by unfold It.sg; rw [List.length_append]; omega
  refine enter Tryz.func21 Tryz.ntmps21 ?_
  refine c_seq <| c_reg <| s_box rfl fun b2 => s_y y_as <| s_nil <| q_then <| c_seq <| c_reg <| s_y (y_lda (b := b2) (cs := (itC i (.slice a i.bd.length c)).toArray) (hl := it_size hc hp)) <| s_y (y_bsealed hc hp) <| s_allocC (cs := (itC it0 (.slice none 0 0)).toArray) (by kernel_rfl) fun b5 => s_sta (b := b5) (vs := (itC i (.slice a i.bd.length c)).toArray) (cs := (itC it0 (.slice none 0 0)).toArray) (h1 := it_one) (hl := (it_size hc hp).trans (it_size rfl rfl).symm) (hs1 := it_size hc hp) ?_
  refine s_nil <| q_then <| c_seq <| c_seq <| c_reg <| s_y (y_lda (b := b5) (cs := (itC i (.slice a i.bd.length c)).toArray) (hl := it_size hc hp)) <| s_pure (fun w' hw => (by have h9 := valid_ok w' i a c hc hp (hg.ld.st hw) hb; rw [hv] at h9; exact h9)) <| s_y (v := .bool true) (y_not (b := false)) <| s_nil <| q_then <| c_t <| c_seq <| c_reg <| s_y y_as <| s_nil <| q_then <| c_ret <| q_ret <| ?_
  exact ret1 Tryz.results21 rv_t fun w' hw => ⟨rfl, hw.sub (List.nil_sublist _)⟩
theorem Check_b (w : World) (i : It) (a : Option Addr) (c : Nat) (v : Int) (h : i.Wf) (hg : LG w) (hr : Rd w a (bs i.bd)) (hb : i.bd.length ≤ 70000) (hv : i.vld = true) (hvf : vrf v i.sg i.sR i.sS = false) : Pure Tryz.prog 21 [itV i (.slice a i.bd.length c), I v] w (I 222) := by
  obtain ⟨hc, hp⟩ : i.cm.length = 32 ∧ i.pd.length = 32 := ⟨h.cm, h.pd⟩
  have hhl := head_len h
  have hsg : i.sg.length ≤ 71000 := by unfold It.sg; rw [List.length_append]; omega
  refine enter Tryz.func21 Tryz.ntmps21 ?_
  refine c_seq <| c_reg <| s_box rfl fun b2 => s_y y_as <| s_nil <| q_then <| c_seq <| c_reg <| s_y (y_lda (b := b2) (cs := (itC i (.slice a i.bd.length c)).toArray) (hl := it_size hc hp)) <| s_y (y_bsealed hc hp) <| s_allocC (cs := (itC it0 (.slice none 0 0)).toArray) (by kernel_rfl) fun b5 => s_sta (b := b5) (vs := (itC i (.slice a i.bd.length c)).toArray) (cs := (itC it0 (.slice none 0 0)).toArray) (h1 := it_one) (hl := (it_size hc hp).trans (it_size rfl rfl).symm) (hs1 := it_size hc hp) ?_
  refine s_nil <| q_then <| c_seq <| c_seq <| c_reg <| s_y (y_lda (b := b5) (cs := (itC i (.slice a i.bd.length c)).toArray) (hl := it_size hc hp)) <| s_pure (fun w' hw => (by have h9 := valid_ok w' i a c hc hp (hg.ld.st hw) hb; rw [hv] at h9; exact h9)) <| s_y (v := .bool false) (y_not (b := true)) <| s_nil <| q_then <| c_f <| c_skip <| q_then <| c_seq <| c_seq <| c_regL [.blk b5 (.cells (itC i (.slice a i.bd.length c)).toArray 83 (0, 0)), .blk b2 (.cells (itC i (.slice a i.bd.length c)).toArray 36 (0, 0))] <| r_y 0 rfl y_mv <| r_y 1 rfl (y_lda (b := b5) (cs := (itC i (.slice a i.bd.length c)).toArray) (hl := it_size hc hp)) <| r_y 3 rfl y_fa <| r_y 4 rfl (y_ldin (b := b2) (off := 72) (cs := (itC i (.slice a i.bd.length c)).toArray) (ys := [I i.sR, I i.sS]) (hl := rfl) (hv := it_sig hc hp)) <| r_W 2 rfl <| s_gives (fun w' hw => isgd_ok w' i a c h (hr.st hw) hb) fun x13 _ => r_K <| r_W 5 rfl <| s_pure (fun w' hw => (by have h9 := sVerify_ok w' x13.1 x13.2 i.sg v i.sR i.sS (hg.ls.st hw) (rdR (.head _) w' hw) (by omega); rw [hvf] at h9; exact h9)) <| r_K <| r_y 6 rfl (v := .bool true) (y_not (b := false)) <| r_E <| q_then <| c_t <| c_seq <| c_reg <| s_y y_as <| s_nil <| q_then <| c_ret <| q_ret <| ?_
  exact ret1 Tryz.results21 rv_t fun w' hw => ⟨rfl, hw.sub (List.nil_sublist _)⟩
theorem Check_y (w : World) (i : It) (a : Option Addr) (c : Nat) (v : Int) (h : i.Wf) (hg : LG w) (hr : Rd w a (bs i.bd)) (hb : i.bd.length ≤ 70000) (hv : i.vld = true) (hvf : vrf v i.sg i.sR i.sS = true) : Pure Tryz.prog 21 [itV i (.slice a i.bd.length c), I v] w (I 0) := by
  obtain ⟨hc, hp⟩ : i.cm.length = 32 ∧ i.pd.length = 32 := ⟨h.cm, h.pd⟩
  have hhl := head_len h
  have hsg : i.sg.length ≤ 71000 := by unfold It.sg; rw [List.length_append]; omega
  refine enter Tryz.func21 Tryz.ntmps21 ?_
  refine c_seq <| c_reg <| s_box rfl fun b2 => s_y y_as <| s_nil <| q_then <| c_seq <| c_reg <| s_y (y_lda (b := b2) (cs := (itC i (.slice a i.bd.length c)).toArray) (hl := it_size hc hp)) <| s_y (y_bsealed hc hp) <| s_allocC (cs := (itC it0 (.slice none 0 0)).toArray) (by kernel_rfl) fun b5 => s_sta (b := b5) (vs := (itC i (.slice a i.bd.length c)).toArray) (cs := (itC it0 (.slice none 0 0)).toArray) (h1 := it_one) (hl := (it_size hc hp).trans (it_size rfl rfl).symm) (hs1 := it_size hc hp) ?_
  refine s_nil <| q_then <| c_seq <| c_seq <| c_reg <| s_y (y_lda (b := b5) (cs := (itC i (.slice a i.bd.length c)).toArray) (hl := it_size hc hp)) <| s_pure (fun w' hw => (by have h9 := valid_ok w' i a c hc hp (hg.ld.st hw) hb; rw [hv] at h9; exact h9)) <| s_y (v := .bool false) (y_not (b := true)) <| s_nil <| q_then <| c_f <| c_skip <| q_then <| c_seq <| c_seq <| c_regL [.blk b5 (.cells (itC i (.slice a i.bd.length c)).toArray 83 (0, 0)), .blk b2 (.cells (itC i (.slice a i.bd.length c)).toArray 36 (0, 0))] <| r_y 0 rfl y_mv <| r_y 1 rfl (y_lda (b := b5) (cs := (itC i (.slice a i.bd.length c)).toArray) (hl := it_size hc hp)) <| r_y 3 rfl y_fa <| r_y 4 rfl (y_ldin (b := b2) (off := 72) (cs := (itC i (.slice a i.bd.length c)).toArray) (ys := [I i.sR, I i.sS]) (hl := rfl) (hv := it_sig hc hp)) <| r_W 2 rfl <| s_gives (fun w' hw => isgd_ok w' i a c h (hr.st hw) hb) fun x13 _ => r_K <| r_W 5 rfl <| s_pure (fun w' hw => (by have h9 := sVerify_ok w' x13.1 x13.2 i.sg v i.sR i.sS (hg.ls.st hw) (rdR (.head _) w' hw) (by omega); rw [hvf] at h9; exact h9)) <| r_K <| r_y 6 rfl (v := .bool false) (y_not (b := true)) <| r_E <| q_then <| c_f <| c_skip <| q_then <| c_seq <| c_reg <| s_y y_as <| s_nil <| q_then <| c_ret <| ?_
  exact ret1 Tryz.results21 rv_t fun w' hw => ⟨rfl, hw.sub (List.nil_sublist _)⟩
theorem Check_ok (w : World) (i : It) (a : Option Addr) (c : Nat) (v : Int) (h : i.Wf) (hg : LG w) (hr : Rd w a (bs i.bd)) (hb : i.bd.length ≤ 70000) : Pure Tryz.prog 21 [itV i (.slice a i.bd.length c), I v] w (I (i.chk v)) := by
  unfold It.chk
  cases hv : i.vld with
  | false =>
    rw [if_neg (by simp)]
    exact Check_n w i a c v h hg hr hb hv
  | true =>
    rw [if_pos rfl]
    cases hvf : vrf v i.sg i.sR i.sS with
    | false =>
      rw [if_neg (by simp)]
      exact Check_b w i a c v h hg hr hb hv hvf
    | true =>
      rw [if_pos rfl]
      exact Check_y w i a c v h hg hr hb hv hvf
theorem Encode_n (w : World) (i : It) (a : Option Addr) (c : Nat) (h : i.Wf) (hg : LG w) (hr : Rd w a (bs i.bd)) (hb : i.bd.length ≤ 70000) (hv : i.vld = false) : Gives Tryz.prog 23 [itV i (.slice a i.bd.length c)] w [] (fun x : Option Addr × Nat => .tuple #[.slice x.1 ([] : List UInt8).length x.2, I 290]) (fun x => [.row x.1 x.2 5 1 ([] : List UInt8).length (bs ([] : List UInt8))]) (fun _ => True) := by
  obtain ⟨hc, hp⟩ : i.cm.length = 32 ∧ i.pd.length = 32 := ⟨h.cm, h.pd⟩
  have hhl := head_len h
  refine enter Tryz.func23 Tryz.ntmps23 ?_
  refine c_seq <| c_reg <| s_box rfl fun b1 => s_y y_as <| s_y y_as <| s_nil <| q_then <| c_seq <| c_reg <| s_y (y_lda (b := b1) (cs := (itC i (.slice a i.bd.length c)).toArray) (hl := it_size hc hp)) <| s_y (y_bsealed hc hp) <| s_allocC (cs := (itC it0 (.slice none 0 0)).toArray) (by kernel_rfl) fun b4 => s_sta (b := b4) (vs := (itC i (.slice a i.bd.length c)).toArray) (cs := (itC it0 (.slice none 0 0)).toArray) (h1 := it_one) (hl := (it_size hc hp).trans (it_size rfl rfl).symm) (hs1 := it_size hc hp) ?_
  refine s_nil <| q_then <| c_seq <| c_seq <| c_reg <| s_y (y_lda (b := b4) (cs := (itC i (.slice a i.bd.length c)).toArray) (hl := it_size hc hp)) <| s_pure (fun w' hw => (by have h9 := valid_ok w' i a c hc hp (hg.ld.st hw) hb; rw [hv] at h9; exact h9)) <| s_y (v := .bool true) (y_not (b := false)) <| s_nil <| q_then <| c_t <| c_seq <| c_reg <| s_y y_as <| s_y y_as <| s_nil <| q_then <| c_ret <| q_ret <| ?_
  exact ret2 Tryz.results23 rv_t rv_t fun w' hw => ⟨(none, 0), trivial, rfl, (hw.nilRow _ _).sub (.cons_cons _ (List.nil_sublist _))⟩
theorem Encode_y (w : World) (i : It) (a : Option Addr) (c : Nat) (h : i.Wf) (hg : LG w) (hr : Rd w a (bs i.bd)) (hb : i.bd.length ≤ 70000) (hv : i.vld = true) : Gives Tryz.prog 23 [itV i (.slice a i.bd.length c)] w [] (fun x : Option Addr × Nat => .tuple #[.slice x.1 i.all.length x.2, I 0]) (fun x => [.row x.1 x.2 5 1 i.all.length (bs i.all)]) (fun _ => True) := by
  obtain ⟨hc, hp⟩ : i.cm.length = 32 ∧ i.pd.length = 32 := ⟨h.cm, h.pd⟩
  have hhl := head_len h
  refine enter Tryz.func23 Tryz.ntmps23 ?_
  refine c_seq <| c_reg <| s_box rfl fun b1 => s_y y_as <| s_y y_as <| s_nil <| q_then <| c_seq <| c_reg <| s_y (y_lda (b := b1) (cs := (itC i (.slice a i.bd.length c)).toArray) (hl := it_size hc hp)) <| s_y (y_bsealed hc hp) <| s_allocC (cs := (itC it0 (.slice none 0 0)).toArray) (by kernel_rfl) fun b4 => s_sta (b := b4) (vs := (itC i (.slice a i.bd.length c)).toArray) (cs := (itC it0 (.slice none 0 0)).toArray) (h1 := it_one) (hl := (it_size hc hp).trans (it_size rfl rfl).symm) (hs1 := it_size hc hp) ?_
  refine s_nil <| q_then <| c_seq <| c_seq <| c_reg <| s_y (y_lda (b := b4) (cs := (itC i (.slice a i.bd.length c)).toArray) (hl := it_size hc hp)) <| s_pure (fun w' hw => (by have h9 := valid_ok w' i a c hc hp (hg.ld.st hw) hb; rw [hv] at h9; exact h9)) <| s_y (v := .bool false) (y_not (b := true)) <| s_nil <| q_then <| c_f <| c_skip <| q_then <| c_seq <| c_reg <| s_y (y_lda (b := b4) (cs := (itC i (.slice a i.bd.length c)).toArray) (hl := it_size hc hp)) <| s_gives (fun w' hw => fields_ok w' i a c hc hp) fun x12 _ => s_alloc fun b5 => s_sta (b := b5) (vs := #[I 3, I 0, .string (sb []), .slice x12.1 9 x12.2]) (cs := #[I 0, I 0, .string .empty, .slice none 0 0]) (h1 := by intro u hu; simp at hu; rcases hu with rfl | rfl | rfl | rfl <;> rfl) (hl := rfl) (hs1 := rfl) ?_
  refine s_nil <| q_then <| c_seq <| c_regG [.blk b5 (.cells #[I 3, I 0, .string (sb []), .slice x12.1 9 x12.2] 76 (0, 0)), .blk b4 (.cells (itC i (.slice a i.bd.length c)).toArray 83 (0, 0)), .blk b1 (.cells (itC i (.slice a i.bd.length c)).toArray 36 (0, 0))] (.cons_cons _ (.cons _ (.cons_cons _ (.cons_cons _ (List.nil_sublist _))))) 18 <| f_y 0 rfl y_fa <| f_y 1 rfl (y_ld (b := b5) (v := .slice x12.1 9 x12.2)) <| f_y 2 rfl y_fa <| f_y 3 rfl (y_ld (b := b1) (v := .slice a i.bd.length c) (hv := it_bd hc hp)) <| f_y 4 rfl y_mki <| f_y 5 rfl y_fa <| f_y 6 rfl y_fa <| f_y 7 rfl (y_ld (b := b1) (v := I i.sR) (hv := it_sR hc hp)) <| f_y 8 rfl y_mki <| f_y 9 rfl y_fa <| f_y 10 rfl y_fa <| f_y 11 rfl (y_ld (b := b1) (v := I i.sS) (hv := it_sS hc hp)) <| f_y 12 rfl y_mki <| f_w 13 rfl (hsub := by repeat (first | exact List.nil_sublist _ | exact List.Sublist.refl _ | apply List.Sublist.cons_cons | apply List.Sublist.cons)) <| s_bslr (cs := [.iface 27 (.slice a i.bd.length c), .iface 3 (I i.sR), .iface 3 (I i.sS)]) fun b26 => f_kk <| f_w 14 rfl (hsub := by repeat (first | exact List.nil_sublist _ | exact List.Sublist.refl _ | apply List.Sublist.cons_cons | apply List.Sublist.cons)) <| s_gives (fun w' hw => list_ok w' (some ⟨b26, 0, none⟩) 3 [.inr (a, i.bd.length, c, i.bd), .inl i.sR, .inl i.sS] (rdR (.head _) w' hw) ⟨rfl, hr.st hw, trivial⟩ (by simp)) fun x27 _ => f_kk <| f_y 15 rfl y_fld <| f_w 16 rfl (hsub := by repeat (first | exact List.nil_sublist _ | exact List.Sublist.refl _ | apply List.Sublist.cons_cons | apply List.Sublist.cons)) <| s_app (m := 3) (fun w' hw => Src.slice (rdR (.head _) w' hw) rfl) (h1 := fcells_one1 _) (hm := .tail _ (.tail _ (.tail _ (.head _)))) (hrep := fun _ _ => .tail _ (.tail _ (.tail _ (.head _)))) fun a29 c29 h29 => ?_
  rw [show fcells i.hl ++ fcells (List.map toV [.inr (a, i.bd.length, c, i.bd), .inl i.sR, .inl i.sS]) = fcells i.al by rw [← fcells_append]; rfl]
  refine f_kk <| f_y 17 rfl y_fa <| f_w 18 rfl (hsub := by repeat (first | exact List.nil_sublist _ | exact List.Sublist.refl _ | apply List.Sublist.cons_cons | apply List.Sublist.cons)) <| s_st (b := b5) (v := .slice a29 (9 + 3) c29) (cs := #[I 3, I 0, .string (sb []), .slice x12.1 9 x12.2]) (hl := by simp) ?_
  refine f_z <| q_then <| c_seq <| c_reg <| s_y (y_lda (b := b5) (cs := #[I 3, I 0, .string (sb []), .slice a29 (9 + 3) c29]) (hl := rfl)) <| s_gives (fun w' hw => codec_Encode_ok w' (vL i.al) (.agg #[I 3, I 0, .string (sb []), .slice a29 (9 + 3) c29]) (vL_vv (rdR (.tail _ (.tail _ (.tail _ (.head _)))) w' hw) (al_flat h hb) (show ((9 + 3) : Nat) < 1152921504606846976 by decide)) (by rw [vL_dep (al_k i)]; decide) (Nat.le_trans (all_len h hb) (by decide))) fun x32 _ => ?_
  rw [vL_encd (al_k i), vL_chk (al_k i), show (vL i.al).enc = i.all from rfl]
  refine s_y y_ext <| s_y y_ext <| s_y y_as <| s_y y_as <| s_nil <| q_then <| c_ret <| ?_
  exact ret2 Tryz.results23 rv_t rv_t fun w' hw => ⟨x32, trivial, rfl, hw.sub (.cons_cons _ (List.nil_sublist _))⟩
theorem Encode_ok (w : World) (i : It) (a : Option Addr) (c : Nat) (h : i.Wf) (hg : LG w) (hr : Rd w a (bs i.bd)) (hb : i.bd.length ≤ 70000) : Gives Tryz.prog 23 [itV i (.slice a i.bd.length c)] w [] (fun x : Option Addr × Nat => .tuple #[.slice x.1 i.encB.length x.2, I i.encE]) (fun x => [.row x.1 x.2 5 1 i.encB.length (bs i.encB)]) (fun _ => True) := by
  unfold It.encB It.encE
  cases hv : i.vld with
  | false => exact Encode_n w i a c h hg hr hb hv
  | true => exact Encode_y w i a c h hg hr hb hv
theorem encB_len {i : It} (h : i.Wf) (hb : i.bd.length ≤ 70000) : i.encB.length ≤ 80000 := by
  unfold It.encB
  split
  · exact all_len h hb
  · simp
theorem ID_ok (w : World) (i : It) (a : Option Addr) (c : Nat) (h : i.Wf) (hg : LG w) (hr : Rd w a (bs i.bd)) (hb : i.bd.length ≤ 70000) : Pure Tryz.prog 25 [itV i (.slice a i.bd.length c)] w (.agg (bs (tagged lbItem i.encB)).toArray) := by
  obtain ⟨hc, hp⟩ : i.cm.length = 32 ∧ i.pd.length = 32 := ⟨h.cm, h.pd⟩
  have hhl := head_len h
  have hel := encB_len h hb
  refine enter Tryz.func25 Tryz.ntmps25 ?_
  refine c_seq <| c_reg <| s_box rfl fun b1 => s_alloc fun b2 => s_nil <| q_then <| c_seq <| c_reg <| s_y (y_lda (b := b1) (cs := (itC i (.slice a i.bd.length c)).toArray) (hl := it_size hc hp)) <| s_gives (fun w' hw => Encode_ok w' i a c h (hg.st hw) (hr.st hw) hb) fun x7 _ => s_y y_mv <| s_y y_ext <| s_y y_ext <| s_y y_as <| s_y y_as <| s_nil <| q_then <| c_seq <| c_reg <| s_y y_mv <| s_pure (fun w' hw => digest_Tagged_ok w' lbItem x7.1 x7.2 i.encB (hg.ls.st hw) (by decide) (rdR (.head _) w' hw) (by omega)) <| s_sta (b := b2) (vs := (bs (tagged lbItem i.encB)).toArray) (cs := (bs (List.replicate 32 0)).toArray) (h1 := fun v hv => bs_one (by simpa using hv)) (hl := ((hz32 (tagged_length _ _))).trans ((hz32 List.length_replicate)).symm) (hs1 := (hz32 (tagged_length _ _))) ?_
  refine s_nil <| q_then <| c_ret <| ?_
  exact ret1 Tryz.results25 (rv_ca (b := b2) (cs := (bs (tagged lbItem i.encB)).toArray) (hl := (hz32 (tagged_length _ _)))) fun w' hw => ⟨rfl, hw.sub (List.nil_sublist _)⟩
end Go.Proofs.YtejdjnkilikehaaGreatDoor
end
