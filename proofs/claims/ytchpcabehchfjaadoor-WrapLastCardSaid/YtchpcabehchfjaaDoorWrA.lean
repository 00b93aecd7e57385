/- Wraps: private keys, the key of a wrap, validity; both programs. -/
import Derived.Test.YtchpcabehchfjaaDoorChaF
import Derived.Test.YtchpcabehchfjaaDoorGrp
import Derived.Test.YtchpcabehchfjaaDoorMaskI
import Derived.Test.YtchpcabehchfjaaDoorScalX
namespace Gf
open Go Eng
def pvB (x : Int) : Bool := decide (1 ≤ x) && decide (x < 2305843009213688669)
theorem pvB_nat {x : Int} (h : pvB x = true) : ∃ n : Nat, x = (n : Int) ∧ 1 ≤ n ∧ n < 2305843009213688669 := by
  unfold pvB at h
  simp only [Bool.and_eq_true, decide_eq_true_eq] at h
  exact ⟨x.toNat, by omega, by omega, by omega⟩
theorem pvB_of {n : Nat} (h0 : 1 ≤ n) (h : n < 2305843009213688669) : pvB (n : Int) = true := by unfold pvB; rw [decide_eq_true (by omega), decide_eq_true (by omega)]; rfl
/-- the private key that any number stands for -/
def k5N (n : Int) : Nat := 1 + (n % 4611686018427387904).toNat % 2305843009213688669 % 2305843009213688668
theorem k5N_pos (n : Int) : 1 ≤ k5N n := by unfold k5N; omega
theorem k5N_lt (n : Int) : k5N n < 2305843009213688669 := by
  have := Nat.mod_lt ((n % 4611686018427387904).toNat % 2305843009213688669) (show 0 < 2305843009213688668 by decide)
  unfold k5N; omega
end Gf
namespace Wr
open Go Eng Sha Cha
abbrev lbWrap : List UInt8 := [119, 114, 97, 112]
def raw (p u v : Nat) : List UInt8 := be p 8 ++ be u 8 ++ be v 8
theorem raw_length (p u v : Nat) : (raw p u v).length = 24 := by unfold raw; rw [List.length_append, List.length_append, be_length, be_length, be_length]
def wkey (p u v : Nat) : List UInt8 := tagged lbWrap (raw p u v)
theorem wkey_length (p u v : Nat) : (wkey p u v).length = 32 := tagged_length _ _
theorem be_at (n : Nat) {k : Nat} (hk : k < 8) : (be n 8).getD k 0 = UInt8.ofNat (n / 2 ^ (56 - 8 * k)) := by rw [be_get n 8 k hk, show 8 * (8 - 1 - k) = 56 - 8 * k by omega]
theorem raw_at (p u v : Nat) {i k : Nat} (hi : i < 3) (hk : k < 8) : (raw p u v).getD (8 * i + k) 0 = UInt8.ofNat (([p, u, v].getD i 0) / 2 ^ (56 - 8 * k)) := by
  have hp := be_length p 8
  have hu := be_length u 8
  have hv := be_length v 8
  unfold raw
  rw [List.getD_eq_getElem?_getD]
  match i, hi with
  | 0, _ =>
    rw [List.append_assoc, List.getElem?_append_left (by omega), ← List.getD_eq_getElem?_getD, show 8 * 0 + k = k by omega, be_at p hk]; rfl
  | 1, _ =>
    rw [List.append_assoc, List.getElem?_append_right (by omega), List.getElem?_append_left (by omega), ← List.getD_eq_getElem?_getD, show 8 * 1 + k - (be p 8).length = k by omega, be_at u hk]; rfl
  | 2, _ =>
    rw [List.getElem?_append_right (by rw [List.length_append]; omega), ← List.getD_eq_getElem?_getD, show 8 * 2 + k - (be p 8 ++ be u 8).length = k by rw [List.length_append]; omega, be_at v hk]; rfl
/-- is a wrap valid? -/
noncomputable def wchk (u : Int) (n : Nat) : Int := if Gf.el u = true ∧ 16 ≤ n ∧ n ≤ 65552 then 0 else 90
abbrev z12 : List UInt8 := List.replicate 12 0
end Wr
namespace Go.Proofs.YtchpcabehchfjaaDoor
open Go Eng Gf Sha Cha Wr Cod
set_option maxRecDepth 100000
theorem gBase_el (w : World) (k : Nat) (h : k < 2305843009213688669) : Pure Tryd.prog 18 [I k] w (.tuple #[I (pp 4 k : Nat), I 0]) := by
  have h9 := gBase_ok w (k : Int)
  rw [show expV 4 (k : Int) = ((pp 4 k : Nat) : Int) by unfold expV; rw [show el 4 = true from El.four.el, sc_of h]; rfl, show expE 4 (k : Int) = 0 by unfold expE; rw [show el 4 = true from El.four.el, sc_of h]; rfl] at h9
  exact h9
theorem rBase_el (w : World) (k : Nat) (h : k < 2305843009213688669) : Pure Tryd.prog 48 [I k] w (.tuple #[I (pp 4 k : Nat), I 0]) := by
  have h9 := rBase_ok w (k : Int)
  rw [show expV 4 (k : Int) = ((pp 4 k : Nat) : Int) by unfold expV; rw [show el 4 = true from El.four.el, sc_of h]; rfl, show expE 4 (k : Int) = 0 by unfold expE; rw [show el 4 = true from El.four.el, sc_of h]; rfl] at h9
  exact h9
theorem sValid_ok (w : World) (x : Int) : Pure Tryd.prog 34 [I x] w (.bool (pvB x)) := by
  refine enter Tryd.func34 Tryd.ntmps34 ?_
  refine c_seq <| c_reg <| s_y y_as <| s_nil <| q_then <| c_seq <| c_reg <| s_y y_mv <| ?_
  by_cases h : 1 ≤ x
  · rw [pvB, decide_eq_true h, Bool.true_and]
    refine s_kt (y_geq (p := x) (q := 1)) h <| s_y y_mv <| s_y y_mv <| s_y (y_lss (p := x) (q := 2305843009213688669)) <| s_y y_pk <| s_y y_as <| s_nil <| q_then <| c_ret <| ?_
    exact ret1 Tryd.results34 rv_t fun w' hw => ⟨rfl, hw⟩
  · rw [pvB, decide_eq_false h, Bool.false_and]
    refine s_kf (y_geq (p := x) (q := 1)) h <| s_y y_mv <| s_no <| s_no <| s_y y_pk <| s_y y_as <| s_nil <| q_then <| c_ret <| ?_
    exact ret1 Tryd.results34 rv_t fun w' hw => ⟨rfl, hw⟩
theorem sKeyPublic (w : World) (x : Nat) (h : x < 2305843009213688669) : Pure Tryd.prog 35 [I x] w (I (pp 4 x : Nat)) := by
  refine enter Tryd.func35 Tryd.ntmps35 ?_
  refine c_seq <| c_reg <| s_y y_as <| s_nil <| q_then <| c_seq <| c_reg <| s_y y_mv <| s_pure (fun w' hw => gBase_el w' x h) <| s_y y_mv <| s_y y_ext <| s_y y_ext <| s_y y_as <| s_y y_as <| s_nil <| q_then <| c_seq <| c_reg <| s_y y_mv <| s_y y_as <| s_nil <| q_then <| c_ret <| ?_
  exact ret1 Tryd.results35 rv_t fun w' hw => ⟨rfl, hw⟩
theorem sPublic_yes (w : World) (x : Nat) (h0 : 1 ≤ x) (h : x < 2305843009213688669) : Pure Tryd.prog 14 [I x] w (.tuple #[I (pp 4 x : Nat), I 0]) := by
  refine enter Tryd.func14 Tryd.ntmps14 ?_
  refine c_seq <| c_reg <| s_y y_as <| s_y y_as <| s_nil <| q_then <| c_seq <| c_seq <| c_reg <| s_y y_mv <| s_pure (fun w' hw => (by have h9 := sValid_ok w' (x : Int); rw [pvB_of h0 h] at h9; exact h9)) <| s_y (v := .bool false) (y_not (b := true)) <| s_nil <| q_then <| c_f <| c_skip <| q_then <| c_seq <| c_reg <| s_y y_mv <| s_pure (fun w' hw => sKeyPublic w' x h) <| s_y y_as <| s_y y_as <| s_nil <| q_then <| c_ret <| ?_
  exact ret2 Tryd.results14 rv_t rv_t fun w' hw => ⟨rfl, hw⟩
theorem sPublic_no (w : World) (x : Int) (h : pvB x = false) : Pure Tryd.prog 14 [I x] w (.tuple #[I 0, I 50]) := by
  refine enter Tryd.func14 Tryd.ntmps14 ?_
  refine c_seq <| c_reg <| s_y y_as <| s_y y_as <| s_nil <| q_then <| c_seq <| c_seq <| c_reg <| s_y y_mv <| s_pure (fun w' hw => (by have h9 := sValid_ok w' x; rw [h] at h9; exact h9)) <| s_y (v := .bool true) (y_not (b := false)) <| s_nil <| q_then <| c_t <| c_seq <| c_reg <| s_y y_as <| s_y y_as <| s_nil <| q_then <| c_ret <| q_ret <| ?_
  exact ret2 Tryd.results14 rv_t rv_t fun w' hw => ⟨rfl, hw⟩
theorem r5_Private_ok (w : World) (x : Int) : Pure Tryd.prog 47 [I x] w (.bool (pvB x)) := by
  refine enter Tryd.func47 Tryd.ntmps47 ?_
  refine c_seq <| c_reg <| s_y y_as <| s_nil <| q_then <| c_seq <| c_reg <| s_y y_mv <| ?_
  by_cases h : 1 ≤ x
  · rw [pvB, decide_eq_true h, Bool.true_and]
    refine s_kt (y_geq (p := x) (q := 1)) h <| s_y y_mv <| s_y y_mv <| s_y (y_lss (p := x) (q := 2305843009213688669)) <| s_y y_pk <| s_y y_as <| s_nil <| q_then <| c_ret <| ?_
    exact ret1 Tryd.results47 rv_t fun w' hw => ⟨rfl, hw⟩
  · rw [pvB, decide_eq_false h, Bool.false_and]
    refine s_kf (y_geq (p := x) (q := 1)) h <| s_y y_mv <| s_no <| s_no <| s_y y_pk <| s_y y_as <| s_nil <| q_then <| c_ret <| ?_
    exact ret1 Tryd.results47 rv_t fun w' hw => ⟨rfl, hw⟩
theorem r5_Public_yes (w : World) (x : Nat) (h0 : 1 ≤ x) (h : x < 2305843009213688669) : Pure Tryd.prog 28 [I x] w (.tuple #[I (pp 4 x : Nat), I 0]) := by
  refine enter Tryd.func28 Tryd.ntmps28 ?_
  refine c_seq <| c_reg <| s_y y_as <| s_y y_as <| s_nil <| q_then <| c_seq <| c_seq <| c_reg <| s_y y_mv <| s_pure (fun w' hw => (by have h9 := r5_Private_ok w' (x : Int); rw [pvB_of h0 h] at h9; exact h9)) <| s_y (v := .bool false) (y_not (b := true)) <| s_nil <| q_then <| c_f <| c_skip <| q_then <| c_seq <| c_reg <| s_y y_mv <| s_pure (fun w' hw => rBase_el w' x h) <| s_y y_ext <| s_y y_ext <| s_y y_as <| s_y y_as <| s_nil <| q_then <| c_ret <| ?_
  exact ret2 Tryd.results28 rv_t rv_t fun w' hw => ⟨rfl, hw⟩
theorem r5_Public_no (w : World) (x : Int) (h : pvB x = false) : Pure Tryd.prog 28 [I x] w (.tuple #[I 0, I 50]) := by
  refine enter Tryd.func28 Tryd.ntmps28 ?_
  refine c_seq <| c_reg <| s_y y_as <| s_y y_as <| s_nil <| q_then <| c_seq <| c_seq <| c_reg <| s_y y_mv <| s_pure (fun w' hw => (by have h9 := r5_Private_ok w' x; rw [h] at h9; exact h9)) <| s_y (v := .bool true) (y_not (b := false)) <| s_nil <| q_then <| c_t <| c_seq <| c_reg <| s_y y_as <| s_y y_as <| s_nil <| q_then <| c_ret <| q_ret <| ?_
  exact ret2 Tryd.results28 rv_t rv_t fun w' hw => ⟨rfl, hw⟩
theorem r3_Of_ok (w : World) (n : Int) : Pure Tryd.prog 33 [I n] w (I ((n % 4611686018427387904).toNat % 2305843009213688669 : Nat)) := by
  have h0 := Int.emod_nonneg n (show (4611686018427387904 : Int) ≠ 0 by decide)
  have h1 := Int.emod_lt_of_pos n (show (0 : Int) < 4611686018427387904 by decide)
  refine enter Tryd.func33 Tryd.ntmps33 ?_
  refine c_seq <| c_reg <| s_y y_as <| s_nil <| q_then <| c_seq <| c_reg <| s_y y_mv <| s_y (y_maski 62 (p := n)) <| ?_
  rw [show (2 : Int) ^ 62 = 4611686018427387904 by decide]
  refine s_y (y_rem (p := n % 4611686018427387904) (q := 2305843009213688669)) <| ?_
  rw [show n % 4611686018427387904 % 2305843009213688669 = (((n % 4611686018427387904).toNat % 2305843009213688669 : Nat) : Int) by omega]
  refine s_y y_as <| s_nil <| q_then <| c_ret <| ?_
  exact ret1 Tryd.results33 rv_t fun w' hw => ⟨rfl, hw⟩
theorem r5_Key_ok (w : World) (n : Int) : Pure Tryd.prog 13 [I n] w (I (k5N n : Nat)) := by
  refine enter Tryd.func13 Tryd.ntmps13 ?_
  have hlt := Nat.mod_lt (n % 4611686018427387904).toNat (show 0 < 2305843009213688669 by decide)
  refine c_seq <| c_reg <| s_y y_as <| s_nil <| q_then <| c_seq <| c_reg <| s_y y_mv <| s_pure (fun w' hw => r3_Of_ok w' n) <| ?_
  rw [show k5N n = 1 + (n % 4611686018427387904).toNat % 2305843009213688669 % 2305843009213688668 from rfl]
  generalize (n % 4611686018427387904).toNat % 2305843009213688669 = z at *
  refine s_y (y_rem (p := ((z : Nat) : Int)) (q := 2305843009213688668)) <| s_y (y_add (p := 1) (q := ((z : Nat) : Int) % 2305843009213688668)) <| ?_
  rw [show (1 : Int) + ((z : Nat) : Int) % 2305843009213688668 = ((1 + z % 2305843009213688668 : Nat) : Int) by omega]
  refine s_y y_as <| s_nil <| q_then <| c_ret <| ?_
  exact ret1 Tryd.results13 rv_t fun w' hw => ⟨rfl, hw⟩
theorem r5_Bytes_ok (w : World) (n : Nat) (hn : n < 9223372036854775808) : Gives Tryd.prog 52 [I n] w [] (fun y : Option Addr × Nat => .slice y.1 8 y.2) (fun y => [.row y.1 y.2 5 1 8 (bs (be n 8))]) (fun _ => True) := by
  have hbl := be_length n 8
  refine enter Tryd.func52 Tryd.ntmps52 ?_
  refine c_seq <| c_reg <| s_y y_as <| s_nil <| q_then <| c_seq <| c_reg <| s_bsl0 fun b5 => s_y y_as <| s_nil <| q_then <| c_seq <| c_seq <| c_reg <| s_y y_as <| s_nil <| q_then <| c_block <| ?_
  refine c_loop3 (fun (j : Nat) (a : Option Addr) (c2 : Nat) => [(0, I n), (3, .slice a j c2), (4, I (7 - (j : Int)))]) (fun j a c2 => [.row a c2 5 1 j (bs ((be n 8).take j))]) (fun j _ _ => j ≤ 8) (fun j _ _ => 8 - j) 0 (some ⟨b5, 0, none⟩) 0 (by omega) ⟨rfl, rfl, rfl, trivial⟩ (.refl _) ?_
  intro j a c2 hj
  by_cases hj8 : j < 8
  · refine c_seq <| c_seq <| c_reg <| s_y y_mv <| s_kt (y_geq (p := 7 - (j : Int)) (q := 0)) (by omega) <| s_nil <| q_then <| c_t <| c_skip <| q_then <| c_seq <| c_block <| c_reg <| s_y y_mv <| s_y y_mv <| s_y (y_cvn (k := .u64) (p := ((n : Nat) : Int)) (hw := wrap_u64 (by omega) (by omega))) <| s_y y_mv <| s_y (y_mul (p := 8) (q := 7 - (j : Int))) <| ?_
    rw [show (8 : Int) * (7 - (j : Int)) = ((56 - 8 * j : Nat) : Int) by omega]
    refine s_y (y_shr (p := n) (q := ((56 - 8 * j : Nat) : Int))) <| ?_
    rw [Int.toNat_natCast]
    refine s_y y_cv8 <| ?_
    rw [cvn8, ← be_at n hj8]
    refine s_bslr (cs := bs [(be n 8).getD j 0]) fun b17 => s_app (m := 1) (srcB (q := [(be n 8).getD j 0]) (rdR (.head _)) rfl) (h1 := fun v hv => bs_one hv) (hm := .tail _ (.head _)) (hrep := fun _ _ => .tail _ (.head _)) fun a18 c18 h18 => ?_
    rw [← bs_append, ← Eng.take_snoc (be n 8) j 0 (by omega)]
    refine s_y y_as <| s_nil <| q_nb <| q_then <| c_reg <| s_y y_mv <| s_y (y_sub (p := 7 - (j : Int)) (q := 1)) <| ?_
    rw [show (7 : Int) - (j : Int) - 1 = 7 - ((j + 1 : Nat) : Int) by omega]
    refine s_y y_as <| s_nil <| q_round3 (x := j) (y := a) (z := c2) (j + 1) a18 c18 (by omega) (by omega) ⟨rfl, rfl, rfl, trivial⟩ (.cons _ (.refl _))
  · obtain rfl : j = 8 := by omega
    rw [List.take_of_length_le (by omega)]
    refine c_seq <| c_seq <| c_reg <| s_y y_mv <| s_kf (y_geq (p := 7 - ((8 : Nat) : Int)) (q := 0)) (by omega) <| s_nil <| q_then <| c_f <| c_exit <| q_ex <| q_ex <| q_exb <| q_then <| c_seq <| c_reg <| s_y y_mv <| s_y y_as <| s_nil <| q_then <| c_ret <| ?_
    exact ret1 Tryd.results52 rv_t fun w' hw => ⟨(a, c2), trivial, rfl, hw⟩
theorem w_key_ok (w : World) {kf : FuncId} [hkf : HF Tryd.prog kf] (b p u v : Nat) (e : Int) (hg : LS w) (hp : p < 9223372036854775808) (hu : u < 9223372036854775808) (hv : v < 9223372036854775808)
    (hcl : ∀ w', St w [] w' [] → Pure Tryd.prog kf [I e, .pointer (some ⟨b, 0, none⟩)] w' (.tuple #[I v, I 0])) :
    Pure Tryd.prog 27 [.agg #[I p, .func (.func kf) #[] #[.pointer (some ⟨b, 0, none⟩)]], I u, I e] w (.agg (bs (wkey p u v)).toArray) := by
  have hrl := raw_length p u v
  refine enter Tryd.func27 Tryd.ntmps27 ?_
  refine c_seq <| c_reg <| s_box rfl fun b3 => s_alloc fun b6 => s_nil <| q_then <| c_seq <| c_reg <| s_y y_fa <| s_y (y_ld (b := b3) (v := .func (.func kf) #[] #[.pointer (some ⟨b, 0, none⟩)])) <| s_y y_mv <| s_pure (fun w' hw => hcl w' (hw.sub (List.nil_sublist _))) <| s_y y_mv <| s_y y_ext <| s_y y_ext <| s_y y_as <| s_y y_as <| s_nil <| q_then <| c_seq <| c_reg <| s_alloc fun b9 => s_nil <| q_then <| c_seq <| c_seq <| c_reg <| s_y y_fa <| s_y (y_ld (b := b3) (v := I p)) <| s_y y_mv <| s_y y_mv <| s_y (y_blda (cs := [I p, I u, I v])) <| s_y y_mv <| s_nil <| q_then <| c_block <| ?_
  refine c_loop (fun i : Nat => [(6, .pointer (some ⟨b6, 0, none⟩)), (9, .pointer (some ⟨b9, 0, none⟩)), (24, .agg #[I p, I u, I v]), (25, I i)]) (fun i => [.blk b9 (.cells (bs ((raw p u v).take (8 * i) ++ (List.replicate 24 0).drop (8 * i))).toArray 68 (0, 0)), .blk b6 (.cells (bs (List.replicate 32 0)).toArray 32 (0, 0))]) (fun i => i ≤ 3) (fun i => 3 - i) 0 (by omega) ⟨rfl, rfl, rfl, rfl, trivial⟩ (.cons_cons _ (.cons_cons _ (List.nil_sublist _))) ?_
  intro i hi
  by_cases h3 : i < 3
  · obtain ⟨z, hz⟩ : ∃ z, [p, u, v].getD i 0 = z := ⟨_, rfl⟩
    have hix : (#[I p, I u, I v] : Array Value)[i]? = some (I (z : Int)) := by
      match i, h3 with
      | 0, _ => rw [← hz]; rfl
      | 1, _ => rw [← hz]; rfl
      | 2, _ => rw [← hz]; rfl
    have hzl : z < 9223372036854775808 := by
      match i, h3 with
      | 0, _ => rw [← hz]; exact hp
      | 1, _ => rw [← hz]; exact hu
      | 2, _ => rw [← hz]; exact hv
    refine c_seq <| c_reg <| s_kt (y_lss (p := ((i : Nat) : Int)) (q := 3)) (by omega) <| s_nil <| q_then <| c_seq <| c_t <| c_skip <| q_then <| c_seq <| c_block <| c_seq <| c_reg <| s_y y_mv <| s_y (y_ixv (v := I (z : Int)) i hix) <| s_y y_as <| s_y y_as <| s_nil <| q_then <| c_seq <| c_reg <| s_y y_mv <| s_nil <| q_then <| c_block <| ?_
    refine c_loop (fun j : Nat => [(6, .pointer (some ⟨b6, 0, none⟩)), (9, .pointer (some ⟨b9, 0, none⟩)), (10, I i), (11, I z), (24, .agg #[I p, I u, I v]), (25, I i), (29, I j)]) (fun j => [.blk b9 (.cells (bs ((raw p u v).take (8 * i + j) ++ (List.replicate 24 0).drop (8 * i + j))).toArray 68 (0, 0)), .blk b6 (.cells (bs (List.replicate 32 0)).toArray 32 (0, 0))]) (fun j => j ≤ 8) (fun j => 8 - j) 0 (by omega) ⟨rfl, rfl, rfl, rfl, rfl, rfl, rfl, trivial⟩ (.refl _) ?_
    intro j hj
    by_cases h8 : j < 8
    · have hat := raw_at p u v h3 h8
      rw [hz] at hat
      have hset := mix_set (raw p u v) (List.replicate 24 (0 : UInt8)) 0 (UInt8.ofNat (z / 2 ^ (56 - 8 * j))) (8 * i + j) (by rw [List.length_replicate]; omega) (by rw [hrl, List.length_replicate]) hat
      refine c_seq <| c_reg <| s_kt (y_lss (p := ((j : Nat) : Int)) (q := 8)) (by omega) <| s_nil <| q_then <| c_seq <| c_t <| c_skip <| q_then <| c_seq <| c_block <| c_seq <| c_reg <| s_y y_mv <| s_y y_as <| s_nil <| q_then <| c_reg <| s_y y_mv <| s_y (y_mul (p := 8) (q := ((i : Nat) : Int))) <| s_y y_mv <| s_y (y_add (p := 8 * ((i : Nat) : Int)) (q := ((j : Nat) : Int))) <| s_y y_mv <| s_y (y_cvn (k := .u64) (p := ((z : Nat) : Int)) (hw := wrap_u64 (by omega) (by omega))) <| s_y y_mv <| s_y (y_mul (p := 8) (q := ((j : Nat) : Int))) <| s_y (y_sub (p := 56) (q := 8 * ((j : Nat) : Int))) <| ?_
      rw [show (56 : Int) - 8 * ((j : Nat) : Int) = ((56 - 8 * j : Nat) : Int) by omega]
      refine s_y (y_shr (p := z) (q := ((56 - 8 * j : Nat) : Int))) <| ?_
      rw [Int.toNat_natCast]
      refine s_y y_cv8 <| ?_
      rw [cvn8]
      refine s_y (y_ixn (8 * i + j) (m := 24)) <| s_stb (?_) (hl := by rw [List.length_append, List.length_take, List.length_drop, hrl, List.length_replicate]; omega)
      rw [hset]
      refine s_nil <| q_nb <| q_then <| c_reg <| s_y (y_add (p := ((j : Nat) : Int)) (q := 1)) <| s_y y_mv <| s_nil <| ?_
      rw [show ((j : Nat) : Int) + 1 = ((j + 1 : Nat) : Int) by omega, show 8 * i + j + 1 = 8 * i + (j + 1) by omega]
      exact q_round (j + 1) (by omega) (by omega) ⟨rfl, rfl, rfl, rfl, rfl, rfl, rfl, trivial⟩ (.refl _)
    · obtain rfl : j = 8 := by omega
      rw [show 8 * i + 8 = 8 * (i + 1) by omega]
      refine c_seq <| c_reg <| s_kf (y_lss (p := ((8 : Nat) : Int)) (q := 8)) (by omega) <| s_nil <| q_then <| c_seq <| c_f <| c_exit <| q_ex <| q_ex <| q_exb <| q_nb <| q_then <| c_reg <| s_y (y_add (p := ((i : Nat) : Int)) (q := 1)) <| s_y y_mv <| s_nil <| ?_
      rw [show ((i : Nat) : Int) + 1 = ((i + 1 : Nat) : Int) by omega]
      exact q_round (i + 1) (by omega) (by omega) ⟨rfl, rfl, rfl, rfl, trivial⟩ (.refl _)
  · obtain rfl : i = 3 := by omega
    rw [List.take_of_length_le (by omega), List.drop_eq_nil_of_le (by rw [List.length_replicate]; omega), List.append_nil]
    refine c_seq <| c_reg <| s_kf (y_lss (p := ((3 : Nat) : Int)) (q := 3)) (by omega) <| s_nil <| q_then <| c_seq <| c_f <| c_exit <| q_ex <| q_ex <| q_exb <| q_then <| c_seq <| c_reg <| s_y y_sla <| s_pure (fun w' hw => (by
      have h9 := digest_Tagged_ok w' lbWrap (some ⟨b9, 0, none⟩) 24 (raw p u v) (hg.st hw) (by decide) (rd_blkB (e := 68) (.head _) w' hw) (by omega)
      rw [hrl] at h9
      exact h9)) <| s_sta (b := b6) (vs := (bs (wkey p u v)).toArray) (cs := (bs (List.replicate 32 0)).toArray) (h1 := fun v hv => bs_one (by simpa using hv)) (hl := ((hz32 (wkey_length _ _ _))).trans ((hz32 List.length_replicate)).symm) (hs1 := (hz32 (wkey_length _ _ _))) ?_
    refine s_nil <| q_then <| c_ret <| ?_
    exact ret1 Tryd.results27 (rv_ca (b := b6) (hl := hz32 (wkey_length _ _ _))) fun w' hw => ⟨rfl, hw.sub (List.nil_sublist _)⟩
theorem r9_Key_ok (w : World) (p u v : Nat) (hp : p < 9223372036854775808) (hu : u < 9223372036854775808) (hv : v < 9223372036854775808) :
    Pure Tryd.prog 32 [I p, I u, I v] w (.agg (bs (wkey p u v)).toArray) := by
  have hrl := raw_length p u v
  refine enter Tryd.func32 Tryd.ntmps32 ?_
  refine c_seq <| c_reg <| s_alloc fun b6 => s_nil <| q_then <| c_seq <| c_reg <| s_y y_mv <| s_gives (fun w' hw => r5_Bytes_ok w' p hp) (fun y _ => ?_)
  obtain ⟨a9, c9⟩ := y
  refine s_y y_mv <| s_gives (fun w' hw => r5_Bytes_ok w' u hu) (fun y _ => ?_)
  obtain ⟨a11, c11⟩ := y
  refine s_app (m := 8) (srcB (q := be u 8) (rdR (.head _)) (be_length _ _)) (h1 := fun v hv => bs_one hv) (hm := .tail _ (.head _)) (hrep := fun _ _ => .tail _ (.head _)) fun a12 c12 h12 => ?_
  rw [← bs_append]
  refine s_y y_mv <| s_gives (fun w' hw => r5_Bytes_ok w' v hv) (fun y _ => ?_)
  obtain ⟨a14, c14⟩ := y
  refine s_app (m := 8) (srcB (q := be v 8) (rdR (.head _)) (be_length _ _)) (h1 := fun v hv => bs_one hv) (hm := .tail _ (.tail _ (.head _))) (hrep := fun _ _ => .tail _ (.tail _ (.head _))) fun a15 c15 h15 => ?_
  rw [← bs_append]
  refine s_y y_as <| s_nil <| q_then <| c_seq <| c_reg <| s_y y_mv <| s_pure (fun w' hw => (by
    have h9 := ref02_Tagged_ok w' lbWrap a15 c15 (raw p u v) (by decide) (rdR (.tail _ (.tail _ (.head _))) w' hw) (by omega)
    rw [hrl] at h9
    exact h9)) <| s_sta (b := b6) (vs := (bs (wkey p u v)).toArray) (cs := (bs (List.replicate 32 0)).toArray) (h1 := fun v hv => bs_one (by simpa using hv)) (hl := ((hz32 (wkey_length _ _ _))).trans ((hz32 List.length_replicate)).symm) (hs1 := (hz32 (wkey_length _ _ _))) ?_
  refine s_nil <| q_then <| c_ret <| ?_
  exact ret1 Tryd.results32 (rv_ca (b := b6) (hl := hz32 (wkey_length _ _ _))) fun w' hw => ⟨rfl, hw.sub (List.nil_sublist _)⟩
theorem w_Check_ok (w : World) (u : Int) (a : Option Addr) (n c : Nat) (hn : n < 1000000000000000000) : Pure Tryd.prog 16 [.agg #[I u, .slice a n c]] w (I (wchk u n)) := by
  refine enter Tryd.func16 Tryd.ntmps16 ?_
  refine c_seq <| c_reg <| s_box rfl fun b1 => s_y y_as <| s_nil <| q_then <| c_seq <| c_seq <| c_reg <| s_y y_fa <| s_y (y_ld (b := b1) (v := .slice a n c)) <| s_y y_len <| s_y y_as <| s_nil <| q_then <| c_seq <| c_reg <| s_y y_fa <| s_y (y_ld (b := b1) (v := I u)) <| s_pure (fun w' hw => gCheck_ok w' u) <| ?_
  cases h : el u with
  | false =>
    rw [show wchk u n = 90 by rw [wchk, if_neg (by rw [h]; simp)], show chk u = 40 by rw [chk, h]; rfl]
    refine s_nt (y_neq (p := 40) (q := 0)) (by decide) <| s_y y_mv <| s_no <| s_no <| s_y y_pk <| s_y y_mv <| s_no <| s_no <| s_y y_pk <| s_nil <| q_then <| c_t <| c_seq <| c_reg <| s_y y_as <| s_nil <| q_then <| c_ret <| q_ret <| ?_
    exact ret1 Tryd.results16 rv_t fun w' hw => ⟨rfl, hw.sub (List.nil_sublist _)⟩
  | true =>
    rw [show chk u = 0 by rw [chk, h]; rfl]
    by_cases h1 : n < 16
    · rw [show wchk u n = 90 by rw [wchk, if_neg (by omega)]]
      refine s_nf (y_neq (p := 0) (q := 0)) rfl <| s_y y_mv <| s_y y_mv <| s_kt (y_lss (p := ((n : Nat) : Int)) (q := 16)) (by omega) <| s_y y_pk <| s_y y_mv <| s_no <| s_no <| s_y y_pk <| s_nil <| q_then <| c_t <| c_seq <| c_reg <| s_y y_as <| s_nil <| q_then <| c_ret <| q_ret <| ?_
      exact ret1 Tryd.results16 rv_t fun w' hw => ⟨rfl, hw.sub (List.nil_sublist _)⟩
    by_cases h2 : 65552 < n
    · rw [show wchk u n = 90 by rw [wchk, if_neg (by omega)]]
      refine s_nf (y_neq (p := 0) (q := 0)) rfl <| s_y y_mv <| s_y y_mv <| s_kf (y_lss (p := ((n : Nat) : Int)) (q := 16)) (by omega) <| s_y y_pk <| s_y y_mv <| s_y y_mv <| s_kt (y_gtr (p := ((n : Nat) : Int)) (q := 65552)) (by omega) <| s_y y_pk <| s_nil <| q_then <| c_t <| c_seq <| c_reg <| s_y y_as <| s_nil <| q_then <| c_ret <| q_ret <| ?_
      exact ret1 Tryd.results16 rv_t fun w' hw => ⟨rfl, hw.sub (List.nil_sublist _)⟩
    · rw [show wchk u n = 0 by rw [wchk, if_pos ⟨h, by omega, by omega⟩]]
      refine s_nf (y_neq (p := 0) (q := 0)) rfl <| s_y y_mv <| s_y y_mv <| s_kf (y_lss (p := ((n : Nat) : Int)) (q := 16)) (by omega) <| s_y y_pk <| s_y y_mv <| s_y y_mv <| s_kf (y_gtr (p := ((n : Nat) : Int)) (q := 65552)) (by omega) <| s_y y_pk <| s_nil <| q_then <| c_f <| c_skip <| q_then <| c_seq <| c_reg <| s_y y_as <| s_nil <| q_then <| c_ret <| ?_
      exact ret1 Tryd.results16 rv_t fun w' hw => ⟨rfl, hw.sub (List.nil_sublist _)⟩
theorem r9_Check_ok (w : World) (u : Int) (a : Option Addr) (n c : Nat) (hn : n < 1000000000000000000) : Pure Tryd.prog 29 [.agg #[I u, .slice a n c]] w (I (wchk u n)) := by
  refine enter Tryd.func29 Tryd.ntmps29 ?_
  refine c_seq <| c_reg <| s_box rfl fun b1 => s_y y_as <| s_nil <| q_then <| c_seq <| c_seq <| c_reg <| s_y y_fa <| s_y (y_ld (b := b1) (v := I u)) <| s_pure (fun w' hw => rCheck_ok w' u) <| ?_
  cases h : el u with
  | false =>
    rw [show wchk u n = 90 by rw [wchk, if_neg (by rw [h]; simp)], show chk u = 40 by rw [chk, h]; rfl]
    refine s_nt (y_neq (p := 40) (q := 0)) (by decide) <| s_y y_mv <| s_no <| s_no <| s_no <| s_no <| s_y y_pk <| s_y y_mv <| s_no <| s_no <| s_no <| s_no <| s_y y_pk <| s_nil <| q_then <| c_t <| c_seq <| c_reg <| s_y y_as <| s_nil <| q_then <| c_ret <| q_ret <| ?_
    exact ret1 Tryd.results29 rv_t fun w' hw => ⟨rfl, hw.sub (List.nil_sublist _)⟩
  | true =>
    rw [show chk u = 0 by rw [chk, h]; rfl]
    by_cases h1 : n < 16
    · rw [show wchk u n = 90 by rw [wchk, if_neg (by omega)]]
      refine s_nf (y_neq (p := 0) (q := 0)) rfl <| s_y y_mv <| s_y y_fa <| s_y (y_ld (b := b1) (v := .slice a n c)) <| s_y y_len <| s_kt (y_lss (p := ((n : Nat) : Int)) (q := 16)) (by omega) <| s_y y_pk <| s_y y_mv <| s_no <| s_no <| s_no <| s_no <| s_y y_pk <| s_nil <| q_then <| c_t <| c_seq <| c_reg <| s_y y_as <| s_nil <| q_then <| c_ret <| q_ret <| ?_
      exact ret1 Tryd.results29 rv_t fun w' hw => ⟨rfl, hw.sub (List.nil_sublist _)⟩
    by_cases h2 : 65552 < n
    · rw [show wchk u n = 90 by rw [wchk, if_neg (by omega)]]
      refine s_nf (y_neq (p := 0) (q := 0)) rfl <| s_y y_mv <| s_y y_fa <| s_y (y_ld (b := b1) (v := .slice a n c)) <| s_y y_len <| s_kf (y_lss (p := ((n : Nat) : Int)) (q := 16)) (by omega) <| s_y y_pk <| s_y y_mv <| s_y y_fa <| s_y (y_ld (b := b1) (v := .slice a n c)) <| s_y y_len <| s_kt (y_gtr (p := ((n : Nat) : Int)) (q := 65552)) (by omega) <| s_y y_pk <| s_nil <| q_then <| c_t <| c_seq <| c_reg <| s_y y_as <| s_nil <| q_then <| c_ret <| q_ret <| ?_
      exact ret1 Tryd.results29 rv_t fun w' hw => ⟨rfl, hw.sub (List.nil_sublist _)⟩
    · rw [show wchk u n = 0 by rw [wchk, if_pos ⟨h, by omega, by omega⟩]]
      refine s_nf (y_neq (p := 0) (q := 0)) rfl <| s_y y_mv <| s_y y_fa <| s_y (y_ld (b := b1) (v := .slice a n c)) <| s_y y_len <| s_kf (y_lss (p := ((n : Nat) : Int)) (q := 16)) (by omega) <| s_y y_pk <| s_y y_mv <| s_y y_fa <| s_y (y_ld (b := b1) (v := .slice a n c)) <| s_y y_len <| s_kf (y_gtr (p := ((n : Nat) : Int)) (q := 65552)) (by omega) <| s_y y_pk <| s_nil <| q_then <| c_f <| c_skip <| q_then <| c_seq <| c_reg <| s_y y_as <| s_nil <| q_then <| c_ret <| ?_
      exact ret1 Tryd.results29 rv_t fun w' hw => ⟨rfl, hw.sub (List.nil_sublist _)⟩
end Go.Proofs.YtchpcabehchfjaaDoor
