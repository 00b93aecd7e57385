/- The specification of padding computes the same. -/
import Derived.Test.YtnkomkfciojglaaDoorPadLaw
namespace Go.Proofs.YtnkomkfciojglaaDoor
open Go Eng

theorem plen_pow (k : Nat) (h : k < 6) : 4 * plen k = plen ((k : Int) + 1) ∨ k = 5 := by
  have : k = 0 ∨ k = 1 ∨ k = 2 ∨ k = 3 ∨ k = 4 ∨ k = 5 := by omega
  rcases this with rfl | rfl | rfl | rfl | rfl | rfl
  · exact .inl rfl
  · exact .inl rfl
  · exact .inl rfl
  · exact .inl rfl
  · exact .inl rfl
  · exact .inr rfl

theorem ref28_Length_ok (w : World) (i : Int) : Pure Tryd.prog 14 [I i] w (.tuple #[I (lnV i), I (lnE i)]) := by
  refine enter Tryd.func14 Tryd.ntmps14 ?_
  refine c_seq <| c_reg <| s_y y_as <| s_y y_as <| s_nil <| q_then <| c_seq <| c_seq <| c_reg <| s_y y_mv <| s_ifd y_lss (fun h7 => ?_) (fun h7 => ?_)
  · refine s_y y_mv <| s_no <| s_no <| s_y y_pk <| s_nil <| q_then <| c_t <| c_seq <| c_reg <| s_y y_as <| s_y y_as <| s_nil <| q_then <| c_ret <| q_ret <| ?_
    exact ret2 Tryd.results14 rv_t rv_t fun w' hw => ⟨by simp [lnV, lnE, h7], hw⟩
  · refine s_y y_mv <| s_y y_mv <| s_y y_geq <| s_y y_pk <| s_nil <| q_then <| c_ifd (fun h11 => ?_) (fun h11 => ?_)
    · refine c_seq <| c_reg <| s_y y_as <| s_y y_as <| s_nil <| q_then <| c_ret <| q_ret <| ?_
      exact ret2 Tryd.results14 rv_t rv_t fun w' hw => ⟨by simp [lnV, lnE, h11], hw⟩
    · refine c_skip <| q_then <| c_seq <| c_reg <| s_y y_as <| s_nil <| q_then <| c_seq <| c_seq <| c_reg <| s_y y_as <| s_nil <| q_then <| c_block <| ?_
      refine c_loop (fun k : Nat => [(0, I i), (2, I 0), (3, I 0), (4, I (plen k)), (5, I k)]) (fun _ => []) (fun k => (k : Int) ≤ i) (fun k => 6 - k) 0 (by omega) ⟨rfl, rfl, rfl, rfl, rfl, trivial⟩ (List.Sublist.refl _) ?_
      intro k hk
      refine c_seq <| c_seq <| c_reg <| s_y y_mv <| s_y y_mv <| s_y y_lss <| s_nil <| q_then <| c_ifd (fun h14 => ?_) (fun h14 => ?_)
      · have hp := plen_le k
        have hq := plen_pow k (by omega)
        refine c_skip <| q_then <| c_seq <| c_block <| c_reg <| s_y y_mv <| s_y y_mul <| s_y y_as <| s_nil <| q_nb <| q_then <| c_reg <| s_y y_mv <| s_y y_add <| s_y y_as <| s_nil <| ?_
        rw [hq.resolve_right (by omega)]
        exact q_round (k + 1) (by omega) (by omega) ⟨rfl, rfl, rfl, rfl, rfl, trivial⟩ (List.Sublist.refl _)
      · have e : (k : Int) = i := by omega
        refine c_exit <| q_ex <| q_ex <| q_exb <| q_then <| c_seq <| c_reg <| s_y y_mv <| s_y y_as <| s_y y_as <| s_nil <| q_then <| c_ret <| ?_
        exact ret2 Tryd.results14 rv_t rv_t fun w' hw => ⟨by simp [lnV, lnE, h7, h11, e], hw⟩

theorem ref28_Class_ok (w : World) (n : Int) (hn : n ≤ 9223372036854775807) : Pure Tryd.prog 12 [I n] w (.tuple #[I (clV n), I (clE n)]) := by
  refine enter Tryd.func12 Tryd.ntmps12 ?_
  refine c_seq <| c_reg <| s_y y_as <| s_y y_as <| s_nil <| q_then <| c_seq <| c_seq <| c_reg <| s_y y_mv <| s_y y_lss <| s_nil <| q_then <| c_ifd (fun h8 => ?_) (fun h8 => ?_)
  · refine c_seq <| c_reg <| s_y y_as <| s_y y_as <| s_nil <| q_then <| c_ret <| q_ret <| ?_
    exact ret2 Tryd.results12 rv_t rv_t fun w' hw => ⟨by simp [clV, clE, h8], hw⟩
  · refine c_skip <| q_then <| c_seq <| c_seq <| c_reg <| s_y y_as <| s_nil <| q_then <| c_block <| ?_
    refine c_loop (fun k : Nat => [(0, I n), (2, I 0), (3, I 0), (4, I k)]) (fun _ => []) (fun k => k ≤ 6 ∧ ∀ j : Nat, j < k → ¬ n + 4 ≤ plen j) (fun k => 6 - k) 0 ⟨by omega, by omega⟩ ⟨rfl, rfl, rfl, rfl, trivial⟩ (List.Sublist.refl _) ?_
    rintro k ⟨hk, hno⟩
    refine c_seq <| c_seq <| c_reg <| s_y y_mv <| s_y y_lss <| s_nil <| q_then <| c_ifd (fun h10 => ?_) (fun h10 => ?_)
    · have hp := plen_le k
      have e1 : lnV k = plen k := by have : ¬ ((k : Int) < 0 ∨ 6 ≤ (k : Int)) := by omega
                                     rw [lnV, if_neg this]
      refine c_skip <| q_then <| c_seq <| c_block <| c_seq <| c_reg <| s_y y_mv <| s_pure (fun w' hw => ref28_Length_ok w' k) <| s_y y_mv <| s_y y_ext <| s_y y_ext <| ?_
      rw [e1]
      refine s_y y_as <| s_y y_as <| s_nil <| q_then <| c_seq <| c_reg <| s_y y_mv <| s_y y_mv <| s_y y_sub <| s_y y_leq <| s_nil <| q_then <| c_ifd (fun h21 => ?_) (fun h21 => ?_)
      · have hcl : (k : Int) = pcl n ∧ n ≤ 65532 := by
          have n0 := hno 0
          have n1 := hno 1
          have n2 := hno 2
          have n3 := hno 3
          have n4 := hno 4
          have h7 : k = 0 ∨ k = 1 ∨ k = 2 ∨ k = 3 ∨ k = 4 ∨ k = 5 := by omega
          rcases h7 with rfl | rfl | rfl | rfl | rfl | rfl <;> simp [plen] at n0 n1 n2 n3 n4 h21 <;> simp [pcl] <;> (repeat' split) <;> omega
        have e2 : ¬ (n < 0 ∨ 65532 < n) := by omega
        refine c_seq <| c_reg <| s_y y_mv <| s_y y_as <| s_y y_as <| s_nil <| q_then <| c_ret <| q_retb <| q_ret <| q_ret <| q_retb <| q_ret <| ?_
        exact ret2 Tryd.results12 rv_t rv_t fun w' hw => ⟨by simp [clV, clE, e2, hcl.1], hw⟩
      · refine c_skip <| q_nb <| q_then <| c_reg <| s_y y_mv <| s_y y_add <| s_y y_as <| s_nil <| q_round (k + 1) ⟨by omega, ?_⟩ (by omega) ⟨rfl, rfl, rfl, rfl, trivial⟩ (List.Sublist.refl _)
        intro j hj
        rcases Nat.lt_or_ge j k with h9 | h9
        · exact hno j h9
        · have : j = k := by omega
          subst this
          omega
    · have h5 := hno 5 (by omega)
      have e2 : n < 0 ∨ 65532 < n := by simp [plen] at h5; omega
      refine c_exit <| q_ex <| q_ex <| q_exb <| q_then <| c_seq <| c_reg <| s_y y_as <| s_y y_as <| s_nil <| q_then <| c_ret <| ?_
      exact ret2 Tryd.results12 rv_t rv_t fun w' hw => ⟨by simp [clV, clE, e2], hw⟩

theorem ref28_Pad_ok (w : World) (a : Option Addr) (c : Nat) (q : List UInt8) (hr : Rd w a (bs q)) (hq : q.length < 9223372036854775807) :
    Gives Tryd.prog 16 [.slice a q.length c] w [] (fun x : Option Addr × Nat => .tuple #[.slice x.1 (pad q).length x.2, I (padE q)])
      (fun x => [.row x.1 x.2 5 1 (pad q).length (bs (pad q))]) (fun _ => True) := by
  refine enter Tryd.func16 Tryd.ntmps16 ?_
  refine c_seq <| c_reg <| s_y y_as <| s_y y_as <| s_nil <| q_then <| c_seq <| c_reg <| s_y y_mv <| s_y y_len <| s_pure (fun w' hw => ref28_Class_ok w' q.length (by omega)) <| s_y y_mv <| s_y y_ext <| s_y y_ext <| s_y y_as <| s_y y_as <| s_nil <| q_then <| c_seq <| c_seq <| c_reg <| s_y y_mv <| s_y y_neq <| s_nil <| q_then <| c_ifn (fun h17 => ?_) (fun h17 => ?_)
  · have hbig : 65532 < q.length := by
      by_cases hc : (q.length : Int) < 0 ∨ 65532 < (q.length : Int)
      · omega
      · exact absurd (by simp [clE, hc]) h17
    have e1 : clE q.length = padE q := by
      have : (q.length : Int) < 0 ∨ 65532 < (q.length : Int) := by omega
      simp [clE, padE, hbig, this]
    have e2 : pad q = [] := by simp [pad, hbig]
    refine c_seq <| c_reg <| s_y y_mv <| s_y y_as <| s_y y_as <| s_nil <| q_then <| c_ret <| q_ret <| ?_
    refine ret2 Tryd.results16 rv_t rv_t fun w' hw => ⟨(none, 0), trivial, ?_, ?_⟩
    · rw [e1, e2]; rfl
    · rw [e2]; exact hw.nilRow _ _
  · have hsm : q.length ≤ 65532 := by
      by_cases hc : (q.length : Int) < 0 ∨ 65532 < (q.length : Int)
      · exact absurd h17 (by simp [clE, hc])
      · omega
    have e1 : clV q.length = pcl q.length := by
      have : ¬ ((q.length : Int) < 0 ∨ 65532 < (q.length : Int)) := by omega
      simp [clV, this]
    have hpb := pcl_bd q.length
    have hpl := plen_le (pcl q.length)
    have hpp := plen_pcl (n := q.length) (by omega) (by omega)
    have e2 : lnV (pcl q.length) = plen (pcl q.length) := by have : ¬ (pcl q.length < 0 ∨ 6 ≤ pcl q.length) := by omega
                                                             rw [lnV, if_neg this]
    have e7 : padE q = 0 := by rw [padE, if_neg (by omega)]
    have hpad := pad_length hsm
    rw [e1]
    refine c_skip <| q_then <| c_seq <| c_reg <| s_y y_mv <| s_pure (fun w' hw => ref28_Length_ok w' (pcl q.length)) <| s_y y_mv <| s_y y_ext <| s_y y_ext <| ?_
    rw [e2]
    refine s_y y_as <| s_y y_as <| s_nil <| q_then <| c_seq <| c_reg <| s_y y_mv <| s_y y_len <| s_y y_as <| s_nil <| q_then <| c_seq <| c_reg <| s_y y_mv <| s_y y_quo <| s_y y_cv8 <| s_y y_mv <| s_y y_quo <| s_y y_cv8 <| s_y y_mv <| s_y y_quo <| s_y y_cv8 <| s_y y_mv <| s_y y_cv8 <| s_bslr (cs := [B (UInt8.ofNat ((q.length : Int) / 16777216 % 256).toNat), B (UInt8.ofNat ((q.length : Int) / 65536 % 256).toNat), B (UInt8.ofNat ((q.length : Int) / 256 % 256).toNat), B (UInt8.ofNat ((q.length : Int) % 256).toNat)]) fun b37 => ?_
    have g0 := be4_get q.length 0 (by omega)
    have g1 := be4_get q.length 1 (by omega)
    have g2 := be4_get q.length 2 (by omega)
    have g3 := be4_get q.length 3 (by omega)
    have hcs : ([B (UInt8.ofNat ((q.length : Int) / 16777216 % 256).toNat), B (UInt8.ofNat ((q.length : Int) / 65536 % 256).toNat), B (UInt8.ofNat ((q.length : Int) / 256 % 256).toNat), B (UInt8.ofNat ((q.length : Int) % 256).toNat)] : List Value) = bs (be4 q.length) := by
      have e0 : ∀ l : List UInt8, l.length = 4 → l = [l.getD 0 0, l.getD 1 0, l.getD 2 0, l.getD 3 0] := by
        intro l hl
        match l, hl with
        | [a, b, c, d], _ => rfl
      rw [e0 (be4 q.length) rfl, g0, g1, g2, g3]
      have e3 : ((q.length : Int) / 2 ^ (8 * (3 - ((3 : Nat) : Int))).toNat) = q.length := by
        show (q.length : Int) / 1 = _
        omega
      rw [e3]
      rfl
    rw [hcs]
    generalize hL : plen (pcl q.length) = L at *
    have hb4 : (be4 q.length).length = 4 := rfl
    refine s_y y_as <| s_nil <| q_then <| c_seq <| c_reg <| s_y y_mv <| s_y y_mv <| s_app (srcB (q := q) (rdW0 hr)) (h1 := fun v hv => bs_one hv) fun a40 c40 h40 => s_y y_as <| s_nil <| q_then <| c_seq <| c_block <| ?_
    refine c_loop3 (fun (k : Nat) (a' : Option Addr) (c' : Nat) => [(6, I L), (9, .slice a' (4 + q.length + k) c')]) (fun k a' c' => [.row a' c' 5 1 (4 + q.length + k) (bs (be4 q.length ++ q ++ List.replicate k 0))]) (fun k _ _ => 4 + q.length + k ≤ L.toNat) (fun k _ _ => L.toNat - k) 0 a40 c40 (by omega) ⟨rfl, rfl, trivial⟩ (by simp only [List.replicate_zero, List.append_nil, Nat.add_zero, bs_append]; exact List.Sublist.refl _) ?_
    intro k a' c' hk
    refine c_seq <| c_seq <| c_reg <| s_y y_mv <| s_y y_len <| s_y y_mv <| s_y y_lss <| s_nil <| q_then <| c_ifd (fun h44 => ?_) (fun h44 => ?_)
    · refine c_skip <| q_then <| c_block <| c_reg <| s_y y_mv <| s_bslr fun b46 => s_app (m := 1) (srcB (q := [0]) (rdR (.head _))) (h1 := fun v hv => bs_one hv) fun a47 c47 h47 => s_y y_as <| s_nil <| q_nb <| ?_
      refine q_round3 (y := a') (z := c') (k + 1) a47 c47 (by omega) (by omega) ⟨rfl, rfl, trivial⟩ ?_
      rw [← bs_append, List.append_assoc (be4 q.length ++ q), ← List.replicate_succ']
      exact List.sublist_cons_self _ _
    · have hk2 : 4 + q.length + k = L.toNat := by omega
      have e5 : be4 q.length ++ q ++ List.replicate k 0 = pad q := by rw [pad_app hsm, hL]; congr 2; omega
      have e6 : (pad q).length = L.toNat := by omega
      refine c_exit <| q_ex <| q_ex <| q_exb <| q_then <| c_seq <| c_reg <| s_y y_mv <| s_y y_as <| s_y y_as <| s_nil <| q_then <| c_ret <| ?_
      rw [e5, hk2]
      refine ret2 Tryd.results16 rv_t rv_t fun w' hw => ⟨(a', c'), trivial, ?_, ?_⟩
      · rw [e6, e7]
      · rw [e6]; exact hw

/-- what the specification's Unpad returns owns its memory -/
theorem ref28_Unpad_ok (w : World) (a : Option Addr) (c : Nat) (p : List UInt8) (hr : Rd w a (bs p)) (hq : p.length < 9223372036854775807) (hc : p.length ≤ c) :
    Gives Tryd.prog 18 [.slice a p.length c] w [] (fun x : Option Addr × Nat => .tuple #[.slice x.1 (unpad p).length x.2, I (unpE p)])
      (fun x => [.row x.1 x.2 5 1 (unpad p).length (bs (unpad p))]) (fun _ => True) := by
  refine enter Tryd.func18 Tryd.ntmps18 ?_
  have bad : unpOK p = false → unpad p = [] ∧ unpE p = 280 := fun h => by simp [unpad, unpE, h]
  refine c_seq <| c_reg <| s_y y_as <| s_y y_as <| s_nil <| q_then <| c_seq <| c_seq <| c_reg <| s_y y_mv <| s_y y_len <| s_y y_lss <| s_nil <| q_then <| c_ifd (fun h10 => ?_) (fun h10 => ?_)
  · have hb : unpOK p = false := by
      cases h : unpOK p with
      | false => rfl
      | true => have := (unpOK_iff p).1 h; omega
    refine c_seq <| c_reg <| s_y y_as <| s_y y_as <| s_nil <| q_then <| c_ret <| q_ret <| ?_
    refine ret2 Tryd.results18 rv_t rv_t fun w' hw => ⟨(none, 0), trivial, ?_, ?_⟩
    · rw [(bad hb).1, (bad hb).2]; rfl
    · rw [(bad hb).1]; exact hw.nilRow _ _
  · have hb0 := (p.getD 0 0).toNat_lt
    have hb1 := (p.getD 1 0).toNat_lt
    have hb2 := (p.getD 2 0).toNat_lt
    have hb3 := (p.getD 3 0).toNat_lt
    have hbek : ((((p.getD 0 0).toNat : Int) * 256 + (p.getD 1 0).toNat) * 256 + (p.getD 2 0).toNat) * 256 + (p.getD 3 0).toNat = (bek p 4 : Nat) := by
      have key : ∀ p : List UInt8, 4 ≤ p.length → ((((p.getD 0 0).toNat : Int) * 256 + (p.getD 1 0).toNat) * 256 + (p.getD 2 0).toNat) * 256 + (p.getD 3 0).toNat = (bek p 4 : Nat) := by
        intro p hp
        match p, hp with
        | x0 :: x1 :: x2 :: x3 :: r, _ => rw [bek4]; simp
      exact key p (by omega)
    have hbl := bek_lt p 4 (by omega)
    refine c_skip <| q_then <| c_seq <| c_regd <| d_y y_mv <| d_y (y_ixs1 (xs := bs p) (hl := by rw [bs_length]; omega)) <| d_y (y_ldb (q := p) (i := 0)) <| d_y y_cvb <| d_y y_mul <| d_y y_mv <| d_y (y_ixs1 (xs := bs p) (hl := by rw [bs_length]; omega)) <| d_y (y_ldb (q := p) (i := 1)) <| d_y y_cvb <| d_y y_add <| d_y y_mul <| d_y y_mv <| d_y (y_ixs1 (xs := bs p) (hl := by rw [bs_length]; omega)) <| d_y (y_ldb (q := p) (i := 2)) <| d_y y_cvb <| d_y y_add <| d_y y_mul <| d_y y_mv <| d_y (y_ixs1 (xs := bs p) (hl := by rw [bs_length]; omega)) <| d_y (y_ldb (q := p) (i := 3)) <| d_y y_cvb <| d_y y_add <| d_y y_as <| d_nil <| q_then <| ?_
    rw [hbek]
    generalize hn : bek p 4 = n at *
    refine c_seq <| c_seq <| c_reg <| s_y y_mv <| s_y y_mv <| s_y y_len <| s_y y_sub <| s_y y_gtr <| s_nil <| q_then <| c_ifd (fun h37 => ?_) (fun h37 => ?_)
    · have hb : unpOK p = false := by
        cases h : unpOK p with
        | false => rfl
        | true => have := (unpOK_iff p).1 h; omega
      refine c_seq <| c_reg <| s_y y_as <| s_y y_as <| s_nil <| q_then <| c_ret <| q_ret <| ?_
      refine ret2 Tryd.results18 rv_t rv_t fun w' hw => ⟨(none, 0), trivial, ?_, ?_⟩
      · rw [(bad hb).1, (bad hb).2]; rfl
      · rw [(bad hb).1]; exact hw.nilRow _ _
    · have hl : ((p.drop 4).take n).length = n := by simp; omega
      refine c_skip <| q_then <| c_seq <| c_reg <| s_bsl0 fun b38 => s_y y_mv <| s_y y_mv <| s_y y_add <| s_y y_sllh <| ?_
      have h4 : (4 + (n : Int)).toNat - (4 : Int).toNat = n := by
        have h5 : (4 : Int).toNat = 4 := rfl
        omega
      rw [h4]
      have hsl : ∀ l, RdS w [] l (sa a (4 : Int).toNat c 1) (bs ((p.drop 4).take n)) := fun l => by
        rw [bs_take, bs_drop]
        exact ((rdW0 hr).sa (i := 4) (c := c) (s := 1) (by rw [bs_length]; omega)).take n
      refine s_app (m := n) (srcB (q := (p.drop 4).take n) (hsl _) hl) (h1 := fun v hv => bs_one hv) fun a43 c43 h43 => s_y y_as <| s_nil <| q_then <| ?_
      rw [List.nil_append, Nat.zero_add]
      generalize hb : (p.drop 4).take n = b at *
      subst hl
      refine c_seq <| c_reg <| s_y y_mv <| s_gives (fun w' hw => ref28_Pad_ok w' a43 c43 b (Res.rd (hw.own _ (.head _)).1) (by omega)) fun x _ => s_y y_mv <| s_y y_ext <| s_y y_ext <| s_y y_as <| s_y y_as <| s_nil <| q_then <| c_seq <| c_seq <| c_reg <| s_y y_mv <| s_ifn y_neq (fun h50 => ?_) (fun h50 => ?_)
      · have hno : unpOK p = false := by
          cases h : unpOK p with
          | false => rfl
          | true =>
            have := ((unpOK_iff p).1 h).2.2.1
            exact absurd (by rw [padE, if_neg (by omega)]) h50
        refine s_y y_mv <| s_no <| s_no <| s_no <| s_no <| s_no <| s_y y_pk <| s_nil <| q_then <| c_t <| c_seq <| c_reg <| s_y y_as <| s_y y_as <| s_nil <| q_then <| c_ret <| q_ret <| ?_
        refine ret2 Tryd.results18 rv_t rv_t fun w' hw => ⟨(none, 0), trivial, ?_, ?_⟩
        · rw [(bad hno).1, (bad hno).2]; rfl
        · rw [(bad hno).1]; exact (hw.sub (List.nil_sublist _)).nilRow _ _
      · refine s_y y_mv <| s_y y_mv <| s_y (y_b2s (q := p)) <| s_y y_mv <| s_y (y_b2s (q := pad b)) <| s_y y_neqs <| s_y y_pk <| s_nil <| q_then <| c_ifn (fun h57 => ?_) (fun h57 => ?_)
        · have hno : unpOK p = false := by
            cases h : unpOK p with
            | false => rfl
            | true =>
              have h4 := ((unpOK_iff p).1 h).2.2.2
              rw [hn, hb] at h4
              exact absurd (by rw [← h4]) h57
          refine c_seq <| c_reg <| s_y y_as <| s_y y_as <| s_nil <| q_then <| c_ret <| q_ret <| ?_
          refine ret2 Tryd.results18 rv_t rv_t fun w' hw => ⟨(none, 0), trivial, ?_, ?_⟩
          · rw [(bad hno).1, (bad hno).2]; rfl
          · rw [(bad hno).1]; exact (hw.sub (List.nil_sublist _)).nilRow _ _
        · have hyes : unpOK p = true := by
            rw [unpOK_iff, hn, hb]
            refine ⟨by omega, by omega, ?_, sb_inj.1 h57⟩
            by_cases h9 : b.length ≤ 65532
            · exact h9
            · rw [padE, if_pos (by omega)] at h50; cases h50
          have e1 : unpad p = b := by rw [unpad, hyes, hn, hb]; rfl
          have e2 : unpE p = 0 := by rw [unpE, hyes]; rfl
          refine c_skip <| q_then <| c_seq <| c_reg <| s_y y_mv <| s_y y_as <| s_y y_as <| s_nil <| q_then <| c_ret <| ?_
          refine ret2 Tryd.results18 rv_t rv_t fun w' hw => ⟨(a43, c43), trivial, ?_, ?_⟩
          · rw [e1, e2]
          · rw [e1]
            exact hw.sub (List.sublist_cons_self _ _)
end Go.Proofs.YtnkomkfciojglaaDoor
