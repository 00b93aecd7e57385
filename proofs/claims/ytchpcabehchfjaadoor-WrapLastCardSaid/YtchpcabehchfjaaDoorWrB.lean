/- Wraps: wrapped and unwrapped, both programs. -/
import Derived.Test.YtchpcabehchfjaaDoorWrA
namespace Wr
open Go Eng Sha Cha Gf Cod Go.Proofs.YtchpcabehchfjaaDoor
/-- the scalar, U and Body of a wrap for a public key -/
def wr (s : List UInt8) : Nat := dscal s lbWrap
noncomputable def wU (s : List UInt8) : Nat := pp 4 (wr s)
noncomputable def wK (p : Nat) (s : List UInt8) : List UInt8 := wkey p (wU s) (pp p (wr s))
noncomputable def wB (p : Nat) (s h b : List UInt8) : List UInt8 := sealB (wK p s) z12 h b
theorem wB_length (p : Nat) (s h b : List UInt8) : (wB p s h b).length = b.length + 16 := sealB_length _ _ _ _
theorem wr_lt (s : List UInt8) : wr s < 2305843009213688669 := (scal_lt _ _).2
theorem pp63 (a k : Nat) : pp a k < 9223372036854775808 := Nat.lt_trans (pp_lt a k) (by decide)
theorem El.l63 {x : Nat} (h : El x) : x < 9223372036854775808 := Nat.lt_trans h.lt (by decide)
/-- the key with which a private key opens -/
noncomputable def uK (x u : Nat) : List UInt8 := wkey (pp 4 x) u (pp u x)
theorem el_El {u : Int} (h : el u = true) : ∃ x : Nat, u = (x : Int) ∧ El x := by
  obtain ⟨x, e, h0, h1, h2⟩ := el_nat h
  exact ⟨x, e, ⟨h0, h1, h2⟩⟩
theorem wchk_0 {u : Int} {n : Nat} (h : wchk u n = 0) : ∃ x : Nat, u = (x : Int) ∧ El x ∧ 16 ≤ n ∧ n ≤ 65552 := by
  unfold wchk at h
  by_cases h1 : el u = true ∧ 16 ≤ n ∧ n ≤ 65552
  · obtain ⟨x, e, hx⟩ := el_El h1.1
    exact ⟨x, e, hx, h1.2⟩
  · rw [if_neg h1] at h; cases h
theorem wchk_ne {u : Int} {n : Nat} (h : wchk u n ≠ 0) : wchk u n = 90 := by
  unfold wchk at h ⊢
  split
  · rename_i h1; rw [if_pos h1] at h; exact absurd rfl h
  · rfl
end Wr
namespace Go.Proofs.YtchpcabehchfjaaDoor
open Go Eng Gf Sha Cha Wr Cod
set_option maxRecDepth 100000
theorem y_bside {n : Nat} {D : List Deferred} {W : World} {Bo : List Nat} {F : List (Nat × Value)} {l : SH} {d : Option Tmp} {ty : TypeId} {ps : String} {af : Array Edge} {g : Option (Nat × Bool)} {parts : Array (Nat × Operand)} {vs : List (Nat × Value)} {cs : List Value}
    (hp : evP F parts.toList = some vs := by rfl) (hf : fillL (fun i => (#[(0, 1), (1, 1)] : Array (Nat × Nat))[i]?) [I 0, .nilFunc] vs = some cs := by rfl) :
    Y Tryd.prog n D W Bo ⟨d, .build 54 parts, ty, ps, af, g⟩ F l (.agg cs.toArray) :=
  y_blds Tryd.underlying54 (fun w => by kernel_rfl) hp hf
theorem y_bwrap {n : Nat} {D : List Deferred} {W : World} {Bo : List Nat} {F : List (Nat × Value)} {l : SH} {d : Option Tmp} {ty : TypeId} {ps : String} {af : Array Edge} {g : Option (Nat × Bool)} {parts : Array (Nat × Operand)} {vs : List (Nat × Value)} {cs : List Value}
    (hp : evP F parts.toList = some vs := by rfl) (hf : fillL (fun i => (#[(0, 1), (1, 1)] : Array (Nat × Nat))[i]?) [I 0, .slice none 0 0] vs = some cs := by rfl) :
    Y Tryd.prog n D W Bo ⟨d, .build 24 parts, ty, ps, af, g⟩ F l (.agg cs.toArray) :=
  y_blds Tryd.underlying24 (fun w => by kernel_rfl) hp hf
theorem Wrap1_ok (w : World) (b a r : Nat) (ha : El a) (hr : r < 2305843009213688669) (hb : Rd w (some ⟨b, 0, none⟩) [I r]) : Pure Tryd.prog 37 [I a, .pointer (some ⟨b, 0, none⟩)] w (.tuple #[I (pp a r : Nat), I 0]) := by
  refine enter Tryd.func37 Tryd.ntmps37 ?_
  refine c_seq <| c_reg <| s_y y_as <| s_y y_as <| s_nil <| q_then <| c_seq <| c_reg <| s_y y_mv <| s_y (y_ldr (a := some ⟨b, 0, none⟩) (i := 0) (xs := [I r]) (v := I r) rfl rfl (rdW0 hb)) <| s_pure (fun w' hw => gExp_yes w' a r ha hr) <| s_y y_ext <| s_y y_ext <| s_y y_as <| s_y y_as <| s_nil <| q_then <| c_ret <| ?_
  exact ret2 Tryd.results37 rv_t rv_t fun w' hw => ⟨rfl, hw⟩
theorem Unwrap1_ok (w : World) (b a r : Nat) (ha : El a) (hr : r < 2305843009213688669) (hb : Rd w (some ⟨b, 0, none⟩) [I r]) : Pure Tryd.prog 25 [I a, .pointer (some ⟨b, 0, none⟩)] w (.tuple #[I (pp a r : Nat), I 0]) := by
  refine enter Tryd.func25 Tryd.ntmps25 ?_
  refine c_seq <| c_reg <| s_y y_as <| s_y y_as <| s_nil <| q_then <| c_seq <| c_reg <| s_y y_mv <| s_y (y_ldr (a := some ⟨b, 0, none⟩) (i := 0) (xs := [I r]) (v := I r) rfl rfl (rdW0 hb)) <| s_pure (fun w' hw => gExp_yes w' a r ha hr) <| s_y y_ext <| s_y y_ext <| s_y y_as <| s_y y_as <| s_nil <| q_then <| c_ret <| ?_
  exact ret2 Tryd.results25 rv_t rv_t fun w' hw => ⟨rfl, hw⟩
abbrev zW : Value := .agg #[I 0, .slice none 0 0]
section
variable (w : World) (ha ca : Option Addr) (hc cc : Nat) (s h c : List UInt8)
theorem w_Wrap_no (m : Nat) (p : Int) (hp : el p = false) : Pure Tryd.prog 15 [I p, .agg (bs s).toArray, .slice ha h.length hc, .slice ca m cc] w (.tuple #[zW, I 50]) := by
  refine enter Tryd.func15 Tryd.ntmps15 ?_
  refine c_seq <| c_reg <| s_box rfl fun b5 => s_alloc fun b8 => s_y y_as <| s_nil <| q_then <| c_seq <| c_seq <| c_reg <| s_y y_mv <| s_pure (fun w' hw => gCheck_no w' p hp) <| s_nt (y_neq (p := 40) (q := 0)) (by decide) <| s_nil <| q_then <| c_t <| c_seq <| c_reg <| s_y (y_lda (b := b8) (cs := #[I 0, .slice none 0 0]) (hl := rfl)) <| s_sta (b := b8) (vs := #[I 0, .slice none 0 0]) (cs := #[I 0, .slice none 0 0]) (h1 := by intro u hu; simp at hu; rcases hu with rfl | rfl <;> rfl) (hl := rfl) (hs1 := rfl) ?_
  refine s_y y_as <| s_nil <| q_then <| c_ret <| q_ret <| ?_
  exact ret2 Tryd.results15 (rv_ca (b := b8) (cs := #[I 0, .slice none 0 0]) (hl := rfl)) rv_t fun w' hw => ⟨rfl, hw.sub (List.nil_sublist _)⟩
variable (p : Nat) (hg : LC w) (hp : El p) (hs : s.length = 32) (hrh : Rd w ha (bs h)) (hlh : h.length ≤ 100000)
include hg hp hs
theorem w_Wrap_big (m : Nat) (hm : 65536 < m) : Pure Tryd.prog 15 [I p, .agg (bs s).toArray, .slice ha h.length hc, .slice ca m cc] w (.tuple #[zW, I 60]) := by
  refine enter Tryd.func15 Tryd.ntmps15 ?_
  refine c_seq <| c_reg <| s_box rfl fun b5 => s_alloc fun b8 => s_y y_as <| s_nil <| q_then <| c_seq <| c_seq <| c_reg <| s_y y_mv <| s_pure (fun w' hw => gCheck_yes w' p hp) <| s_nf (y_neq (p := 0) (q := 0)) rfl <| s_nil <| q_then <| c_f <| c_skip <| q_then <| c_seq <| c_reg <| s_y (y_lda (b := b5) (cs := (bs s).toArray) (hl := hz32 hs)) <| s_pure (v := I (wr s : Nat)) (fun w' hw => derive_Scalar_ok w' s lbWrap (hg.st hw).1 hs (by decide)) <| s_alloc fun b10 => s_st (b := b10) (v := I (wr s : Nat)) (cs := #[I 0]) (hl := Nat.zero_lt_one) ?_
  have hwr := wr_lt s
  refine s_nil <| q_then <| c_seq <| c_reg <| s_y (y_ld (b := b10) (v := I (wr s : Nat))) <| s_pure (v := .tuple #[I (wU s : Nat), I 0]) (fun w' hw => gBase_el w' (wr s) hwr) <| s_y y_mv <| s_y y_ext <| s_y y_ext <| s_y y_as <| s_y y_as <| s_nil <| q_then <| c_seq <| c_reg <| s_y y_mv <| s_y y_func <| s_y (y_bside (cs := [I p, .func (.func 37) #[] #[.pointer (some ⟨b10, 0, none⟩)]])) <| s_alloc fun b13 => s_sta (b := b13) (vs := #[I p, .func (.func 37) #[] #[.pointer (some ⟨b10, 0, none⟩)]]) (cs := #[I 0, .nilFunc]) (h1 := by intro u hu; simp at hu; rcases hu with rfl | rfl <;> rfl) (hl := rfl) (hs1 := rfl) ?_
  refine s_nil <| q_then <| c_seq <| c_reg <| s_y (y_lda (b := b13) (cs := #[I p, .func (.func 37) #[] #[.pointer (some ⟨b10, 0, none⟩)]]) (hl := rfl)) <| s_y y_mv <| s_y y_mv <| s_pure (v := .agg (bs (wK p s)).toArray) (fun w' hw => w_key_ok w' b10 p (wU s) (pp p (wr s)) (p : Int) (hg.st hw).1 (El.l63 hp) (pp63 _ _) (pp63 _ _) (fun w2 h2 => Wrap1_ok w2 b10 p (wr s) hp hwr (Rd.st (rdB (.tail _ (.head _)) (fun i v h => by rw [Nat.zero_add]; simpa using h) w' hw) h2))) <| s_y (y_blda (cs := bs (List.replicate 12 0))) <| s_y y_mv <| s_y y_mv <| s_pure (fun w' hw => c_Seal_big w' ha ca hc cc (wK p s) z12 h (wkey_length _ _ _) List.length_replicate m hm) <| s_y y_mv <| s_y y_ext <| s_y y_ext <| s_y y_as <| s_y y_as <| s_nil <| q_then <| c_seq <| c_seq <| c_reg <| s_y y_mv <| s_nt (y_neq (p := 60) (q := 0)) (by decide) <| s_nil <| q_then <| c_t <| c_seq <| c_reg <| s_y (y_lda (b := b8) (cs := #[I 0, .slice none 0 0]) (hl := rfl)) <| s_y y_mv <| s_sta (b := b8) (vs := #[I 0, .slice none 0 0]) (cs := #[I 0, .slice none 0 0]) (h1 := by intro u hu; simp at hu; rcases hu with rfl | rfl <;> rfl) (hl := rfl) (hs1 := rfl) ?_
  refine s_y y_as <| s_nil <| q_then <| c_ret <| q_ret <| ?_
  exact ret2 Tryd.results15 (rv_ca (b := b8) (cs := #[I 0, .slice none 0 0]) (hl := rfl)) rv_t fun w' hw => ⟨rfl, hw.sub (List.nil_sublist _)⟩
theorem w_Wrap_yes (hrh : Rd w ha (bs h)) (hlh : h.length ≤ 100000) (hrc : Rd w ca (bs c)) (hlc : c.length ≤ 65536) :
    Gives Tryd.prog 15 [I p, .agg (bs s).toArray, .slice ha h.length hc, .slice ca c.length cc] w [] (fun y : Option Addr × Nat => .tuple #[.agg #[I (wU s : Nat), .slice y.1 (c.length + 16) y.2], I 0]) (fun y => [.row y.1 y.2 5 1 (c.length + 16) (bs (wB p s h c))]) (fun _ => True) := by
  refine enter Tryd.func15 Tryd.ntmps15 ?_
  refine c_seq <| c_reg <| s_box rfl fun b5 => s_alloc fun b8 => s_y y_as <| s_nil <| q_then <| c_seq <| c_seq <| c_reg <| s_y y_mv <| s_pure (fun w' hw => gCheck_yes w' p hp) <| s_nf (y_neq (p := 0) (q := 0)) rfl <| s_nil <| q_then <| c_f <| c_skip <| q_then <| c_seq <| c_reg <| s_y (y_lda (b := b5) (cs := (bs s).toArray) (hl := hz32 hs)) <| s_pure (v := I (wr s : Nat)) (fun w' hw => derive_Scalar_ok w' s lbWrap (hg.st hw).1 hs (by decide)) <| s_alloc fun b10 => s_st (b := b10) (v := I (wr s : Nat)) (cs := #[I 0]) (hl := Nat.zero_lt_one) ?_
  have hwr := wr_lt s
  refine s_nil <| q_then <| c_seq <| c_reg <| s_y (y_ld (b := b10) (v := I (wr s : Nat))) <| s_pure (v := .tuple #[I (wU s : Nat), I 0]) (fun w' hw => gBase_el w' (wr s) hwr) <| s_y y_mv <| s_y y_ext <| s_y y_ext <| s_y y_as <| s_y y_as <| s_nil <| q_then <| c_seq <| c_reg <| s_y y_mv <| s_y y_func <| s_y (y_bside (cs := [I p, .func (.func 37) #[] #[.pointer (some ⟨b10, 0, none⟩)]])) <| s_alloc fun b13 => s_sta (b := b13) (vs := #[I p, .func (.func 37) #[] #[.pointer (some ⟨b10, 0, none⟩)]]) (cs := #[I 0, .nilFunc]) (h1 := by intro u hu; simp at hu; rcases hu with rfl | rfl <;> rfl) (hl := rfl) (hs1 := rfl) ?_
  refine s_nil <| q_then <| c_seq <| c_reg <| s_y (y_lda (b := b13) (cs := #[I p, .func (.func 37) #[] #[.pointer (some ⟨b10, 0, none⟩)]]) (hl := rfl)) <| s_y y_mv <| s_y y_mv <| s_pure (v := .agg (bs (wK p s)).toArray) (fun w' hw => w_key_ok w' b10 p (wU s) (pp p (wr s)) (p : Int) (hg.st hw).1 (El.l63 hp) (pp63 _ _) (pp63 _ _) (fun w2 h2 => Wrap1_ok w2 b10 p (wr s) hp hwr (Rd.st (rdB (.tail _ (.head _)) (fun i v h => by rw [Nat.zero_add]; simpa using h) w' hw) h2))) <| s_y (y_blda (cs := bs (List.replicate 12 0))) <| s_y y_mv <| s_y y_mv <| s_gives (fun w' hw => c_Seal_ok w' ha ca hc cc (wK p s) z12 h c (wkey_length _ _ _) List.length_replicate (hrh.st hw) hlh (hg.st hw) (hrc.st hw) hlc) (fun y _ => ?_)
  obtain ⟨ya, yc⟩ := y
  refine s_y y_mv <| s_y y_ext <| s_y y_ext <| s_y y_as <| s_y y_as <| s_nil <| q_then <| c_seq <| c_seq <| c_reg <| s_y y_mv <| s_nf (y_neq (p := 0) (q := 0)) rfl <| s_nil <| q_then <| c_f <| c_skip <| q_then <| c_seq <| c_reg <| s_y y_mv <| s_y y_mv <| s_y (y_bwrap (cs := [I (wU s : Nat), .slice ya (c.length + 16) yc])) <| s_sta (b := b8) (vs := #[I (wU s : Nat), .slice ya (c.length + 16) yc]) (cs := #[I 0, .slice none 0 0]) (h1 := by intro u hu; simp at hu; rcases hu with rfl | rfl <;> rfl) (hl := rfl) (hs1 := rfl) ?_
  refine s_y y_as <| s_nil <| q_then <| c_ret <| ?_
  exact ret2 Tryd.results15 (rv_ca (b := b8) (cs := #[I (wU s : Nat), .slice ya (c.length + 16) yc]) (hl := rfl)) rv_t fun w' hw => ⟨(ya, yc), trivial, rfl, hw.sub (.cons_cons _ (List.nil_sublist _))⟩
end
section
variable (w : World) (ha ca : Option Addr) (hc cc : Nat) (h c : List UInt8)
theorem w_Unwrap_no1 (m : Nat) (x u : Int) (hx : pvB x = false) : Pure Tryd.prog 11 [I x, .slice ha h.length hc, .agg #[I u, .slice ca m cc]] w (.tuple #[.slice none 0 0, I 50]) := by
  refine enter Tryd.func11 Tryd.ntmps11 ?_
  refine c_seq <| c_reg <| s_box rfl fun b3 => s_box rfl fun b5 => s_y y_as <| s_y y_as <| s_nil <| q_then <| c_seq <| c_reg <| s_y (y_ld (b := b3) (v := I x)) <| s_pure (fun w' hw => sPublic_no w' x hx) <| s_y y_mv <| s_y y_ext <| s_y y_ext <| s_y y_as <| s_y y_as <| s_nil <| q_then <| c_seq <| c_seq <| c_reg <| s_y y_mv <| s_kf (y_eql (p := 50) (q := 0)) (by decide) <| s_nil <| q_then <| c_f <| c_skip <| q_then <| c_seq <| c_seq <| c_reg <| s_y y_mv <| s_nt (y_neq (p := 50) (q := 0)) (by decide) <| s_nil <| q_then <| c_t <| c_seq <| c_reg <| s_y y_mv <| s_y y_as <| s_y y_as <| s_nil <| q_then <| c_ret <| q_ret <| ?_
  exact ret2 Tryd.results11 rv_t rv_t fun w' hw => ⟨rfl, hw.sub (List.nil_sublist _)⟩
theorem r9_Unwrap_no1 (m : Nat) (x u : Int) (hx : pvB x = false) : Pure Tryd.prog 12 [I x, .slice ha h.length hc, .agg #[I u, .slice ca m cc]] w (.tuple #[.slice none 0 0, I 50]) := by
  refine enter Tryd.func12 Tryd.ntmps12 ?_
  refine c_seq <| c_reg <| s_box rfl fun b5 => s_y y_as <| s_y y_as <| s_nil <| q_then <| c_seq <| c_reg <| s_y y_mv <| s_pure (fun w' hw => r5_Public_no w' x hx) <| s_y y_mv <| s_y y_ext <| s_y y_ext <| s_y y_as <| s_y y_as <| s_nil <| q_then <| c_seq <| c_seq <| c_reg <| s_y y_mv <| s_nt (y_neq (p := 50) (q := 0)) (by decide) <| s_nil <| q_then <| c_t <| c_seq <| c_reg <| s_y y_mv <| s_y y_as <| s_y y_as <| s_nil <| q_then <| c_ret <| q_ret <| ?_
  exact ret2 Tryd.results12 rv_t rv_t fun w' hw => ⟨rfl, hw.sub (List.nil_sublist _)⟩
variable (x : Nat) (hx0 : 1 ≤ x) (hx : x < 2305843009213688669)
include hx0 hx
theorem w_Unwrap_no2 (m : Nat) (u : Int) (hm : m < 1000000000000000000) (hno : wchk u m ≠ 0) : Pure Tryd.prog 11 [I x, .slice ha h.length hc, .agg #[I u, .slice ca m cc]] w (.tuple #[.slice none 0 0, I (wchk u m)]) := by
  refine enter Tryd.func11 Tryd.ntmps11 ?_
  refine c_seq <| c_reg <| s_box rfl fun b3 => s_box rfl fun b5 => s_y y_as <| s_y y_as <| s_nil <| q_then <| c_seq <| c_reg <| s_y (y_ld (b := b3) (v := I x)) <| s_pure (fun w' hw => sPublic_yes w' x hx0 hx) <| s_y y_mv <| s_y y_ext <| s_y y_ext <| s_y y_as <| s_y y_as <| s_nil <| q_then <| c_seq <| c_seq <| c_reg <| s_y y_mv <| s_kt (y_eql (p := 0) (q := 0)) rfl <| s_nil <| q_then <| c_t <| c_reg <| s_y (y_lda (b := b5) (cs := #[I u, .slice ca m cc]) (hl := rfl)) <| s_pure (fun w' hw => w_Check_ok w' u ca m cc hm) <| s_y y_as <| s_nil <| q_then <| c_seq <| c_seq <| c_reg <| s_y y_mv <| s_nt (y_neq (p := wchk u m) (q := 0)) hno <| s_nil <| q_then <| c_t <| c_seq <| c_reg <| s_y y_mv <| s_y y_as <| s_y y_as <| s_nil <| q_then <| c_ret <| q_ret <| ?_
  exact ret2 Tryd.results11 rv_t rv_t fun w' hw => ⟨rfl, hw.sub (List.nil_sublist _)⟩
theorem r9_Unwrap_no2 (m : Nat) (u : Int) (hm : m < 1000000000000000000) (hno : wchk u m ≠ 0) : Pure Tryd.prog 12 [I x, .slice ha h.length hc, .agg #[I u, .slice ca m cc]] w (.tuple #[.slice none 0 0, I (wchk u m)]) := by
  refine enter Tryd.func12 Tryd.ntmps12 ?_
  refine c_seq <| c_reg <| s_box rfl fun b5 => s_y y_as <| s_y y_as <| s_nil <| q_then <| c_seq <| c_reg <| s_y y_mv <| s_pure (fun w' hw => r5_Public_yes w' x hx0 hx) <| s_y y_mv <| s_y y_ext <| s_y y_ext <| s_y y_as <| s_y y_as <| s_nil <| q_then <| c_seq <| c_seq <| c_reg <| s_y y_mv <| s_nf (y_neq (p := 0) (q := 0)) rfl <| s_nil <| q_then <| c_f <| c_skip <| q_then <| c_seq <| c_reg <| s_y (y_lda (b := b5) (cs := #[I u, .slice ca m cc]) (hl := rfl)) <| s_pure (fun w' hw => r9_Check_ok w' u ca m cc hm) <| s_y y_as <| s_nil <| q_then <| c_seq <| c_seq <| c_reg <| s_y y_mv <| s_nt (y_neq (p := wchk u m) (q := 0)) hno <| s_nil <| q_then <| c_t <| c_seq <| c_reg <| s_y y_mv <| s_y y_as <| s_y y_as <| s_nil <| q_then <| c_ret <| q_ret <| ?_
  exact ret2 Tryd.results12 rv_t rv_t fun w' hw => ⟨rfl, hw.sub (List.nil_sublist _)⟩
variable (u : Nat) (hu : El u) (hrh : Rd w ha (bs h)) (hlh : h.length ≤ 100000) (hrc : Rd w ca (bs c)) (hcc : c.length ≤ cc) (hck : wchk u c.length = 0)
include hu hrh hlh hrc hcc hck
theorem w_Unwrap_no3 (hg : LC w) (hno : opOk (uK x u) z12 h c = false) : Pure Tryd.prog 11 [I x, .slice ha h.length hc, .agg #[I u, .slice ca c.length cc]] w (.tuple #[.slice none 0 0, I 60]) := by
  obtain ⟨_, _, _, h16, h65⟩ := wchk_0 hck
  refine enter Tryd.func11 Tryd.ntmps11 ?_
  refine c_seq <| c_reg <| s_box rfl fun b3 => s_box rfl fun b5 => s_y y_as <| s_y y_as <| s_nil <| q_then <| c_seq <| c_reg <| s_y (y_ld (b := b3) (v := I x)) <| s_pure (fun w' hw => sPublic_yes w' x hx0 hx) <| s_y y_mv <| s_y y_ext <| s_y y_ext <| s_y y_as <| s_y y_as <| s_nil <| q_then <| c_seq <| c_seq <| c_reg <| s_y y_mv <| s_kt (y_eql (p := 0) (q := 0)) rfl <| s_nil <| q_then <| c_t <| c_reg <| s_y (y_lda (b := b5) (cs := #[I u, .slice ca c.length cc]) (hl := rfl)) <| s_pure (fun w' hw => (by have h9 := w_Check_ok w' u ca c.length cc (by omega); rw [hck] at h9; exact h9)) <| s_y y_as <| s_nil <| q_then <| c_seq <| c_seq <| c_reg <| s_y y_mv <| s_nf (y_neq (p := 0) (q := 0)) rfl <| s_nil <| q_then <| c_f <| c_skip <| q_then <| c_seq <| c_reg <| s_y y_mv <| s_y y_func <| s_y (y_bside (cs := [I (pp 4 x : Nat), .func (.func 25) #[] #[.pointer (some ⟨b3, 0, none⟩)]])) <| s_alloc fun b9 => s_sta (b := b9) (vs := #[I (pp 4 x : Nat), .func (.func 25) #[] #[.pointer (some ⟨b3, 0, none⟩)]]) (cs := #[I 0, .nilFunc]) (h1 := by intro u hu; simp at hu; rcases hu with rfl | rfl <;> rfl) (hl := rfl) (hs1 := rfl) ?_
  refine s_nil <| q_then <| c_seq <| c_regL [.blk b9 (.cells #[I (pp 4 x : Nat), .func (.func 25) #[] #[.pointer (some ⟨b3, 0, none⟩)]] 54 (0, 0)), .blk b5 (.cells #[I u, .slice ca c.length cc] 24 (0, 0)), .blk b3 (.cells #[I x] 3 (0, 0))] <| r_y 0 rfl (y_lda (b := b9) (cs := #[I (pp 4 x : Nat), .func (.func 25) #[] #[.pointer (some ⟨b3, 0, none⟩)]]) (hl := rfl)) <| r_y 1 rfl y_fa <| r_y 2 rfl (y_ld (b := b5) (v := I u)) <| r_y 3 rfl y_fa <| r_y 4 rfl (y_ld (b := b5) (v := I u)) <| r_y 6 rfl (y_blda (cs := bs (List.replicate 12 0))) <| r_y 7 rfl y_mv <| r_y 8 rfl y_fa <| r_y 9 rfl (y_ld (b := b5) (v := .slice ca c.length cc)) <| r_W 5 rfl <| s_pure (v := .agg (bs (uK x u)).toArray) (fun w' hw => w_key_ok w' b3 (pp 4 x) u (pp u x) (u : Int) (hg.st hw).1 (pp63 _ _) (El.l63 hu) (pp63 _ _) (fun w2 h2 => Unwrap1_ok w2 b3 u x hu hx (Rd.st (rdB (.tail _ (.tail _ (.head _))) (fun i v h => by show (#[I (x : Int)] : Array Value)[0 + i]? = some v; rw [Nat.zero_add]; simpa using h) w' hw) h2))) <| r_K <| r_W 10 rfl <| s_pure (fun w' hw => c_Open_no w' ha ca hc cc (uK x u) z12 h c (wkey_length _ _ _) List.length_replicate (hrh.st hw) hlh (hg.st hw) (hrc.st hw) (by omega) hcc hno) <| r_K <| r_y 11 rfl y_ext <| r_y 12 rfl y_ext <| r_y 13 rfl y_as <| r_y 14 rfl y_as <| r_E <| q_then <| c_ret <| ?_
  exact ret2 Tryd.results11 rv_t rv_t fun w' hw => ⟨rfl, hw.sub (List.nil_sublist _)⟩
theorem w_Unwrap_yes (hg : LC w) (hyes : opOk (uK x u) z12 h c = true) : Gives Tryd.prog 11 [I x, .slice ha h.length hc, .agg #[I u, .slice ca c.length cc]] w [] (fun y : Option Addr × Nat => .tuple #[.slice y.1 (opB (uK x u) z12 h c).length y.2, I 0]) (fun y => [.row y.1 y.2 5 1 (opB (uK x u) z12 h c).length (bs (opB (uK x u) z12 h c))]) (fun _ => True) := by
  obtain ⟨_, _, _, h16, h65⟩ := wchk_0 hck
  refine enter Tryd.func11 Tryd.ntmps11 ?_
  refine c_seq <| c_reg <| s_box rfl fun b3 => s_box rfl fun b5 => s_y y_as <| s_y y_as <| s_nil <| q_then <| c_seq <| c_reg <| s_y (y_ld (b := b3) (v := I x)) <| s_pure (fun w' hw => sPublic_yes w' x hx0 hx) <| s_y y_mv <| s_y y_ext <| s_y y_ext <| s_y y_as <| s_y y_as <| s_nil <| q_then <| c_seq <| c_seq <| c_reg <| s_y y_mv <| s_kt (y_eql (p := 0) (q := 0)) rfl <| s_nil <| q_then <| c_t <| c_reg <| s_y (y_lda (b := b5) (cs := #[I u, .slice ca c.length cc]) (hl := rfl)) <| s_pure (fun w' hw => (by have h9 := w_Check_ok w' u ca c.length cc (by omega); rw [hck] at h9; exact h9)) <| s_y y_as <| s_nil <| q_then <| c_seq <| c_seq <| c_reg <| s_y y_mv <| s_nf (y_neq (p := 0) (q := 0)) rfl <| s_nil <| q_then <| c_f <| c_skip <| q_then <| c_seq <| c_reg <| s_y y_mv <| s_y y_func <| s_y (y_bside (cs := [I (pp 4 x : Nat), .func (.func 25) #[] #[.pointer (some ⟨b3, 0, none⟩)]])) <| s_alloc fun b9 => s_sta (b := b9) (vs := #[I (pp 4 x : Nat), .func (.func 25) #[] #[.pointer (some ⟨b3, 0, none⟩)]]) (cs := #[I 0, .nilFunc]) (h1 := by intro u hu; simp at hu; rcases hu with rfl | rfl <;> rfl) (hl := rfl) (hs1 := rfl) ?_
  refine s_nil <| q_then <| c_seq <| c_regL [.blk b9 (.cells #[I (pp 4 x : Nat), .func (.func 25) #[] #[.pointer (some ⟨b3, 0, none⟩)]] 54 (0, 0)), .blk b5 (.cells #[I u, .slice ca c.length cc] 24 (0, 0)), .blk b3 (.cells #[I x] 3 (0, 0))] <| r_y 0 rfl (y_lda (b := b9) (cs := #[I (pp 4 x : Nat), .func (.func 25) #[] #[.pointer (some ⟨b3, 0, none⟩)]]) (hl := rfl)) <| r_y 1 rfl y_fa <| r_y 2 rfl (y_ld (b := b5) (v := I u)) <| r_y 3 rfl y_fa <| r_y 4 rfl (y_ld (b := b5) (v := I u)) <| r_y 6 rfl (y_blda (cs := bs (List.replicate 12 0))) <| r_y 7 rfl y_mv <| r_y 8 rfl y_fa <| r_y 9 rfl (y_ld (b := b5) (v := .slice ca c.length cc)) <| r_W 5 rfl <| s_pure (v := .agg (bs (uK x u)).toArray) (fun w' hw => w_key_ok w' b3 (pp 4 x) u (pp u x) (u : Int) (hg.st hw).1 (pp63 _ _) (El.l63 hu) (pp63 _ _) (fun w2 h2 => Unwrap1_ok w2 b3 u x hu hx (Rd.st (rdB (.tail _ (.tail _ (.head _))) (fun i v h => by show (#[I (x : Int)] : Array Value)[0 + i]? = some v; rw [Nat.zero_add]; simpa using h) w' hw) h2))) <| r_K <| r_W 10 rfl <| s_gives (fun w' hw => c_Open_yes w' ha ca hc cc (uK x u) z12 h c (wkey_length _ _ _) List.length_replicate (hrh.st hw) hlh (hg.st hw) (hrc.st hw) hcc hyes) (fun y _ => ?_)
  obtain ⟨ya, yc⟩ := y
  refine r_K <| r_y 11 rfl y_ext <| r_y 12 rfl y_ext <| r_y 13 rfl y_as <| r_y 14 rfl y_as <| r_E <| q_then <| c_ret <| ?_
  exact ret2 Tryd.results11 rv_t rv_t fun w' hw => ⟨(ya, yc), trivial, rfl, hw.sub (.cons_cons _ (List.nil_sublist _))⟩
theorem r9_Unwrap_no3 (hno : opOk (uK x u) z12 h c = false) : Pure Tryd.prog 12 [I x, .slice ha h.length hc, .agg #[I u, .slice ca c.length cc]] w (.tuple #[.slice none 0 0, I 60]) := by
  obtain ⟨_, _, _, h16, h65⟩ := wchk_0 hck
  refine enter Tryd.func12 Tryd.ntmps12 ?_
  refine c_seq <| c_reg <| s_box rfl fun b5 => s_y y_as <| s_y y_as <| s_nil <| q_then <| c_seq <| c_reg <| s_y y_mv <| s_pure (fun w' hw => r5_Public_yes w' x hx0 hx) <| s_y y_mv <| s_y y_ext <| s_y y_ext <| s_y y_as <| s_y y_as <| s_nil <| q_then <| c_seq <| c_seq <| c_reg <| s_y y_mv <| s_nf (y_neq (p := 0) (q := 0)) rfl <| s_nil <| q_then <| c_f <| c_skip <| q_then <| c_seq <| c_reg <| s_y (y_lda (b := b5) (cs := #[I u, .slice ca c.length cc]) (hl := rfl)) <| s_pure (fun w' hw => (by have h9 := r9_Check_ok w' u ca c.length cc (by omega); rw [hck] at h9; exact h9)) <| s_y y_as <| s_nil <| q_then <| c_seq <| c_seq <| c_reg <| s_y y_mv <| s_nf (y_neq (p := 0) (q := 0)) rfl <| s_nil <| q_then <| c_f <| c_skip <| q_then <| c_seq <| c_reg <| s_y y_fa <| s_y (y_ld (b := b5) (v := I u)) <| s_y y_mv <| s_pure (fun w' hw => rExp_yes w' u x hu hx) <| s_y y_mv <| s_y y_ext <| s_y y_ext <| s_y y_as <| s_y y_as <| s_nil <| q_then <| ?_
  refine c_seq <| c_regL [.blk b5 (.cells #[I u, .slice ca c.length cc] 24 (0, 0))] <| r_y 0 rfl y_mv <| r_y 1 rfl y_fa <| r_y 2 rfl (y_ld (b := b5) (v := I u)) <| r_y 3 rfl y_mv <| r_y 5 rfl (y_blda (cs := bs (List.replicate 12 0))) <| r_y 6 rfl y_mv <| r_y 7 rfl y_fa <| r_y 8 rfl (y_ld (b := b5) (v := .slice ca c.length cc)) <| r_W 4 rfl <| s_pure (v := .agg (bs (uK x u)).toArray) (fun w' hw => r9_Key_ok w' (pp 4 x) u (pp u x) (pp63 _ _) (El.l63 hu) (pp63 _ _)) <| r_K <| r_W 9 rfl <| s_pure (fun w' hw => r6_Open_no w' ha ca hc cc (uK x u) z12 h c (wkey_length _ _ _) List.length_replicate (hrh.st hw) hlh (hrc.st hw) (by omega) hcc hno) <| r_K <| r_y 10 rfl y_ext <| r_y 11 rfl y_ext <| r_y 12 rfl y_as <| r_y 13 rfl y_as <| r_E <| q_then <| c_ret <| ?_
  exact ret2 Tryd.results12 rv_t rv_t fun w' hw => ⟨rfl, hw.sub (List.nil_sublist _)⟩
theorem r9_Unwrap_yes (hyes : opOk (uK x u) z12 h c = true) : Gives Tryd.prog 12 [I x, .slice ha h.length hc, .agg #[I u, .slice ca c.length cc]] w [] (fun y : Option Addr × Nat => .tuple #[.slice y.1 (opB (uK x u) z12 h c).length y.2, I 0]) (fun y => [.row y.1 y.2 5 1 (opB (uK x u) z12 h c).length (bs (opB (uK x u) z12 h c))]) (fun _ => True) := by
  obtain ⟨_, _, _, h16, h65⟩ := wchk_0 hck
  refine enter Tryd.func12 Tryd.ntmps12 ?_
  refine c_seq <| c_reg <| s_box rfl fun b5 => s_y y_as <| s_y y_as <| s_nil <| q_then <| c_seq <| c_reg <| s_y y_mv <| s_pure (fun w' hw => r5_Public_yes w' x hx0 hx) <| s_y y_mv <| s_y y_ext <| s_y y_ext <| s_y y_as <| s_y y_as <| s_nil <| q_then <| c_seq <| c_seq <| c_reg <| s_y y_mv <| s_nf (y_neq (p := 0) (q := 0)) rfl <| s_nil <| q_then <| c_f <| c_skip <| q_then <| c_seq <| c_reg <| s_y (y_lda (b := b5) (cs := #[I u, .slice ca c.length cc]) (hl := rfl)) <| s_pure (fun w' hw => (by have h9 := r9_Check_ok w' u ca c.length cc (by omega); rw [hck] at h9; exact h9)) <| s_y y_as <| s_nil <| q_then <| c_seq <| c_seq <| c_reg <| s_y y_mv <| s_nf (y_neq (p := 0) (q := 0)) rfl <| s_nil <| q_then <| c_f <| c_skip <| q_then <| c_seq <| c_reg <| s_y y_fa <| s_y (y_ld (b := b5) (v := I u)) <| s_y y_mv <| s_pure (fun w' hw => rExp_yes w' u x hu hx) <| s_y y_mv <| s_y y_ext <| s_y y_ext <| s_y y_as <| s_y y_as <| s_nil <| q_then <| ?_
  refine c_seq <| c_regL [.blk b5 (.cells #[I u, .slice ca c.length cc] 24 (0, 0))] <| r_y 0 rfl y_mv <| r_y 1 rfl y_fa <| r_y 2 rfl (y_ld (b := b5) (v := I u)) <| r_y 3 rfl y_mv <| r_y 5 rfl (y_blda (cs := bs (List.replicate 12 0))) <| r_y 6 rfl y_mv <| r_y 7 rfl y_fa <| r_y 8 rfl (y_ld (b := b5) (v := .slice ca c.length cc)) <| r_W 4 rfl <| s_pure (v := .agg (bs (uK x u)).toArray) (fun w' hw => r9_Key_ok w' (pp 4 x) u (pp u x) (pp63 _ _) (El.l63 hu) (pp63 _ _)) <| r_K <| r_W 9 rfl <| s_gives (fun w' hw => r6_Open_yes w' ha ca hc cc (uK x u) z12 h c (wkey_length _ _ _) List.length_replicate (hrh.st hw) hlh (hrc.st hw) hcc hyes) (fun y _ => ?_)
  obtain ⟨ya, yc⟩ := y
  refine r_K <| r_y 10 rfl y_ext <| r_y 11 rfl y_ext <| r_y 12 rfl y_as <| r_y 13 rfl y_as <| r_E <| q_then <| c_ret <| ?_
  exact ret2 Tryd.results12 rv_t rv_t fun w' hw => ⟨(ya, yc), trivial, rfl, hw.sub (.cons_cons _ (List.nil_sublist _))⟩
end
end Go.Proofs.YtchpcabehchfjaaDoor
