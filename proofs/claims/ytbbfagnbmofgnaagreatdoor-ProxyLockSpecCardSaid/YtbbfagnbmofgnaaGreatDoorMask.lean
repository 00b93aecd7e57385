/- Capsules: masks, what can go wrong. -/
import Derived.Test.YtbbfagnbmofgnaaGreatDoorFld
import Derived.Test.YtbbfagnbmofgnaaGreatDoorRec
import Derived.Test.YtbbfagnbmofgnaaGreatDoorKeys
import Derived.Laws.Build
namespace Eng
open Go Go.RowKit
section
variable {r : Option Nat} {P : Program} {n : Nat} {D : List Deferred} {W : World} {Bo : List Nat} {F : List (Nat × Value)} {l : SH} {d : Option Tmp} {ty : TypeId} {ps : String} {af : Array Edge} {g : Option (Nat × Bool)} {x y : Operand} {v : Value} {t ta tb : TypeId}
/-- a part of a known block, as a struct or an array -/
theorem y_ldin [hu : HT P t false] {s by' : Nat} [hs : HS P t s by'] {b off : Nat} {cs : Array Value} {et : TypeId} {fz : Nat × Nat} {ys : List Value} (hl : ys.length = s) (hv : ∀ j v, ys[j]? = some v → cs[off + j]? = some v)
    (hx : evO F x = some (.pointer (some ⟨b, off, none⟩)) := by rfl) (hm : Res.blk b (.cells cs et fz) ∈ l := by repeat (first | exact .head _ | apply List.Mem.tail)) : Y P n D W Bo ⟨d, .load t x, ty, ps, af, g⟩ F l (.agg ys.toArray) :=
  y_ld0 hx fun w hw => ld_agg hu hs hl fun j v h => by rw [addr_add, cell_of_row w b _ cs et fz (hw.own _ hm).1]; exact hv j v h
theorem y_mki {T : TypeId} (hx : evO F x = some v := by rfl) (hT : P.concrete T = true := by kernel_rfl) : Y P n D W Bo ⟨d, .makeInterface T x, ty, ps, af, g⟩ F l (.iface T v) :=
  .mk (by simp) fun a w ha _ => by simp only [execOp, ha.eval hx, Sem.run_bind, run_makeInterface w T v hT]; rfl
end
/-- the eight bytes of a number, the most significant one first -/
def be8 (n : Int) : List UInt8 := (List.range 8).map fun i => UInt8.ofNat ((n / 2 ^ (56 - 8 * i)) % 256).toNat
theorem be8_length (n : Int) : (be8 n).length = 8 := by simp [be8]
theorem be8_get (n : Int) {i : Nat} (h : i < 8) : (be8 n).getD i 0 = UInt8.ofNat ((n / 2 ^ (56 - 8 * i)) % 256).toNat := by
  rw [List.getD_eq_getElem?_getD, be8, List.getElem?_map, List.getElem?_range h]; rfl
/-- bytes combined with bytes -/
def xr (k d : List UInt8) : List UInt8 := List.zipWith (· ^^^ ·) k d
theorem xr_length {k d : List UInt8} (h : k.length = d.length) : (xr k d).length = k.length := by simp [xr, h]
theorem xr_step {k d : List UInt8} {i : Nat} (h1 : i < k.length) (h2 : k.length = d.length) : (((xr k d).take i ++ k.drop i).set i (k.getD i 0 ^^^ d.getD i 0)) = (xr k d).take (i + 1) ++ k.drop (i + 1) := by
  have hx : (xr k d).length = k.length := xr_length h2
  have e : ((xr k d).take i).length = i := by simp [hx]; omega
  rw [List.set_append_right _ _ (by omega), e, Nat.sub_self, List.drop_eq_getElem_cons h1, List.set_cons_zero, take_snoc (xr k d) i 0 (by omega), List.append_assoc]
  congr 1
  rw [List.singleton_append]
  congr 1
  simp only [List.getD_eq_getElem?_getD]
  rw [List.getElem?_eq_getElem h1, List.getElem?_eq_getElem (show i < d.length by omega), List.getElem?_eq_getElem (by omega)]
  simp [xr]
theorem xr_at {k d : List UInt8} {i : Nat} (h1 : i < k.length) (h2 : k.length = d.length) : ((xr k d).take i ++ k.drop i).getD i 0 = k.getD i 0 := by
  have hx : (xr k d).length = k.length := xr_length h2
  have e : ((xr k d).take i).length = i := by simp [hx]; omega
  simp only [List.getD_eq_getElem?_getD]
  rw [List.getElem?_append_right (by omega), e, Nat.sub_self, List.getElem?_drop, Nat.add_zero]
theorem xr_xr {k d : List UInt8} (h : k.length = d.length) : xr (xr k d) d = k := by
  apply List.ext_getElem
  · simp [xr, h]
  · intro i h1 h2
    simp [xr, UInt8.xor_assoc]
end Eng
namespace Go.Proofs.YtbbfagnbmofgnaaGreatDoor
open Go Eng Gf Sha
abbrev lbPad : List UInt8 := [112, 97, 100]
def msk (m : Int) : List UInt8 := tagged lbPad (be8 m)
theorem msk_length (m : Int) : (msk m).length = 32 := tagged_length _ _
theorem cmb_length {k : List UInt8} (h : k.length = 32) (m : Int) : (xr k (msk m)).length = 32 := by rw [xr_length (by rw [h, msk_length]), h]

theorem combine_ok (w : World) (k : List UInt8) (m : Int) (hg : LS w) (hk : k.length = 32) (hm : R64 m) : Pure Tryz.prog 23 [.agg (bs k).toArray, I m] w (.agg (bs (xr k (msk m))).toArray) := by
  have h8 := be8_length m
  have hkd : k.length = (msk m).length := by rw [hk, msk_length]
  refine enter Tryz.func23 Tryz.ntmps23 ?_
  refine c_seq <| c_reg <| s_box rfl fun b2 => s_alloc fun b4 => s_nil <| q_then <| c_seq <| c_reg <| s_alloc fun b5 => s_nil <| q_then <| c_seq <| c_seq <| c_reg <| s_y y_mv <| s_nil <| q_then <| c_block <| ?_
  refine c_loop (fun i : Nat => [(1, I m), (2, .pointer (some ⟨b2, 0, none⟩)), (4, .pointer (some ⟨b4, 0, none⟩)), (5, .pointer (some ⟨b5, 0, none⟩)), (9, I i)]) (fun i => [.blk b5 (.cells (bs ((be8 m).take i ++ List.replicate (8 - i) 0)).toArray 58 (0, 0)), .blk b4 (.cells (List.replicate 32 (.int .u8 0)).toArray 23 (0, 0)), .blk b2 (.cells (bs k).toArray 23 (0, 0))]) (fun i => i ≤ 8) (fun i => 8 - i) 0 (by omega) ⟨rfl, rfl, rfl, rfl, rfl, trivial⟩ (by rw [show (bs ((be8 m).take 0 ++ List.replicate (8 - 0) 0)).toArray = (List.replicate 8 (.int .u8 0)).toArray from rfl]; exact .refl _) ?_
  intro i hi
  refine c_seq <| c_reg <| s_y (y_lss (p := i) (q := 8)) <| s_nil <| q_then <| c_seq <| c_ifd (fun h10 => ?_) (fun h10 => ?_)
  · have hi8 : i < 8 := by omega
    refine c_skip <| q_then <| c_seq <| c_block <| c_seq <| c_reg <| s_y y_mv <| s_y y_as <| s_nil <| q_then <| c_reg <| s_y y_mv <| s_y y_mv <| s_y y_mv <| s_y (y_sub (p := 7) (q := i)) <| s_y (y_mul (p := 8) (q := 7 - (i : Int))) <| ?_
    rw [show (8 : Int) * (7 - (i : Int)) = ((56 - 8 * i : Nat) : Int) by omega]
    refine s_y (y_sar (p := m) (q := ((56 - 8 * i : Nat) : Int))) <| ?_
    rw [Int.toNat_natCast]
    refine s_y y_cv8 <| s_y (y_ixa1 (i := i)) <| s_stb (b := b5) (off := 0 + i) (q := (be8 m).take i ++ List.replicate (8 - i) 0) (p := UInt8.ofNat ((m / 2 ^ (56 - 8 * i)) % 256).toNat) (hl := by simp [h8]; omega) ?_
    rw [Nat.zero_add i, set_fill (d := 0) (be8 m) i 8 0 _ (by omega) hi8 (be8_get m hi8)]
    refine s_nil <| q_nb <| q_then <| c_reg <| s_y (y_add (p := i) (q := 1)) <| s_y y_mv <| s_nil <| q_round (i + 1) (by omega) (by omega) ⟨rfl, rfl, rfl, rfl, rfl, trivial⟩ (List.Sublist.refl _)
  · obtain rfl : i = 8 := by omega
    rw [show (be8 m).take 8 ++ List.replicate (8 - 8) 0 = be8 m by rw [List.take_of_length_le (by omega)]; simp]
    refine c_exit <| q_ex <| q_ex <| q_exb <| q_then <| c_seq <| c_seq <| c_reg <| s_y y_sla <| s_pure (fun w' hw => by have h9 := digest_Tagged_ok w' lbPad (some ⟨b5, 0, none⟩) 8 (be8 m) (hg.st hw) (by decide) (rd_blkB (e := 58) (.head _) w' hw) (by omega); rw [h8] at h9; exact h9) <| s_y y_mv <| s_nil <| q_then <| c_block <| ?_
    refine c_loop (fun i : Nat => [(2, .pointer (some ⟨b2, 0, none⟩)), (4, .pointer (some ⟨b4, 0, none⟩)), (22, .agg (bs (msk m)).toArray), (23, I i)]) (fun i => [.blk b4 (.cells (List.replicate 32 (.int .u8 0)).toArray 23 (0, 0)), .blk b2 (.cells (bs ((xr k (msk m)).take i ++ k.drop i)).toArray 23 (0, 0))]) (fun i => i ≤ 32) (fun i => 32 - i) 0 (by omega) ⟨rfl, rfl, rfl, rfl, trivial⟩ (by rw [List.take_zero, List.nil_append, List.drop_zero]; exact .cons _ (.refl _)) ?_
    intro i hi
    refine c_seq <| c_reg <| s_y (y_lss (p := i) (q := 32)) <| s_nil <| q_then <| c_seq <| c_ifd (fun h24 => ?_) (fun h24 => ?_)
    · have hik : i < k.length := by omega
      have hml := msk_length m
      have hcl : ((xr k (msk m)).take i ++ k.drop i).length = 32 := by simp [cmb_length hk m]; omega
      refine c_skip <| q_then <| c_seq <| c_block <| c_seq <| c_reg <| s_y y_mv <| s_y (y_ixv (v := B ((msk m).getD i 0)) i (by rw [List.getElem?_toArray]; exact bs_get (by omega))) <| s_y y_as <| s_y y_as <| s_nil <| q_then <| c_reg <| s_y y_mv <| s_y (y_ixa1 (i := i)) <| s_y (y_ldbb (b := b2) (off := 0 + i) (q := (xr k (msk m)).take i ++ k.drop i) (hi := by omega)) <| ?_
      rw [Nat.zero_add i, xr_at hik hkd]
      refine s_y y_mv <| s_y (y_xor8 (p := k.getD i 0) (q := (msk m).getD i 0)) <| s_y (y_ixa1 (i := i)) <| s_stb (b := b2) (off := 0 + i) (q := (xr k (msk m)).take i ++ k.drop i) (p := k.getD i 0 ^^^ (msk m).getD i 0) (hl := by omega) ?_
      rw [Nat.zero_add i, xr_step hik hkd]
      refine s_nil <| q_nb <| q_then <| c_reg <| s_y (y_add (p := i) (q := 1)) <| s_y y_mv <| s_nil <| q_round (i + 1) (by omega) (by omega) ⟨rfl, rfl, rfl, rfl, trivial⟩ (List.Sublist.refl _)
    · obtain rfl : i = 32 := by omega
      rw [show (xr k (msk m)).take 32 ++ k.drop 32 = xr k (msk m) by rw [List.take_of_length_le (by rw [cmb_length hk]; exact Nat.le_refl _), List.drop_eq_nil_of_le (by omega), List.append_nil]]
      refine c_exit <| q_ex <| q_ex <| q_exb <| q_then <| c_seq <| c_reg <| s_y (y_lda (b := b2) (cs := (bs (xr k (msk m))).toArray) (hl := hz32 (cmb_length hk m))) <| s_sta (b := b4) (vs := (bs (xr k (msk m))).toArray) (cs := (List.replicate 32 (.int .u8 0)).toArray) (h1 := hone32 _) (hl := by rw [hz32 (cmb_length hk m)]; rfl) (hs1 := hz32 (cmb_length hk m)) ?_
      refine s_nil <| q_then <| c_ret <| ?_
      exact ret1 Tryz.results23 (rv_ca (hl := hz32 (cmb_length hk m))) fun w' hw => ⟨rfl, hw.sub (List.nil_sublist _)⟩
end Go.Proofs.YtbbfagnbmofgnaaGreatDoor
