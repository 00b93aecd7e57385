/- The cipher as plain functions; no program in sight. -/
import Derived.Test.YtchpcabehchfjaaDoorShaX
namespace Cha
open Go Eng Sha
/-- four bytes, the least significant one first -/
def wle (b : List UInt8) (i : Nat) : UInt32 := (b.getD i 0).toUInt32 ||| (b.getD (i + 1) 0).toUInt32 <<< 8 ||| (b.getD (i + 2) 0).toUInt32 <<< 16 ||| (b.getD (i + 3) 0).toUInt32 <<< 24
def ws4 (b : List UInt8) (n : Nat) : List UInt32 := (List.range n).map fun i => wle b (4 * i)
def cst : List UInt32 := [0x61707865, 0x3320646e, 0x79622d32, 0x6b206574]
def first (k n : List UInt8) (c : UInt32) : List UInt32 := cst ++ ws4 k 8 ++ [c] ++ ws4 n 3
theorem ws4_length (b : List UInt8) (n : Nat) : (ws4 b n).length = n := by simp [ws4]
theorem first_length (k n : List UInt8) (c : UInt32) : (first k n c).length = 16 := by simp [first, ws4_length, cst]
/-- the numbers at four places are mixed -/
def rl (v : UInt32) (n : Nat) : UInt32 := rr v (32 - n)
def addAt (v : List UInt32) (a b : Nat) : List UInt32 := v.set a (v.getD a 0 + v.getD b 0)
def xrAt (v : List UInt32) (d a n : Nat) : List UInt32 := v.set d (rl (v.getD d 0 ^^^ v.getD a 0) n)
theorem addAt_length (v : List UInt32) (a b : Nat) : (addAt v a b).length = v.length := List.length_set
theorem xrAt_length (v : List UInt32) (d a n : Nat) : (xrAt v d a n).length = v.length := List.length_set
def mix (v : List UInt32) (a b c d : Nat) : List UInt32 := xrAt (addAt (xrAt (addAt (xrAt (addAt (xrAt (addAt v a b) d a 16) c d) b c 12) a b) d a 8) c d) b c 7
theorem mix_length (v : List UInt32) (a b c d : Nat) : (mix v a b c d).length = v.length := by simp only [mix, xrAt_length, addAt_length]
/-- so many of the first four, of the second four; so many rounds -/
def colU (v : List UInt32) : Nat → List UInt32
  | 0 => v
  | i + 1 => mix (colU v i) i (4 + i) (8 + i) (12 + i)
def dgU (v : List UInt32) : Nat → List UInt32
  | 0 => v
  | i + 1 => mix (dgU v i) i (4 + (i + 1) % 4) (8 + (i + 2) % 4) (12 + (i + 3) % 4)
def rndU (v : List UInt32) : Nat → List UInt32
  | 0 => v
  | i + 1 => dgU (colU (rndU v i) 4) 4
theorem colU_length (v : List UInt32) : ∀ i, (colU v i).length = v.length
  | 0 => rfl
  | i + 1 => by rw [colU, mix_length, colU_length v i]
theorem dgU_length (v : List UInt32) : ∀ i, (dgU v i).length = v.length
  | 0 => rfl
  | i + 1 => by rw [dgU, mix_length, dgU_length v i]
theorem rndU_length (v : List UInt32) : ∀ i, (rndU v i).length = v.length
  | 0 => rfl
  | i + 1 => by rw [rndU, dgU_length, colU_length, rndU_length v i]
/-- the four bytes of a number, the least significant one first -/
def le4 (x : UInt32) : List UInt8 := [x.toUInt8, (x >>> 8).toUInt8, (x >>> 16).toUInt8, (x >>> 24).toUInt8]
def outU (v s : List UInt32) (n : Nat) : List UInt8 := (List.range n).flatMap fun i => le4 (v.getD i 0 + s.getD i 0)
theorem outU_succ (v s : List UInt32) (n : Nat) : outU v s (n + 1) = outU v s n ++ le4 (v.getD n 0 + s.getD n 0) := by
  unfold outU; rw [List.range_succ, List.flatMap_append]; simp
theorem outU_length (v s : List UInt32) : ∀ n, (outU v s n).length = 4 * n
  | 0 => rfl
  | n + 1 => by rw [outU_succ, List.length_append, outU_length v s n]; rfl
def blk (k n : List UInt8) (c : UInt32) : List UInt8 := outU (rndU (first k n c) 10) (first k n c) 16
theorem blk_length (k n : List UInt8) (c : UInt32) : (blk k n c).length = 64 := outU_length _ _ 16
/-- the byte of the key stream at a place -/
def ks (k n : List UInt8) (i : Nat) : UInt8 := (blk k n (UInt32.ofNat (1 + i / 64))).getD (i % 64) 0
def strm (k n b : List UInt8) : List UInt8 := b.mapIdx fun i x => x ^^^ ks k n i
theorem strm_length (k n b : List UInt8) : (strm k n b).length = b.length := by unfold strm; exact List.length_mapIdx
theorem strm_strm (k n b : List UInt8) : strm k n (strm k n b) = b := by
  unfold strm
  refine List.ext_getElem? fun i => ?_
  rw [List.getElem?_mapIdx, List.getElem?_mapIdx]
  cases b[i]? with
  | none => rfl
  | some x => simp [UInt8.xor_assoc]
theorem strm_at (k n b : List UInt8) {i : Nat} (h : i < b.length) : (strm k n b).getD i 0 = b.getD i 0 ^^^ ks k n i := by
  unfold strm
  rw [List.getD_eq_getElem?_getD, List.getD_eq_getElem?_getD, List.getElem?_mapIdx, List.getElem?_eq_getElem h]; rfl
theorem strm_snoc (k n b : List UInt8) (x : UInt8) : strm k n (b ++ [x]) = strm k n b ++ [x ^^^ ks k n b.length] := by
  unfold strm; rw [List.mapIdx_append]; simp
theorem getD_drop8 (b : List UInt8) (i j : Nat) : (b.drop i).getD j 0 = b.getD (i + j) 0 := by
  rw [List.getD_eq_getElem?_getD, List.getD_eq_getElem?_getD, List.getElem?_drop]
theorem wle_drop (b : List UInt8) (i : Nat) : wle (b.drop i) 0 = wle b i := by
  unfold wle
  simp only [getD_drop8, Nat.zero_add, Nat.add_zero]
theorem ws4_succ (b : List UInt8) (n : Nat) : ws4 b (n + 1) = ws4 b n ++ [wle b (4 * n)] := by simp [ws4, List.range_succ]
/-- words, and zeros behind them -/
theorem set_next (A : List UInt32) (m j : Nat) (x : UInt32) (h : A.length = j) : (A ++ List.replicate (m + 1) 0).set j x = A ++ [x] ++ List.replicate m 0 := by
  subst h
  rw [List.set_append_right _ _ (Nat.le_refl _), Nat.sub_self, List.replicate_succ, List.set_cons_zero, List.append_assoc]; rfl
end Cha
