/- What the hash is made of: plain facts. -/
import Derived.Test.YtjfiggbgpplopaaDoorShaDef
namespace Sha
open Eng

theorem word_take (q : List UInt8) (i : Nat) (h : i + 3 < 64) : word (q.take 64) i = word q i := by
  have e : ∀ j, j < 64 → (q.take 64).getD j 0 = q.getD j 0 := fun j hj => by
    simp only [List.getD_eq_getElem?_getD]
    rw [List.getElem?_take_of_lt hj]
  unfold word
  rw [e _ (by omega), e _ (by omega), e _ (by omega), e _ (by omega)]
theorem wl_take64 (q : List UInt8) : ∀ t, wl (q.take 64) t = wl q t
  | 0 => rfl
  | t + 1 => by
    unfold wl
    rw [wl_take64 q t]
    by_cases h : t < 16
    · rw [if_pos h, if_pos h, word_take q _ (by omega)]
    · rw [if_neg h, if_neg h]
theorem blk_take (s : S8) (q : List UInt8) : blk s (q.take 64) = blk s q := by
  unfold blk; rw [wl_take64]
theorem abs_succ (s : S8) (q : List UInt8) (k : Nat) : abs s q (k + 1) = blk (abs s q k) (q.drop (64 * k)) := by
  rw [abs, blk_take]
theorem abs_pad (q : List UInt8) (k : Nat) (h : 64 * k ≤ q.length) : abs init q k = abs init (padded q) k :=
  abs_congr _ _ _ _ (by rw [padded, List.take_append_of_le_length h])

/-- the last bytes, as the program lays them -/
def fin (q : List UInt8) (m : Nat) : List UInt8 := (q.drop (64 * (q.length / 64)) ++ 128 :: List.replicate (127 - q.length % 64) 0).take (m - 8) ++ be (q.length * 8) 8 ++ (q.drop (64 * (q.length / 64)) ++ 128 :: List.replicate (127 - q.length % 64) 0).drop m
def fm (q : List UInt8) : Nat := if 55 < q.length % 64 then 128 else 64
theorem fin_length (q : List UInt8) : (fin q (fm q)).length = 128 := by
  have hr := Nat.mod_lt q.length (show 64 > 0 by decide)
  have hd := Nat.mod_add_div q.length 64
  simp only [fin, List.length_append, List.length_take, List.length_drop, be_length, List.length_cons, List.length_replicate]
  unfold fm
  split <;> omega
theorem fin_take (q : List UInt8) : (fin q (fm q)).take (fm q) = (padded q).drop (64 * (q.length / 64)) := by
  have hr := Nat.mod_lt q.length (show 64 > 0 by decide)
  have hd := Nat.mod_add_div q.length 64
  have hz : zn q.length = fm q - 9 - q.length % 64 := by unfold zn fm; split <;> omega
  have hm : q.length % 64 + 9 ≤ fm q ∧ fm q ≤ 128 := by unfold fm; split <;> omega
  have hrest : (q.drop (64 * (q.length / 64))).length = q.length % 64 := by simp; omega
  generalize hE : q.drop (64 * (q.length / 64)) = E at *
  have e1 : (E ++ 128 :: List.replicate (127 - q.length % 64) 0).take (fm q - 8) = E ++ 128 :: List.replicate (zn q.length) 0 := by
    rw [List.take_append, List.take_of_length_le (by omega), hrest, show fm q - 8 - q.length % 64 = (fm q - 9 - q.length % 64) + 1 by omega, List.take_succ_cons, List.take_replicate, hz, Nat.min_eq_left (by omega)]
  unfold fin
  rw [hE, e1, List.take_append_of_le_length (by simp [hrest, be_length]; omega), List.take_of_length_le (by simp [hrest, be_length]; omega)]
  rw [padded, List.drop_append_of_le_length (by omega), hE]
  simp
theorem fin_block (q : List UInt8) (j : Nat) (h : 64 * (j + 1) ≤ fm q) : blk (abs init (padded q) (q.length / 64 + j)) ((fin q (fm q)).drop (64 * j)) = abs init (padded q) (q.length / 64 + (j + 1)) := by
  rw [← Nat.add_assoc, abs_succ, ← blk_take, ← blk_take _ ((padded q).drop _)]
  congr 1
  rw [Nat.mul_add, ← List.drop_drop, ← fin_take, List.drop_take, List.take_take, Nat.min_eq_left (by omega)]
theorem padded_blocks (q : List UInt8) : (padded q).length / 64 = q.length / 64 + fm q / 64 ∧ (fm q = 64 ∨ fm q = 128) := by
  have hr := Nat.mod_lt q.length (show 64 > 0 by decide)
  have hd := Nat.mod_add_div q.length 64
  rw [padded_length]
  constructor
  · unfold zn fm; split <;> omega
  · unfold fm; split <;> simp
/-- the bytes of the first i words, and zeros -/
def outs (l : List UInt32) (i : Nat) : List UInt8 := (l.take i).flatMap (fun v => be v.toNat 4) ++ List.replicate (32 - 4 * i) 0
theorem flat_length (l : List UInt32) : (l.flatMap (fun v => be v.toNat 4)).length = 4 * l.length := by
  induction l with
  | nil => rfl
  | cons x l ih => simp only [List.flatMap_cons, List.length_append, be_length, ih, List.length_cons]; omega
theorem outs_step (l : List UInt32) (i : Nat) (h : i < l.length) (h8 : i < 8) : (outs l i).take (4 * i) ++ be (l.getD i 0).toNat 4 ++ (outs l i).drop (4 * i + 4) = outs l (i + 1) := by
  have hl : ((l.take i).flatMap (fun v => be v.toNat 4)).length = 4 * i := by rw [flat_length, List.length_take, Nat.min_eq_left (by omega)]
  have hx : l.take (i + 1) = l.take i ++ [l.getD i 0] := by
    rw [List.take_add_one, List.getD_eq_getElem?_getD, List.getElem?_eq_getElem h]; rfl
  unfold outs
  rw [List.take_left' hl, List.drop_append, hl, List.drop_eq_nil_of_le (by omega), List.nil_append, List.drop_replicate, hx, List.flatMap_append]
  simp only [List.flatMap_cons, List.flatMap_nil, List.append_nil]
  congr 2
  omega
theorem outs_length (l : List UInt32) (i : Nat) (h : i ≤ l.length) (h8 : i ≤ 8) : (outs l i).length = 32 := by
  rw [outs, List.length_append, flat_length, List.length_take, List.length_replicate, Nat.min_eq_left h]; omega
theorem outs_all (s : S8) : outs s.l 8 = out s := by
  simp [outs, S8.l, out, List.append_assoc]
end Sha
