/- SHA-256 as plain functions on lists; no program in sight. -/
import Derived.Test.YtjfiggbgpplopaaDoorRule
namespace Sha
open Eng

def rr (v : UInt32) (n : Nat) : UInt32 := (v >>> UInt32.ofNat n) ||| (v <<< UInt32.ofNat (32 - n))
def sg0 (x : UInt32) : UInt32 := rr x 7 ^^^ rr x 18 ^^^ (x >>> 3)
def sg1 (x : UInt32) : UInt32 := rr x 17 ^^^ rr x 19 ^^^ (x >>> 10)
def word (b : List UInt8) (i : Nat) : UInt32 := (b.getD i 0).toUInt32 <<< 24 ||| (b.getD (i + 1) 0).toUInt32 <<< 16 ||| (b.getD (i + 2) 0).toUInt32 <<< 8 ||| (b.getD (i + 3) 0).toUInt32
/-- the first t words of a block -/
def wl (b : List UInt8) : Nat → List UInt32
  | 0 => []
  | t + 1 => wl b t ++ [if t < 16 then word b (4 * t) else (wl b t).getD (t - 16) 0 + sg0 ((wl b t).getD (t - 15) 0) + (wl b t).getD (t - 7) 0 + sg1 ((wl b t).getD (t - 2) 0)]
theorem wl_length (b : List UInt8) : ∀ t, (wl b t).length = t
  | 0 => rfl
  | t + 1 => by simp [wl, wl_length b t]
theorem wl_take (b : List UInt8) (t : Nat) : ∀ k, (wl b (t + k)).take t = wl b t
  | 0 => List.take_of_length_le (by rw [wl_length]; omega)
  | k + 1 => by
    show (wl b (t + k) ++ _).take t = _
    rw [List.take_append_of_le_length (by rw [wl_length]; omega), wl_take b t k]
theorem wl_get (b : List UInt8) {i t : Nat} (h : i < t) : (wl b t).getD i 0 = (wl b (i + 1)).getD i 0 := by
  obtain ⟨k, rfl⟩ := Nat.exists_eq_add_of_lt h
  have e := wl_take b (i + 1) k
  rw [show i + 1 + k = i + k + 1 by omega] at e
  rw [← e]
  simp [List.getD_eq_getElem?_getD]

structure S8 where
  (a b c d e f g h : UInt32)
def S8.l (s : S8) : List UInt32 := [s.a, s.b, s.c, s.d, s.e, s.f, s.g, s.h]
def bsg1 (e : UInt32) : UInt32 := rr e 6 ^^^ rr e 11 ^^^ rr e 25
def bsg0 (a : UInt32) : UInt32 := rr a 2 ^^^ rr a 13 ^^^ rr a 22
def ch (e f g : UInt32) : UInt32 := g ^^^ (e &&& (f ^^^ g))
def maj (a b c : UInt32) : UInt32 := (a &&& b) ||| (c &&& (a ||| b))
def p1 (s : S8) (k w : UInt32) : UInt32 := s.h + bsg1 s.e + ch s.e s.f s.g + k + w
def q1 (s : S8) : UInt32 := bsg0 s.a + maj s.a s.b s.c
def rnd (s : S8) (k w : UInt32) : S8 := ⟨p1 s k w + q1 s, s.a, s.b, s.c, s.d + p1 s k w, s.e, s.f, s.g⟩
def rnds (K W : List UInt32) (s : S8) : Nat → S8
  | 0 => s
  | t + 1 => rnd (rnds K W s t) (K.getD t 0) (W.getD t 0)
def S8.add (s v : S8) : S8 := ⟨s.a + v.a, s.b + v.b, s.c + v.c, s.d + v.d, s.e + v.e, s.f + v.f, s.g + v.g, s.h + v.h⟩
def K : List UInt32 := [1116352408, 1899447441, 3049323471, 3921009573, 961987163, 1508970993, 2453635748, 2870763221, 3624381080, 310598401, 607225278, 1426881987, 1925078388, 2162078206, 2614888103, 3248222580, 3835390401, 4022224774, 264347078, 604807628, 770255983, 1249150122, 1555081692, 1996064986, 2554220882, 2821834349, 2952996808, 3210313671, 3336571891, 3584528711, 113926993, 338241895, 666307205, 773529912, 1294757372, 1396182291, 1695183700, 1986661051, 2177026350, 2456956037, 2730485921, 2820302411, 3259730800, 3345764771, 3516065817, 3600352804, 4094571909, 275423344, 430227734, 506948616, 659060556, 883997877, 958139571, 1322822218, 1537002063, 1747873779, 1955562222, 2024104815, 2227730452, 2361852424, 2428436474, 2756734187, 3204031479, 3329325298]
def init : S8 := ⟨1779033703, 3144134277, 1013904242, 2773480762, 1359893119, 2600822924, 528734635, 1541459225⟩
def blk (s : S8) (b : List UInt8) : S8 := s.add (rnds K (wl b 64) s 64)
/-- the number of zeros that are added -/
def zn (n : Nat) : Nat := (119 - n % 64) % 64
/-- a number in so many bytes, the most significant one first -/
def be (n : Nat) : Nat → List UInt8
  | 0 => []
  | k + 1 => UInt8.ofNat (n / 2 ^ (8 * k)) :: be n k
theorem be_length (n : Nat) : ∀ k, (be n k).length = k
  | 0 => rfl
  | k + 1 => by simp [be, be_length n k]
theorem be_get (n : Nat) : ∀ k i, i < k → (be n k).getD i 0 = UInt8.ofNat (n / 2 ^ (8 * (k - 1 - i)))
  | 0, _, h => by omega
  | k + 1, 0, _ => by simp [be]
  | k + 1, i + 1, h => by
    have := be_get n k i (by omega)
    simp only [be, List.getD_cons_succ, this]
    rw [show k + 1 - 1 - (i + 1) = k - 1 - i by omega]
def padded (b : List UInt8) : List UInt8 := b ++ 128 :: (List.replicate (zn b.length) 0 ++ be (b.length * 8) 8)
theorem padded_length (b : List UInt8) : (padded b).length = b.length + 9 + zn b.length := by simp [padded, be_length]; omega
/-- the state after k blocks -/
def abs (s : S8) (l : List UInt8) : Nat → S8
  | 0 => s
  | k + 1 => blk (abs s l k) ((l.drop (64 * k)).take 64)
def out (s : S8) : List UInt8 := be s.a.toNat 4 ++ be s.b.toNat 4 ++ be s.c.toNat 4 ++ be s.d.toNat 4 ++ be s.e.toNat 4 ++ be s.f.toNat 4 ++ be s.g.toNat 4 ++ be s.h.toNat 4
def sum (b : List UInt8) : List UInt8 := out (abs init (padded b) ((padded b).length / 64))
theorem out_length (s : S8) : (out s).length = 32 := by simp [out, be_length]
theorem sum_length (b : List UInt8) : (sum b).length = 32 := out_length _
def tagged (t b : List UInt8) : List UInt8 := sum (sum t ++ b)
theorem tagged_length (t b : List UInt8) : (tagged t b).length = 32 := sum_length _

theorem zn_spec (n : Nat) : (n + 9 + zn n) % 64 = 0 ∧ zn n < 64 := by unfold zn; omega

/-- the words as the specification writes them -/
theorem ch_eq (e f g : UInt32) : (e &&& f) ^^^ (~~~e &&& g) = ch e f g := by
  apply UInt32.toBitVec_inj.1
  simp only [ch, UInt32.toBitVec_xor, UInt32.toBitVec_and, UInt32.toBitVec_not]
  apply BitVec.eq_of_getElem_eq
  intro i hi
  simp only [BitVec.getElem_xor, BitVec.getElem_and, BitVec.getElem_not]
  cases e.toBitVec[i] <;> cases f.toBitVec[i] <;> cases g.toBitVec[i] <;> rfl
theorem maj_eq (a b c : UInt32) : (a &&& b) ^^^ (a &&& c) ^^^ (b &&& c) = maj a b c := by
  apply UInt32.toBitVec_inj.1
  simp only [maj, UInt32.toBitVec_xor, UInt32.toBitVec_and, UInt32.toBitVec_or]
  apply BitVec.eq_of_getElem_eq
  intro i hi
  simp only [BitVec.getElem_xor, BitVec.getElem_and, BitVec.getElem_or]
  cases a.toBitVec[i] <;> cases b.toBitVec[i] <;> cases c.toBitVec[i] <;> rfl
theorem rr_comm (v : UInt32) (n : Nat) : (v <<< UInt32.ofNat (32 - n)) ||| (v >>> UInt32.ofNat n) = rr v n := UInt32.or_comm _ _
theorem u32_or_assoc (a b c : UInt32) : a ||| b ||| c = a ||| (b ||| c) := UInt32.or_assoc _ _ _

theorem abs_congr (s : S8) (l l' : List UInt8) : ∀ k, l.take (64 * k) = l'.take (64 * k) → abs s l k = abs s l' k
  | 0, _ => rfl
  | k + 1, h => by
    have h1 : l.take (64 * k) = l'.take (64 * k) := by
      have := congrArg (List.take (64 * k)) h
      rwa [List.take_take, List.take_take, Nat.min_eq_left (by omega)] at this
    have h2 : (l.drop (64 * k)).take 64 = (l'.drop (64 * k)).take 64 := by
      have := congrArg (List.drop (64 * k)) h
      rwa [List.drop_take, List.drop_take, show 64 * (k + 1) - 64 * k = 64 by omega] at this
    rw [abs, abs, abs_congr s l l' k h1, h2]
end Sha
