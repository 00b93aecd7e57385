/- The package padding: what its functions compute. -/
import Derived.Test.YtnkomkfciojglaaDoorSlices
import Derived.Test.YtnkomkfciojglaaDoorMore
namespace Go.Proofs.YtnkomkfciojglaaDoor
open Go Eng

/-- the lengths of the classes -/
def lens : List Int := [64, 256, 1024, 4096, 16384, 65536]
/-- the class of so many bytes -/
def pcl (n : Int) : Int := if n + 4 ≤ 64 then 0 else if n + 4 ≤ 256 then 1 else if n + 4 ≤ 1024 then 2 else if n + 4 ≤ 4096 then 3 else if n + 4 ≤ 16384 then 4 else 5
/-- the length of a class -/
def plen (i : Int) : Int := if i = 0 then 64 else if i = 1 then 256 else if i = 2 then 1024 else if i = 3 then 4096 else if i = 4 then 16384 else 65536

theorem lens_get {i : Int} (h0 : 0 ≤ i) (h1 : i < 6) : lens.getD i.toNat 0 = plen i := by
  have : i = 0 ∨ i = 1 ∨ i = 2 ∨ i = 3 ∨ i = 4 ∨ i = 5 := by omega
  rcases this with rfl | rfl | rfl | rfl | rfl | rfl <;> rfl
theorem lens_cell {i : Int} (h0 : 0 ≤ i) (h1 : i < 6) : (is lens)[i.toNat]? = some (I (plen i)) := by
  have : i = 0 ∨ i = 1 ∨ i = 2 ∨ i = 3 ∨ i = 4 ∨ i = 5 := by omega
  rcases this with rfl | rfl | rfl | rfl | rfl | rfl <;> rfl
theorem plen_le (i : Int) : 64 ≤ plen i ∧ plen i ≤ 65536 := by unfold plen; repeat' split
                                                               all_goals omega
theorem plen_mono (i j : Int) (h : i ≤ j) (h0 : 0 ≤ i) : plen i ≤ plen j := by unfold plen; repeat' split
                                                                               all_goals omega
theorem pcl_bd (n : Int) : 0 ≤ pcl n ∧ pcl n < 6 := by unfold pcl; repeat' split
                                                       all_goals omega

/-- what Class and Length return -/
def clV (n : Int) : Int := if n < 0 ∨ 65532 < n then 0 else pcl n
def clE (n : Int) : Int := if n < 0 ∨ 65532 < n then 280 else 0
def lnV (i : Int) : Int := if i < 0 ∨ 6 ≤ i then 0 else plen i
def lnE (i : Int) : Int := if i < 0 ∨ 6 ≤ i then 280 else 0

def LD (w : World) : Prop := Rd w (some ⟨0, 0, none⟩) (is lens)
theorem LD.st {W w : World} {l : SH} (h : LD W) (hs : St W [] w l) : LD w := Rd.st h hs

theorem padding_Class_1_ok (w : World) (n i : Int) (b : Nat) (hg : LD w) (hb : Rd w (some ⟨b, 0, none⟩) [I n]) (h0 : 0 ≤ i) (h1 : i < 6) (hn : 0 ≤ n) (hn2 : n ≤ 65532) :
    Pure Tryd.prog 20 [I i, .pointer (some ⟨b, 0, none⟩)] w (.bool (decide (n + 4 ≤ plen i))) := by
  refine enter Tryd.func20 Tryd.ntmps20 ?_
  refine c_seq <| c_reg <| s_y y_as <| s_nil <| q_then <| c_seq <| c_regd <| d_y y_mv <| d_y y_ixa1 <| d_y (y_ldr (a := some ⟨0, 0, none⟩) (lens_cell h0 h1) (hr := rdW0 hg)) <| d_y (y_ldr (a := some ⟨b, 0, none⟩) (i := 0) (xs := [I n]) rfl (hr := rdW0 hb)) <| d_y y_add <| d_y y_geq <| d_y y_as <| d_nil <| q_then <| ?_
  refine c_ret <| ?_
  exact ret1 Tryd.results20 rv_t fun w' hw => ⟨rfl, hw⟩

theorem padding_Class_ok (w : World) (n : Int) (hg : LD w) :
    Pure Tryd.prog 11 [I n] w (.tuple #[I (clV n), I (clE n)]) := by
  refine enter Tryd.func11 Tryd.ntmps11 ?_
  refine c_seq <| c_reg <| s_box rfl fun b1 => s_y y_as <| s_y y_as <| s_nil <| q_then <| c_seq <| c_seq <| c_reg <| s_y y_ld <| s_ifd y_lss (fun h1 => s_y y_mv <| s_no <| s_no <| s_no <| s_no <| s_no <| s_y y_pk <| s_nil <| q_then <| ?_) (fun h1 => s_y y_mv <| s_y y_ld <| s_y y_ixa1 <| s_y (y_ldr (a := some ⟨0, 0, none⟩) (xs := is lens) (v := I 65536) rfl (hr := rdW0 hg)) <| s_y y_sub <| s_y y_gtr <| s_y y_pk <| s_nil <| q_then <| ?_)
  · refine c_t <| c_seq <| c_reg <| s_y y_as <| s_y y_as <| s_nil <| q_then <| ?_
    refine c_ret <| q_ret <| ?_
    exact ret2 Tryd.results11 rv_t rv_t fun w' hw => ⟨by first | (simp [clV, clE, h1]; done) | (simp [lnV, lnE, h1]; done), hw.sub (by simp)⟩
  refine c_ifd (fun h12 => ?_) (fun h12 => ?_)
  · refine c_seq <| c_reg <| s_y y_as <| s_y y_as <| s_nil <| q_then <| ?_
    refine c_ret <| q_ret <| ?_
    exact ret2 Tryd.results11 rv_t rv_t fun w' hw => ⟨by have : n < 0 ∨ 65532 < n := .inr h12; simp [clV, clE, this], hw.sub (by simp)⟩
  · refine c_skip <| q_then <| c_seq <| c_reg <| s_y y_func <| ?_
    refine s_pure (fun w' hw => sort_Search_ok w' 6 (pcl n) 20 [] [.pointer (some ⟨b1, 0, none⟩)] (fun i => decide (n + 4 ≤ plen i)) (fun w2 i h2 hi0 hi1 => padding_Class_1_ok w2 n i b1 ((hg.st hw).st h2) (Rd.st (rdB (cs := #[I n]) (.head _) (fun i v h => by simpa using h) w' hw) h2) hi0 hi1 (by omega) (by omega)) (pcl_bd n).1 (by have := pcl_bd n; omega) (by omega) ?_ ?_) <| s_y y_as <| s_y y_as <| s_nil <| q_then <| ?_
    · intro i hi0 hi1
      have hlt : i < 6 := by have := pcl_bd n; omega
      have hno : ¬ n + 4 ≤ plen i := by
        have : i = 0 ∨ i = 1 ∨ i = 2 ∨ i = 3 ∨ i = 4 ∨ i = 5 := by omega
        unfold pcl at hi1
        rcases this with rfl | rfl | rfl | rfl | rfl | rfl <;> simp [plen] <;> (repeat' split at hi1) <;> omega
      simpa using hno
    · intro i hi0 hi1
      have h0 : 0 ≤ i := by have := pcl_bd n; omega
      have hyes : n + 4 ≤ plen i := by
        have : i = 0 ∨ i = 1 ∨ i = 2 ∨ i = 3 ∨ i = 4 ∨ i = 5 := by omega
        unfold pcl at hi0
        rcases this with rfl | rfl | rfl | rfl | rfl | rfl <;> simp [plen] <;> (repeat' split at hi0) <;> omega
      simpa using hyes
    refine c_ret <| ?_
    have h9 : ¬ (n < 0 ∨ 65532 < n) := by omega
    exact ret2 Tryd.results11 rv_t rv_t fun w' hw => ⟨by simp [clV, clE, h9], hw.sub (by simp)⟩

theorem padding_Length_ok (w : World) (i : Int) (hg : LD w) :
    Pure Tryd.prog 13 [I i] w (.tuple #[I (lnV i), I (lnE i)]) := by
  refine enter Tryd.func13 Tryd.ntmps13 ?_
  refine c_seq <| c_reg <| s_y y_as <| s_y y_as <| s_nil <| q_then <| c_seq <| c_seq <| c_reg <| s_y y_mv <| s_ifd y_lss (fun h1 => s_y y_mv <| s_no <| s_no <| s_y y_pk <| s_nil <| q_then <| c_t <| ?_) (fun h1 => s_y y_mv <| s_y y_mv <| s_y y_geq <| s_y y_pk <| s_nil <| q_then <| c_ifd (fun h9 => ?_) (fun h9 => ?_))
  · refine c_seq <| c_reg <| s_y y_as <| s_y y_as <| s_nil <| q_then <| ?_
    refine c_ret <| q_ret <| ?_
    exact ret2 Tryd.results13 rv_t rv_t fun w' hw => ⟨by first | (simp [clV, clE, h1]; done) | (simp [lnV, lnE, h1]; done), hw⟩
  · refine c_seq <| c_reg <| s_y y_as <| s_y y_as <| s_nil <| q_then <| ?_
    refine c_ret <| q_ret <| ?_
    exact ret2 Tryd.results13 rv_t rv_t fun w' hw => ⟨by have : i < 0 ∨ 6 ≤ i := .inr h9; simp [lnV, lnE, this], hw⟩
  · refine c_skip <| q_then <| c_seq <| c_reg <| s_y y_mv <| s_y y_ixa1 <| s_y (y_ldr (a := some ⟨0, 0, none⟩) (lens_cell (i := i) (by omega) (by omega)) (hr := rdW0 hg)) <| s_y y_as <| s_y y_as <| s_nil <| q_then <| ?_
    refine c_ret <| ?_
    have h8 : ¬ (i < 0 ∨ 6 ≤ i) := by omega
    exact ret2 Tryd.results13 rv_t rv_t fun w' hw => ⟨by simp [lnV, lnE, h8], hw⟩

/-- a number in four bytes -/
def be4 (n : Nat) : List UInt8 := [UInt8.ofNat (n / 2 ^ 24), UInt8.ofNat (n / 2 ^ 16), UInt8.ofNat (n / 2 ^ 8), UInt8.ofNat n]
/-- padded bytes -/
def pad (q : List UInt8) : List UInt8 := if 65532 < q.length then [] else be4 q.length ++ q ++ List.replicate ((plen (pcl q.length)).toNat - 4 - q.length) 0
def padE (q : List UInt8) : Int := if 65532 < q.length then 280 else 0

theorem plen_pcl {n : Int} (h0 : 0 ≤ n) (h : n ≤ 65532) : n + 4 ≤ plen (pcl n) := by
  unfold pcl
  repeat' split
  all_goals simp [plen]
  all_goals omega
theorem pad_length {q : List UInt8} (h : q.length ≤ 65532) : ((pad q).length : Int) = plen (pcl q.length) := by
  have h1 := plen_pcl (n := q.length) (by omega) (by omega)
  rw [pad, if_neg (by omega)]
  simp [be4]
  omega
theorem be4_get (n k : Nat) (hk : k < 4) : (be4 n).getD k 0 = UInt8.ofNat ((((n : Int) / 2 ^ (8 * (3 - (k : Int))).toNat) % 256).toNat) := by
  have : k = 0 ∨ k = 1 ∨ k = 2 ∨ k = 3 := by omega
  have key : ∀ m : Nat, UInt8.ofNat (((m : Int) % 256).toNat) = UInt8.ofNat m := by
    intro m
    apply UInt8.toNat_inj.1
    simp
    omega
  have key2 : ∀ m : Nat, UInt8.ofNat (n / 2 ^ m) = UInt8.ofNat (((n : Int) / 2 ^ m) % 256).toNat := by
    intro m
    rw [← key (n / 2 ^ m)]
    simp
  rcases this with rfl | rfl | rfl | rfl
  · exact key2 24
  · exact key2 16
  · exact key2 8
  · have := key2 0
    rw [Nat.pow_zero, Nat.div_one] at this
    exact this

theorem padding_Pad_ok (w : World) (a : Option Addr) (c : Nat) (q : List UInt8) (hg : LD w) (hr : Rd w a (bs q)) (hq : q.length < 9223372036854775807) :
    Gives Tryd.prog 15 [.slice a q.length c] w [] (fun x : Option Addr × Nat => .tuple #[.slice x.1 (pad q).length x.2, I (padE q)])
      (fun x => [.row x.1 x.2 5 1 (pad q).length (bs (pad q))]) (fun _ => True) := by
  refine enter Tryd.func15 Tryd.ntmps15 ?_
  refine c_seq <| c_reg <| s_y y_as <| s_y y_as <| s_nil <| q_then <| c_seq <| c_reg <| s_y y_mv <| s_y y_len <| s_pure (fun w' hw => padding_Class_ok w' q.length (hg.st hw)) <| s_y y_mv <| s_y y_ext <| s_y y_ext <| s_y y_as <| s_y y_as <| s_nil <| q_then <| c_seq <| c_seq <| c_reg <| s_y y_mv <| s_y y_neq <| s_nil <| q_then <| c_ifn (fun h13 => ?_) (fun h13 => ?_)
  · have hbig : 65532 < q.length := by
      by_cases hc : (q.length : Int) < 0 ∨ 65532 < (q.length : Int)
      · omega
      · exact absurd (by simp [clE, hc]) h13
    have e1 : clE q.length = padE q := by
      have : (q.length : Int) < 0 ∨ 65532 < (q.length : Int) := by omega
      simp [clE, padE, hbig, this]
    have e2 : pad q = [] := by simp [pad, hbig]
    refine c_seq <| c_reg <| s_y y_mv <| s_y y_as <| s_y y_as <| s_nil <| q_then <| c_ret <| q_ret <| ?_
    refine ret2 Tryd.results15 rv_t rv_t fun w' hw => ⟨(none, 0), trivial, ?_, ?_⟩
    · rw [e1, e2]; rfl
    · rw [e2]; exact hw.nilRow _ _
  · have hsm : q.length ≤ 65532 := by
      by_cases hc : (q.length : Int) < 0 ∨ 65532 < (q.length : Int)
      · exact absurd h13 (by simp [clE, hc])
      · omega
    have e1 : clV q.length = pcl q.length := by
      have : ¬ ((q.length : Int) < 0 ∨ 65532 < (q.length : Int)) := by omega
      simp [clV, this]
    have hpb := pcl_bd q.length
    have hpl := plen_le (pcl q.length)
    have hpp := plen_pcl (n := q.length) (by omega) (by omega)
    rw [e1]
    refine c_skip <| q_then <| c_seq <| c_reg <| s_y y_mv <| s_y y_ixa1 <| s_y (y_ldr (a := some ⟨0, 0, none⟩) (lens_cell hpb.1 hpb.2) (hr := rdW0 hg)) <| s_mkb fun b18 => s_y y_as <| s_nil <| q_then <| c_seq <| c_seq <| c_reg <| s_y y_mv <| s_nil <| q_then <| c_block <| ?_
    generalize hL : plen (pcl q.length) = L at *
    refine c_loop (fun k : Nat => [(0, .slice a q.length c), (2, .slice (some ⟨b18, 0, none⟩) L.toNat L.toNat), (19, I k)]) (fun k => [.blk b18 (.cells (bs ((be4 q.length).take k ++ List.replicate (L.toNat - k) 0)).toArray 5 (0, 0))]) (fun k => k ≤ 4) (fun k => 4 - k) 0 (by omega) ⟨rfl, rfl, rfl, trivial⟩ (List.Sublist.refl _) ?_
    intro k hk
    refine c_seq <| c_reg <| s_y y_lss <| s_nil <| q_then <| c_seq <| c_ifd (fun h20 => ?_) (fun h20 => ?_)
    · refine c_skip <| q_then <| c_seq <| c_block <| c_seq <| c_reg <| s_y y_mv <| s_y y_as <| s_nil <| q_then <| c_reg <| s_y y_mv <| s_y y_mv <| s_y y_mv <| s_y y_len <| s_y y_mv <| s_y y_sub <| s_y y_mul <| s_y y_sar <| s_y y_cv8 <| s_y y_ixb1 <| s_stb (?_) (hl := ?_) 
      · rw [Int.toNat_natCast, Nat.zero_add, set_fill (be4 q.length) k L.toNat 0 _ 0 (by simp [be4]; omega) (by omega) (be4_get _ _ (by omega))]
        refine s_nil <| q_nb <| q_then <| c_reg <| s_y y_add <| s_y y_mv <| s_nil <| q_round (k + 1) (by omega) (by omega) ⟨rfl, rfl, rfl, trivial⟩ (List.Sublist.refl _)
      · simp [be4]; omega
    · have hk4 : k = 4 := by omega
      subst hk4
      refine c_exit <| q_ex <| q_ex <| q_exb <| q_then <| c_seq <| c_reg <| s_y y_mv <| s_y y_sll <| s_y y_mv <| ?_
      rw [sa_lt (by omega)]
      refine s_cpb (ys := q) (hfit := ?fit) ?_
      case fit =>
        have := Nat.min_le_left q.length (L.toNat - (4 : Int).toNat)
        have e9 : (be4 q.length).length = 4 := rfl
        have e8 : (4 : Int).toNat = 4 := rfl
        rw [List.length_append, List.length_replicate, List.length_take, e9, e8]
        rw [e8] at this
        change 0 + 4 * 1 + min q.length (L.toNat - 4) ≤ _
        omega
      refine s_nil <| q_then <| c_seq <| c_reg <| s_y y_mv <| s_y y_as <| s_y y_as <| s_nil <| q_then <| c_ret <| ?_
      have e3 : Nat.min q.length (L.toNat - (4 : Int).toNat) = q.length := by
        exact Nat.min_eq_left (by show q.length ≤ L.toNat - 4; omega)
      have e4 : (be4 q.length).take 4 = be4 q.length := rfl
      have e5 : (be4 q.length ++ List.replicate (L.toNat - 4) 0).take (0 + (4 : Int).toNat * 1) ++ q.take q.length ++ (be4 q.length ++ List.replicate (L.toNat - 4) 0).drop (0 + (4 : Int).toNat * 1 + q.length) = pad q := by
        rw [pad, if_neg (by omega), hL]
        have e8 : (be4 q.length).length = 4 := rfl
        rw [show 0 + (4 : Int).toNat * 1 = 4 from rfl, List.take_left' e8, List.take_length, List.drop_append, e8, List.drop_eq_nil_of_le (by rw [e8]; omega), List.nil_append, List.drop_replicate, show L.toNat - 4 - (4 + q.length - 4) = L.toNat - 4 - q.length by omega]
      have e6 : (pad q).length = L.toNat := by have := pad_length hsm; omega
      have e7 : padE q = 0 := by rw [padE, if_neg (by omega)]
      rw [e3, e4, e5]
      refine ret2 Tryd.results15 rv_t rv_t fun w' hw => ⟨(some ⟨b18, 0, none⟩, L.toNat), trivial, ?_, ?_⟩
      · rw [e6, e7]
      · rw [e6]; exact hw.toRowB e6 (by unfold maxLen; omega)

/-- the number in the first k bytes -/
def bek (p : List UInt8) (k : Nat) : Nat := (p.take k).foldl (fun n x => n * 256 + x.toNat) 0
theorem bek_succ (p : List UInt8) (k : Nat) (h : k < p.length) : bek p (k + 1) = bek p k * 256 + (p.getD k 0).toNat := by
  unfold bek
  rw [take_snoc p k 0 h, List.foldl_append]
  rfl
theorem bek_lt (p : List UInt8) : ∀ k, k ≤ p.length → bek p k < 256 ^ k
  | 0, _ => by simp [bek]
  | k + 1, h => by
    rw [bek_succ p k (by omega)]
    have h1 := bek_lt p k (by omega)
    have h2 := (p.getD k 0).toNat_lt
    rw [Nat.pow_succ]
    omega
/-- whether bytes are padded ones -/
def unpOK (p : List UInt8) : Bool := lens.any (fun x => decide ((p.length : Int) = x)) && decide (bek p 4 ≤ 65532) && decide (plen (pcl (bek p 4)) = p.length) && !(p.drop (4 + bek p 4)).any (fun x => x != 0)
def unpad (p : List UInt8) : List UInt8 := bif unpOK p then (p.drop 4).take (bek p 4) else []
def unpE (p : List UInt8) : Int := bif unpOK p then 0 else 280
def unpA (p : List UInt8) (a : Option Addr) : Option Addr := bif unpOK p then sa a 4 (4 + bek p 4) 1 else none

theorem lens_any {n : Int} (h : lens.any (fun x => decide (n = x)) = true) : n = 64 ∨ n = 256 ∨ n = 1024 ∨ n = 4096 ∨ n = 16384 ∨ n = 65536 := by
  simpa [lens] using h

theorem padding_Unpad_1_ok (w : World) (x : UInt8) : Pure Tryd.prog 23 [B x] w (.bool (x != 0)) := by
  refine enter Tryd.func23 Tryd.ntmps23 ?_
  refine c_seq <| c_reg <| s_y y_as <| s_nil <| q_then <| c_seq <| c_reg <| s_y y_mv <| s_y y_neq <| s_y y_as <| s_nil <| q_then <| ?_
  refine c_ret <| ?_
  have e : (!decide ((x.toNat : Int) = 0)) = (x != 0) := by
    by_cases h : x = 0
    · subst h; rfl
    · have : ¬ ((x.toNat : Int) = 0) := by
        intro hc
        apply h
        apply UInt8.toNat_inj.1
        simpa using hc
      rw [decide_eq_false this]
      simp [h]
  exact ret1 Tryd.results23 rv_t fun w' hw => ⟨by rw [← e], hw⟩

theorem padding_Unpad_ok (w : World) (a : Option Addr) (c : Nat) (p : List UInt8) (hg : LD w) (hr : Rd w a (bs p)) (hq : p.length < 9223372036854775807) (hc : p.length ≤ c) :
    Pure Tryd.prog 17 [.slice a p.length c] w (.tuple #[.slice (unpA p a) (unpad p).length (unpad p).length, I (unpE p)]) := by
  refine enter Tryd.func17 Tryd.ntmps17 ?_
  have hl6 : lens.length = 6 := rfl
  refine c_seq <| c_reg <| s_y y_as <| s_y y_as <| s_nil <| q_then <| c_seq <| c_seq <| c_reg <| s_y y_sla <| s_y y_mv <| s_y y_len <| s_pure (fun w' hw => slices_Contains_int_int_ok w' (some ⟨0, 0, none⟩) lens 6 p.length (hg.st hw) (by simp [lens])) <| s_y y_not <| s_nil <| q_then <| c_if rfl (fun h12 => ?_) (fun h12 => ?_)
  · refine c_seq <| c_reg <| s_y y_as <| s_y y_as <| s_nil <| q_then <| c_ret <| q_ret <| ?_
    have hb : unpOK p = false := by simp only [Bool.not_eq_true'] at h12; simp [unpOK, h12]
    exact ret2 Tryd.results17 rv_t rv_t fun w' hw => ⟨by simp [unpA, unpad, unpE, hb], hw⟩
  · have hany : lens.any (fun x => decide ((p.length : Int) = x)) = true := by simpa using h12
    have hlen := lens_any hany
    have hb4 := bek_lt p 4 (by omega)
    refine c_skip <| q_then <| c_seq <| c_reg <| s_y y_as <| s_nil <| q_then <| c_seq <| c_seq <| c_reg <| s_y y_mv <| s_y y_slh <| s_y y_len <| s_y y_mv <| s_nil <| q_then <| c_block <| ?_
    refine c_loop (fun k : Nat => [(0, .slice a p.length c), (2, .slice none 0 0), (4, I (bek p k)), (14, .slice a 4 c), (15, I 4), (16, I k)]) (fun _ => []) (fun k => k ≤ 4) (fun k => 4 - k) 0 (by omega) ⟨rfl, rfl, rfl, rfl, rfl, rfl, trivial⟩ (List.Sublist.refl _) ?_
    intro k hk
    refine c_seq <| c_reg <| s_y y_lss <| s_nil <| q_then <| c_seq <| c_ifd (fun h17 => ?_) (fun h17 => ?_)
    · have hbk := bek_lt p k (by omega)
      have hbk2 : 256 ^ k ≤ 256 ^ 4 := Nat.pow_le_pow_right (by decide) hk
      have hbk3 : bek p k < 4294967296 := Nat.lt_of_lt_of_le hbk hbk2
      refine c_skip <| q_then <| c_seq <| c_block <| c_seq <| c_reg <| s_y (y_ixs1 (xs := bs p) (hl := by rw [bs_length]; omega)) <| s_y (y_ldb (q := p)) <| s_y y_as <| s_nil <| q_then <| c_reg <| s_y y_mv <| s_y (y_shln 8) <| s_y y_mv <| s_y y_cvb <| s_y y_or8 <| s_y y_as <| s_nil <| q_nb <| q_then <| c_reg <| s_y y_add <| s_y y_mv <| s_nil <| ?_
      rw [Int.toNat_natCast, ← bek_succ p k (by omega)]
      exact q_round (k + 1) (by omega) (by omega) ⟨rfl, rfl, rfl, rfl, rfl, rfl, trivial⟩ (List.Sublist.refl _)
    · have hk4 : k = 4 := by omega
      subst hk4
      refine c_exit <| q_ex <| q_ex <| q_exb <| q_then <| c_seq <| c_reg <| s_y y_mv <| s_pure (fun w' hw => padding_Class_ok w' (bek p 4) (hg.st hw)) <| s_y y_mv <| s_y y_ext <| s_y y_ext <| s_y y_as <| s_y y_as <| s_nil <| q_then <| c_seq <| c_seq <| c_reg <| s_y y_mv <| s_ifn y_neq (fun h32 => ?_) (fun h32 => ?_)
      · have hb : unpOK p = false := by
          have : ¬ bek p 4 ≤ 65532 := by
            intro h9
            exact h32 (by simp [clE]; omega)
          simp [unpOK, this]
        refine s_y y_mv <| s_no <| s_no <| s_no <| s_no <| s_no <| s_no <| s_y y_pk <| s_y y_mv <| s_no <| s_no <| s_no <| s_no <| s_no <| s_y y_pk <| s_nil <| q_then <| c_t <| c_seq <| c_reg <| s_y y_as <| s_y y_as <| s_nil <| q_then <| c_ret <| q_ret <| ?_
        exact ret2 Tryd.results17 rv_t rv_t fun w' hw => ⟨by simp [unpA, unpad, unpE, hb], hw⟩
      · have hsm : bek p 4 ≤ 65532 := by
          by_cases h9 : bek p 4 ≤ 65532
          · exact h9
          · have : (bek p 4 : Int) < 0 ∨ 65532 < (bek p 4 : Int) := by omega
            simp [clE, this] at h32
        have e1 : clV (bek p 4) = pcl (bek p 4) := by
          have : ¬ ((bek p 4 : Int) < 0 ∨ 65532 < (bek p 4 : Int)) := by omega
          simp [clV, this]
        have hpb := pcl_bd (bek p 4)
        have hpl := plen_le (pcl (bek p 4))
        have hpp := plen_pcl (n := bek p 4) (by omega) (by omega)
        rw [e1]
        refine s_y y_mv <| s_y y_mv <| s_y y_ixa1 <| s_y (y_ldr (a := some ⟨0, 0, none⟩) (lens_cell hpb.1 hpb.2) (hr := rdW0 hg)) <| s_y y_mv <| s_y y_len <| s_ifn y_neq (fun h39 => ?_) (fun h39 => ?_)
        · have hb : unpOK p = false := by simp [unpOK, h39]
          refine s_y y_pk <| s_y y_mv <| s_no <| s_no <| s_no <| s_no <| s_no <| s_y y_pk <| s_nil <| q_then <| c_t <| c_seq <| c_reg <| s_y y_as <| s_y y_as <| s_nil <| q_then <| c_ret <| q_ret <| ?_
          exact ret2 Tryd.results17 rv_t rv_t fun w' hw => ⟨by simp [unpA, unpad, unpE, hb], hw⟩
        · have e5 : p.length - (4 + (bek p 4 : Int)).toNat = (p.drop (4 + bek p 4)).length := by rw [List.length_drop]; omega
          refine s_y y_pk <| s_y y_mv <| s_y y_mv <| s_y y_mv <| s_y y_add <| s_y y_sll <| ?_
          rw [e5]
          have hr2 : Rd w (sa a (4 + (bek p 4 : Int)).toNat c 1) (bs (p.drop (4 + bek p 4))) := by
            have h := (rdW0 (W := w) (l := []) hr).sa (i := (4 + (bek p 4 : Int)).toNat) (c := c) (s := 1) (by rw [bs_length]; omega) w (St.refl w)
            rw [Nat.mul_one, ← bs_drop, show (4 + (bek p 4 : Int)).toNat = 4 + bek p 4 by omega] at h
            rw [show (4 + (bek p 4 : Int)).toNat = 4 + bek p 4 by omega]
            exact h
          refine s_pure (fun w' hw => slices_ContainsFunc_byte_byte_ok w' (sa a (4 + (bek p 4 : Int)).toNat c 1) (p.drop (4 + bek p 4)) (c - (4 + (bek p 4 : Int)).toNat) 23 [] [] (fun x => x != 0) (fun w2 x h2 => padding_Unpad_1_ok w2 x) (hr2.st hw) (by rw [List.length_drop]; omega)) <| s_y y_pk <| s_nil <| q_then <| c_if rfl (fun h47 => ?_) (fun h47 => ?_)
          · have hb : unpOK p = false := by rw [unpOK, h47]; simp
            refine c_seq <| c_reg <| s_y y_as <| s_y y_as <| s_nil <| q_then <| c_ret <| q_ret <| ?_
            exact ret2 Tryd.results17 rv_t rv_t fun w' hw => ⟨by simp [unpA, unpad, unpE, hb], hw⟩
          · have hb : unpOK p = true := by rw [unpOK, h47, hany]; simp [hsm, h39]
            refine c_skip <| q_then <| c_seq <| c_reg <| s_y y_mv <| s_y y_mv <| s_y y_add <| s_y y_mv <| s_y y_add <| s_y y_sllhm <| s_y y_as <| s_y y_as <| s_nil <| q_then <| c_ret <| ?_
            refine ret2 Tryd.results17 rv_t rv_t fun w' hw => ⟨?_, hw⟩
            have e7 : (4 + (bek p 4 : Int)).toNat = 4 + bek p 4 := by omega
            have e8 : (unpad p).length = bek p 4 := by
              rw [unpad, hb]; simp; omega
            rw [e7, e8, show 4 + bek p 4 - (4 : Int).toNat = bek p 4 by have : (4 : Int).toNat = 4 := rfl
                                                                        omega]
            rw [unpA, unpE, hb]
            rfl

theorem unpOK_bd {p : List UInt8} (h : unpOK p = true) : bek p 4 ≤ 65532 ∧ plen (pcl (bek p 4)) = p.length ∧ 4 + bek p 4 ≤ p.length := by
  simp only [unpOK, Bool.and_eq_true, decide_eq_true_eq] at h
  have hpp := plen_pcl (n := bek p 4) (by omega) (by omega)
  exact ⟨h.1.1.2, h.1.2, by omega⟩

theorem unpad_rd {w : World} {a : Option Addr} {p : List UInt8} (h : Rd w a (bs p)) : Rd w (unpA p a) (bs (unpad p)) := by
  unfold unpA unpad
  cases hb : unpOK p with
  | false => exact Rd.nil _ _
  | true =>
    simp only [cond_true]
    by_cases h0 : bek p 4 = 0
    · rw [h0]; exact Rd.nil _ _
    · rw [sa, if_neg (by omega), bs_take, bs_drop]
      exact (h.drop 4).take _
end Go.Proofs.YtnkomkfciojglaaDoor
