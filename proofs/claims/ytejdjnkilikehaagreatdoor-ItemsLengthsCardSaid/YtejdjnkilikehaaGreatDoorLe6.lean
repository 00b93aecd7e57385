/- Joined texts: Door29. -/
import Derived.WalkKit
import Derived.TacticsInMore
import Derived.OrdersIn
import Derived.RangeFuncCalls
import Derived.Deep.LoopGhost
import Derived.Deep.Quiet
import Derived.KernelRfl
import Derived.Laws.BytesString
import Derived.Laws.StructEq
import Derived.MapKept
import Derived.Laws.IdiomStrings
import Derived.Recover
import Derived.RangeFuncLeaves
import Derived.ChangeKeysEq
import Derived.Laws.Build
import Derived.Stop.Asserts
import Derived.Maps.RangeRun
import Derived.ProofKit
import Derived.LaidMore
import Derived.LaidHandle
import Derived.OpenShut
import Derived.FnData
import Derived.SizedLaws
import Derived.ChangeMaps5
import Derived.Deep.Slices
import Derived.JoinedOf
import Derived.SevenTiedAt
import Derived.Test.YtejdjnkilikehaaGreatDoorChecked
import Derived.Test.YtejdjnkilikehaaGreatDoorRows
import Derived.Test.YtejdjnkilikehaaGreatDoorCards
import Derived.Test.YtejdjnkilikehaaGreatDoorTie
import Derived.Test.YtejdjnkilikehaaGreatDoorLe5
set_option linter.all false
section
namespace Go.Proofs.YtejdjnkilikehaaGreatDoor
open Go Eng Sha Cha Itm Go.ChangeShapes Go.WideShapes Go.ChangeAt Go.RowKit
theorem own29 : ownKnob Tryz.prog.godebug = none := by kernel_rfl
theorem gStart : Tryz.prog.globalNamed "chartroom/digest.start" = some 1 := by kernel_rfl
theorem tStart : (Tryz.prog.globals[1]?).map (·.type) = some 186 := by kernel_rfl
theorem gNums : Tryz.prog.globalNamed "chartroom/digest.numbers" = some 2 := by kernel_rfl
theorem tNums : (Tryz.prog.globals[2]?).map (·.type) = some 219 := by kernel_rfl
theorem gLens : Tryz.prog.globalNamed "chartroom/padding.lengths" = some 0 := by kernel_rfl
theorem tLens : (Tryz.prog.globals[0]?).map (·.type) = some 102 := by kernel_rfl
theorem gCons : Tryz.prog.globalNamed "chartroom/cipher.constants" = some 5 := by kernel_rfl
theorem tCons : (Tryz.prog.globals[5]?).map (·.type) = some 227 := by kernel_rfl
abbrev laid29 : List (String × DataW Unit) := [("chartroom/digest.start", Rows.laid_chartroom_digest_start), ("chartroom/digest.numbers", Rows.laid_chartroom_digest_numbers), ("chartroom/padding.lengths", Rows.laid_chartroom_padding_lengths), ("bytes.ErrTooLarge", Rows.laid_bytes_ErrTooLarge), ("chartroom/cipher.constants", Rows.laid_chartroom_cipher_constants)]
theorem eStart : (Rows.laid_chartroom_digest_start : DataW Unit) = .agg (init.l.map fun z => .lit (.int .u32 z.toNat)) := by kernel_rfl
theorem eNums : (Rows.laid_chartroom_digest_numbers : DataW Unit) = .agg (K.map fun z => .lit (.int .u32 z.toNat)) := by kernel_rfl
theorem eCons : (Rows.laid_chartroom_cipher_constants : DataW Unit) = .agg (cst.map fun z => .lit (.int .u32 z.toNat)) := by kernel_rfl
theorem door29 (os : Os) (args : Array Value) : laidMetH Tryz.prog laid29 ((World.doorLaid Tryz.prog 400 os).forCall (fun _ _ => 0) ⟨#[], args, []⟩).memory :=
  laidMetH_of_parts3 (fuel := 8) (laidMet_of_run' 8 (by kernel_rfl) (by kernel_rfl)) (by kernel_rfl) (by kernel_rfl)
theorem lg_of_laid {W : World} (h : laidMetH Tryz.prog laid29 W) : LG W := by
  rw [MakeChecks.laidMetH_plain _ _ _ (by kernel_rfl)] at h
  obtain ⟨ps, ⟨g0, t0, cs0, f0, p0, q0, hg0, ht0, hv0, hd0, ⟨g1, t1, cs1, f1, p1, q1, hg1, ht1, hv1, hd1, ⟨g2, t2, cs2, f2, p2, q2, hg2, ht2, hv2, hd2, ⟨g3, t3, cs3, f3, p3, q3, hg3, ht3, hv3, hd3, ⟨g4, t4, cs4, f4, p4, q4, hg4, ht4, hv4, hd4, _⟩, _⟩, _⟩, _⟩, _⟩, _⟩ := h
  obtain rfl := Option.some.inj (gStart.symm.trans hg0)
  obtain rfl := Option.some.inj (tStart.symm.trans ht0)
  obtain rfl := Option.some.inj (gNums.symm.trans hg1)
  obtain rfl := Option.some.inj (tNums.symm.trans ht1)
  obtain rfl := Option.some.inj (gLens.symm.trans hg2)
  obtain rfl := Option.some.inj (tLens.symm.trans ht2)
  obtain rfl := Option.some.inj (gCons.symm.trans hg4)
  obtain rfl := Option.some.inj (tCons.symm.trans ht4)
  rw [eStart] at hd0
  rw [eNums] at hd1
  rw [eCons] at hd4
  have hs : LS W := ⟨rd_listedW gStart hv0 Tryz.underlying186 Tryz.underlying151 (by kernel_rfl) hd0, rd_listedW gNums hv1 Tryz.underlying219 Tryz.underlying151 (by kernel_rfl) hd1⟩
  exact ⟨hs, rd_listed gLens hv2 Tryz.underlying102 Tryz.underlying3 (by kernel_rfl) (l := lens) hd2, ⟨hs, rd_listedW gCons hv4 Tryz.underlying227 Tryz.underlying151 (by kernel_rfl) hd4⟩⟩
section
variable {H : Type} {enc : TypeId × Value → H} {P : Program} {W : World} {r : Reach} {b0 t e fuel : Nat} {v : Value} {d : DataW H} {ps : List MemPlace} {cs : List Value} {x : DataW H × List MemPlace}
theorem td_bytes (ht : P.underlying t = some (.slice e)) (he : P.underlying e = some (.int .u8)) (hc : P.cellsOf e = 1) (hb : P.bytesOf e = 1)
    (h : DataW.trod enc P W 0 (fun _ => true) true fuel t cs = some x) (hw : ∀ n ∈ x.1.weights P t, n ≤ reachBytes) : ∃ a c q, cs = [.slice a (List.length q) c] ∧ Rd W a (bs q) ∧ q.length ≤ c ∧ c ≤ 140737488351232 := by
  obtain ⟨a, L, c, h1, h2, h3, h4, h5⟩ := td_slice ht h
  obtain ⟨q, rfl, _⟩ := map_of (f := fun z : UInt8 => [B z]) (p := fun _ => True) fun y hy => by
    obtain ⟨_, n, z, hz⟩ := h5 y hy
    obtain ⟨b, hb⟩ := td_u8 he hz
    exact ⟨b, hb, trivial⟩
  have ef : ∀ l : List UInt8, (l.map fun z : UInt8 => [B z]).flatten = bs l := fun l => by
    induction l with
    | nil => rfl
    | cons b l ih => rw [List.map_cons, List.flatten_cons, ih]; rfl
  rw [ef] at h2
  rw [List.length_map] at h1 h3
  refine ⟨a, c, q, h1, h2, h3, ?_⟩
  rcases open_ints ht he hc h with ⟨hcs, hx⟩ | ⟨a', len', cap', zs, hcs, _, hl, hm, hz, hx, _, _⟩
  · rw [h1] at hcs
    simp only [List.cons.injEq, Value.slice.injEq, and_true] at hcs
    omega
  · rw [h1] at hcs
    simp only [List.cons.injEq, Value.slice.injEq, and_true] at hcs
    simp only [if_true] at hz
    have := hw ((zs.take len').length + (zs.drop len').length) (by
      rw [hx]
      simp [DataW.weights, ht, hb, lits])
    rw [← List.length_append, List.take_append_drop] at this
    unfold reachBytes at this
    omega
theorem op_st {fs : Array Field} (ht : P.underlying t = some (.struct fs)) (hval : Value.okWide P W r b0 t v) (hd : DataW.Trod enc P W 0 (fun _ => true) true t v d ps) :
    ∃ (L : List Value) (fuel : Nat), v = .agg L.toArray ∧ DataW.trod enc P W 0 (fun _ => true) true fuel t L = some (d, ps) := by
  have h0 : ∃ cs, v = .agg cs := by
    simp only [Value.okWide, ht] at hval
    obtain ⟨cs, h1, _⟩ := hval
    exact ⟨cs, h1⟩
  obtain ⟨cs, rfl⟩ := h0
  obtain ⟨fuel, hf⟩ := hd
  exact ⟨cs.toList, fuel, by simp, hf⟩
theorem dcut {L s : List Value} {a n : Nat} (b : Nat) (h : (L.drop a).take n = s) (hb : a + n = b) : L.drop a = s ++ L.drop b := by
  rw [← h, ← hb, ← List.drop_drop]; exact (List.take_append_drop n _).symm
set_option maxRecDepth 100000
theorem td_ek (h : DataW.trod enc Tryz.prog W 0 (fun _ => true) true fuel 26 cs = some x) : ∃ cm ks : List UInt8, cs = bs cm ++ bs ks ∧ cm.length = 32 ∧ ks.length = 32 := by
  obtain ⟨xs, n, _, _, hl, hn, hel⟩ := DataW.trod_struct Tryz.underlying26 h
  have hn' : xs.length = 2 := hn
  rw [show (Tryz.prog).cellsOf 26 = 64 by kernel_rfl] at hl
  have h0 := hel 0 _ rfl
  have h1 := hel 1 _ rfl
  rw [List.getElem?_eq_getElem (by omega)] at h0 h1
  obtain ⟨p, e0, hp⟩ := td_key (m := 32) Tryz.underlying23 Tryz.underlying5 (by kernel_rfl) (by kernel_rfl) h0
  obtain ⟨q, e1, hq⟩ := td_key (m := 32) Tryz.underlying24 Tryz.underlying5 (by kernel_rfl) (by kernel_rfl) h1
  have c0 := dcut (L := cs) (s := bs p) (a := 0) (n := 32) 32 e0 rfl
  have c1 := dcut (L := cs) (s := bs q) (a := 32) (n := 32) 64 e1 rfl
  refine ⟨p, q, ?_, hp, hq⟩
  rw [← List.drop_zero (l := cs), c0, c1, List.drop_eq_nil_of_le (show cs.length ≤ 64 by omega), List.append_nil]
theorem td_cap (h : DataW.trod enc Tryz.prog W 0 (fun _ => true) true fuel 32 cs = some x) : ∃ (a b : Int) (p : List UInt8), cs = I a :: I b :: bs p ∧ R64 a ∧ R64 b ∧ p.length = 32 := by
  obtain ⟨xs, n, _, _, hl, hn, hel⟩ := DataW.trod_struct Tryz.underlying32 h
  have hn' : xs.length = 3 := hn
  rw [show (Tryz.prog).cellsOf 32 = 34 by kernel_rfl] at hl
  have h0 := hel 0 _ rfl
  have h1 := hel 1 _ rfl
  have h2 := hel 2 _ rfl
  rw [List.getElem?_eq_getElem (by omega)] at h0 h1 h2
  obtain ⟨a, e0, ha⟩ := td_int Tryz.underlying3 h0
  obtain ⟨b, e1, hb⟩ := td_int Tryz.underlying3 h1
  obtain ⟨p, e2, hp⟩ := td_key (m := 32) Tryz.underlying24 Tryz.underlying5 (by kernel_rfl) (by kernel_rfl) h2
  have c0 := dcut (L := cs) (s := [I a]) (a := 0) (n := 1) 1 e0 rfl
  have c1 := dcut (L := cs) (s := [I b]) (a := 1) (n := 1) 2 e1 rfl
  have c2 := dcut (L := cs) (s := bs p) (a := 2) (n := 32) 34 e2 rfl
  refine ⟨a, b, p, ?_, ha, hb, hp⟩
  rw [← List.drop_zero (l := cs), c0, c1, c2, List.drop_eq_nil_of_le (show cs.length ≤ 34 by omega), List.append_nil]; rfl
theorem td_sig (h : DataW.trod enc Tryz.prog W 0 (fun _ => true) true fuel 34 cs = some x) : ∃ a b : Int, cs = [I a, I b] ∧ R64 a ∧ R64 b := by
  obtain ⟨xs, n, _, _, hl, hn, hel⟩ := DataW.trod_struct Tryz.underlying34 h
  have hn' : xs.length = 2 := hn
  rw [show (Tryz.prog).cellsOf 34 = 2 by kernel_rfl] at hl
  have h0 := hel 0 _ rfl
  have h1 := hel 1 _ rfl
  rw [List.getElem?_eq_getElem (by omega)] at h0 h1
  obtain ⟨a, e0, ha⟩ := td_int Tryz.underlying3 h0
  obtain ⟨b, e1, hb⟩ := td_int Tryz.underlying3 h1
  have c0 := dcut (L := cs) (s := [I a]) (a := 0) (n := 1) 1 e0 rfl
  have c1 := dcut (L := cs) (s := [I b]) (a := 1) (n := 1) 2 e1 rfl
  refine ⟨a, b, ?_, ha, hb⟩
  rw [← List.drop_zero (l := cs), c0, c1, List.drop_eq_nil_of_le (show cs.length ≤ 2 by omega)]; rfl
theorem op_ek (hval : Value.okWide Tryz.prog W r b0 26 v) (hd : DataW.Trod enc Tryz.prog W 0 (fun _ => true) true 26 v d ps) :
    ∃ cm ks : List UInt8, v = .agg (bs cm ++ bs ks).toArray ∧ cm.length = 32 ∧ ks.length = 32 := by
  obtain ⟨L, fuel, rfl, hf⟩ := op_st Tryz.underlying26 hval hd
  obtain ⟨cm, ks, rfl, h1, h2⟩ := td_ek hf
  exact ⟨cm, ks, rfl, h1, h2⟩
theorem op_cap (hval : Value.okWide Tryz.prog W r b0 32 v) (hd : DataW.Trod enc Tryz.prog W 0 (fun _ => true) true 32 v d ps) :
    ∃ (a b : Int) (p : List UInt8), v = .agg (I a :: I b :: bs p).toArray ∧ p.length = 32 ∧ R64 a ∧ R64 b := by
  obtain ⟨L, fuel, rfl, hf⟩ := op_st Tryz.underlying32 hval hd
  obtain ⟨a, b, p, rfl, h1, h2, h3⟩ := td_cap hf
  exact ⟨a, b, p, rfl, h3, h1, h2⟩
theorem op_item (hval : Value.okWide Tryz.prog W r b0 36 v) (hd : DataW.Trod enc Tryz.prog W 0 (fun _ => true) true 36 v d ps) (hw : ∀ n ∈ d.weights Tryz.prog 36, n ≤ reachBytes) :
    ∃ (i : It) (a : Option Addr) (c : Nat), v = itV i (.slice a i.bd.length c) ∧ i.Wf ∧ Rd W a (bs i.bd) ∧ i.bd.length ≤ c ∧ c ≤ 140737488351232 := by
  obtain ⟨L, fuel, rfl, hf⟩ := op_st Tryz.underlying36 hval hd
  obtain ⟨xs, n, _, hx, hl, hn, hel⟩ := DataW.trod_struct Tryz.underlying36 hf
  have hn' : xs.length = 9 := hn
  have hd1 : d = .agg (xs.map (·.1)) := (Prod.mk.inj hx).1
  rw [show (Tryz.prog).cellsOf 36 = 74 by kernel_rfl] at hl
  have h0 := hel 0 _ rfl
  have h1 := hel 1 _ rfl
  have h2 := hel 2 _ rfl
  have h3 := hel 3 _ rfl
  have h4 := hel 4 _ rfl
  have h5 := hel 5 _ rfl
  have h6 := hel 6 _ rfl
  have h7 := hel 7 _ rfl
  have h8 := hel 8 _ rfl
  have hx7 : xs[7]? = some (xs[7]'(by omega)) := List.getElem?_eq_getElem (by omega)
  rw [List.getElem?_eq_getElem (by omega)] at h0 h1 h2 h3 h4 h5 h6 h7 h8
  obtain ⟨fo, e0, r0⟩ := td_int Tryz.underlying3 h0
  obtain ⟨cm, e1, r1⟩ := td_key (m := 32) Tryz.underlying23 Tryz.underlying5 (by kernel_rfl) (by kernel_rfl) h1
  obtain ⟨dv, e2, r2⟩ := td_int Tryz.underlying3 h2
  obtain ⟨ct, e3, r3⟩ := td_int Tryz.underlying3 h3
  obtain ⟨kd, e4, r4⟩ := td_int Tryz.underlying3 h4
  obtain ⟨sz, e5, r5⟩ := td_int Tryz.underlying3 h5
  obtain ⟨cA, cB, pd, e6, rA, rB, rp⟩ := td_cap h6
  obtain ⟨a, c, q, e7, hr, hqc, hcm⟩ := td_bytes Tryz.underlying27 Tryz.underlying5 (by kernel_rfl) (by kernel_rfl) h7 (fun n hn => hw n (by
    rw [hd1]
    unfold DataW.weights
    rw [Tryz.underlying36]
    exact DataW.weights_mem_each (j := 7) (t := 27) (d := (xs[7]'(by omega)).1) rfl (by rw [List.getElem?_map, hx7]; rfl) n hn))
  obtain ⟨sR, sS, e8, rR, rS⟩ := td_sig h8
  have c0 := dcut (L := L) (s := [I fo]) (a := 0) (n := 1) 1 e0 rfl
  have c1 := dcut (L := L) (s := bs cm) (a := 1) (n := 32) 33 e1 rfl
  have c2 := dcut (L := L) (s := [I dv]) (a := 33) (n := 1) 34 e2 rfl
  have c3 := dcut (L := L) (s := [I ct]) (a := 34) (n := 1) 35 e3 rfl
  have c4 := dcut (L := L) (s := [I kd]) (a := 35) (n := 1) 36 e4 rfl
  have c5 := dcut (L := L) (s := [I sz]) (a := 36) (n := 1) 37 e5 rfl
  have c6 := dcut (L := L) (s := I cA :: I cB :: bs pd) (a := 37) (n := 34) 71 e6 rfl
  have c7 := dcut (L := L) (s := [.slice a (List.length q) c]) (a := 71) (n := 1) 72 e7 rfl
  have c8 := dcut (L := L) (s := [I sR, I sS]) (a := 72) (n := 2) 74 e8 rfl
  have hL : L = itC ⟨fo, cm, dv, ct, kd, sz, cA, cB, pd, q, sR, sS⟩ (.slice a q.length c) := by
    rw [← List.drop_zero (l := L), c0, c1, c2, c3, c4, c5, c6, c7, c8, List.drop_eq_nil_of_le (show L.length ≤ 74 by omega)]
    unfold itC tl1 tl2
    simp
  exact ⟨⟨fo, cm, dv, ct, kd, sz, cA, cB, pd, q, sR, sS⟩, a, c, by rw [hL], ⟨r0, r1, r2, r3, r4, r5, rA, rB, rp, rR, rS⟩, hr, hqc, hcm⟩
theorem op_in (hval : Value.okWide Tryz.prog W r b0 29 v) (hd : DataW.Trod enc Tryz.prog W 0 (fun _ => true) true 29 v d ps) (hw : ∀ n ∈ d.weights Tryz.prog 29, n ≤ reachBytes) :
    ∃ (f d c k x : Int) (cm ks q s : List UInt8) (pa : Option Addr) (pc : Nat), v = InV f cm ks d c k x pa pc q s ∧ R64 f ∧ R64 d ∧ R64 c ∧ R64 k ∧ cm.length = 32 ∧ ks.length = 32 ∧ s.length = 32 ∧ Rd W pa (bs q) ∧ q.length < 9223372036854775807 := by
  obtain ⟨L, fuel, rfl, hf⟩ := op_st Tryz.underlying29 hval hd
  obtain ⟨xs, n, _, hx, hl, hn, hel⟩ := DataW.trod_struct Tryz.underlying29 hf
  have hn' : xs.length = 8 := hn
  have hd1 : d = .agg (xs.map (·.1)) := (Prod.mk.inj hx).1
  rw [show (Tryz.prog).cellsOf 29 = 102 by kernel_rfl] at hl
  have h0 := hel 0 _ rfl
  have h1 := hel 1 _ rfl
  have h2 := hel 2 _ rfl
  have h3 := hel 3 _ rfl
  have h4 := hel 4 _ rfl
  have h5 := hel 5 _ rfl
  have h6 := hel 6 _ rfl
  have h7 := hel 7 _ rfl
  have hx6 : xs[6]? = some (xs[6]'(by omega)) := List.getElem?_eq_getElem (by omega)
  rw [List.getElem?_eq_getElem (by omega)] at h0 h1 h2 h3 h4 h5 h6 h7
  obtain ⟨f, e0, r0⟩ := td_int Tryz.underlying3 h0
  obtain ⟨cm, ks, e1, rc, rk⟩ := td_ek h1
  obtain ⟨dv, e2, r2⟩ := td_int Tryz.underlying3 h2
  obtain ⟨ct, e3, r3⟩ := td_int Tryz.underlying3 h3
  obtain ⟨kd, e4, r4⟩ := td_int Tryz.underlying3 h4
  obtain ⟨pv, e5, _⟩ := td_int Tryz.underlying3 h5
  obtain ⟨a, c, q, e6, hr, hqc, hcm⟩ := td_bytes Tryz.underlying27 Tryz.underlying5 (by kernel_rfl) (by kernel_rfl) h6 (fun n hn => hw n (by
    rw [hd1]
    unfold DataW.weights
    rw [Tryz.underlying29]
    exact DataW.weights_mem_each (j := 6) (t := 27) (d := (xs[6]'(by omega)).1) rfl (by rw [List.getElem?_map, hx6]; rfl) n hn))
  obtain ⟨s, e7, r7⟩ := td_key (m := 32) Tryz.underlying24 Tryz.underlying5 (by kernel_rfl) (by kernel_rfl) h7
  have c0 := dcut (L := L) (s := [I f]) (a := 0) (n := 1) 1 e0 rfl
  have c1 := dcut (L := L) (s := bs cm ++ bs ks) (a := 1) (n := 64) 65 e1 rfl
  have c2 := dcut (L := L) (s := [I dv]) (a := 65) (n := 1) 66 e2 rfl
  have c3 := dcut (L := L) (s := [I ct]) (a := 66) (n := 1) 67 e3 rfl
  have c4 := dcut (L := L) (s := [I kd]) (a := 67) (n := 1) 68 e4 rfl
  have c5 := dcut (L := L) (s := [I pv]) (a := 68) (n := 1) 69 e5 rfl
  have c6 := dcut (L := L) (s := [.slice a (List.length q) c]) (a := 69) (n := 1) 70 e6 rfl
  have c7 := dcut (L := L) (s := bs s) (a := 70) (n := 32) 102 e7 rfl
  have hL : L = inC f cm ks dv ct kd pv (.slice a q.length c) s := by
    rw [← List.drop_zero (l := L), c0, c1, c2, c3, c4, c5, c6, c7, List.drop_eq_nil_of_le (show L.length ≤ 102 by omega)]
    unfold inC inT
    rw [bs_append]
    simp
  exact ⟨f, dv, ct, kd, pv, cm, ks, q, s, a, c, by rw [hL], r0, r2, r3, r4, rc, rk, r7, hr, by omega⟩
end
end Go.Proofs.YtejdjnkilikehaaGreatDoor
end
