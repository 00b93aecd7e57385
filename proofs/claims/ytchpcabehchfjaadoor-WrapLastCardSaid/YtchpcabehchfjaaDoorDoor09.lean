/- The listed variables behind the statements on wraps. -/
import Derived.Test.YtchpcabehchfjaaDoorChaB
import Derived.Test.YtchpcabehchfjaaDoorOpenX
import Derived.Test.YtchpcabehchfjaaDoorCards
import Derived.Test.YtchpcabehchfjaaDoorTie
import Derived.JoinedOf
import Derived.SevenTiedAt
namespace Go.Proofs.YtchpcabehchfjaaDoor
open Go Eng Sha Cha Go.ChangeShapes Go.WideShapes Go.ChangeAt Go.RowKit

theorem own09 : ownKnob Tryd.prog.godebug = none := by kernel_rfl
theorem gStart : Tryd.prog.globalNamed "chartroom/digest.start" = some 0 := by kernel_rfl
theorem tStart : (Tryd.prog.globals[0]?).map (·.type) = some 99 := by kernel_rfl
theorem gNums : Tryd.prog.globalNamed "chartroom/digest.numbers" = some 1 := by kernel_rfl
theorem tNums : (Tryd.prog.globals[1]?).map (·.type) = some 129 := by kernel_rfl
theorem gCons : Tryd.prog.globalNamed "chartroom/cipher.constants" = some 5 := by kernel_rfl
theorem tCons : (Tryd.prog.globals[5]?).map (·.type) = some 141 := by kernel_rfl
abbrev laid09 : List (String × DataW Unit) := [("chartroom/digest.start", Rows.laid_chartroom_digest_start), ("chartroom/digest.numbers", Rows.laid_chartroom_digest_numbers), ("bytes.ErrTooLarge", Rows.laid_bytes_ErrTooLarge), ("chartroom/cipher.constants", Rows.laid_chartroom_cipher_constants)]
theorem eStart : (Rows.laid_chartroom_digest_start : DataW Unit) = .agg (init.l.map fun z => .lit (.int .u32 z.toNat)) := by kernel_rfl
theorem eNums : (Rows.laid_chartroom_digest_numbers : DataW Unit) = .agg (K.map fun z => .lit (.int .u32 z.toNat)) := by kernel_rfl
theorem eCons : (Rows.laid_chartroom_cipher_constants : DataW Unit) = .agg (cst.map fun z => .lit (.int .u32 z.toNat)) := by kernel_rfl

theorem door09 (os : Os) (args : Array Value) : laidMetH Tryd.prog laid09 ((World.doorLaid Tryd.prog 400 os).forCall (fun _ _ => 0) ⟨#[], args, []⟩).memory :=
  laidMetH_of_parts3 (fuel := 8) (laidMet_of_run' 8 (by kernel_rfl) (by kernel_rfl)) (by kernel_rfl) (by kernel_rfl)

theorem lc_of_laid {W : World} (h : laidMetH Tryd.prog laid09 W) : LC W := by
  rw [MakeChecks.laidMetH_plain _ _ _ (by kernel_rfl)] at h
  obtain ⟨ps, ⟨g0, t0, cs0, f0, p0, q0, hg0, ht0, hv0, hd0, ⟨g1, t1, cs1, f1, p1, q1, hg1, ht1, hv1, hd1, ⟨g2, t2, cs2, f2, p2, q2, hg2, ht2, hv2, hd2, ⟨g3, t3, cs3, f3, p3, q3, hg3, ht3, hv3, hd3, _⟩, _⟩, _⟩, _⟩, _⟩ := h
  obtain rfl := Option.some.inj (gStart.symm.trans hg0)
  obtain rfl := Option.some.inj (tStart.symm.trans ht0)
  obtain rfl := Option.some.inj (gNums.symm.trans hg1)
  obtain rfl := Option.some.inj (tNums.symm.trans ht1)
  obtain rfl := Option.some.inj (gCons.symm.trans hg3)
  obtain rfl := Option.some.inj (tCons.symm.trans ht3)
  rw [eStart] at hd0
  rw [eNums] at hd1
  rw [eCons] at hd3
  exact ⟨⟨rd_listedW gStart hv0 Tryd.underlying99 Tryd.underlying94 (by kernel_rfl) hd0, rd_listedW gNums hv1 Tryd.underlying129 Tryd.underlying94 (by kernel_rfl) hd1⟩, rd_listedW gCons hv3 Tryd.underlying141 Tryd.underlying94 (by kernel_rfl) hd3⟩
section
variable {H : Type} {enc : TypeId × Value → H} {P : Program} {W : World} {r : Reach} {b0 t e fuel : Nat} {v : Value} {d : DataW H} {ps : List MemPlace} {cs : List Value} {x : DataW H × List MemPlace}
/-- bytes within a datum -/
theorem td_bytes (ht : P.underlying t = some (.slice e)) (he : P.underlying e = some (.int .u8)) (hc : P.cellsOf e = 1) (hb : P.bytesOf e = 1)
    (h : DataW.trod enc P W 0 (fun _ => true) true fuel t cs = some x) (hw : ∀ n ∈ x.1.weights P t, n ≤ reachBytes) : ∃ a c q, cs = [.slice a (List.length q) c] ∧ Rd W a (bs q) ∧ q.length ≤ c ∧ c ≤ 140737488351232 := by
  obtain ⟨a, L, c, h1, h2, h3, h4, h5⟩ := td_slice ht h
  obtain ⟨q, rfl, _⟩ := map_of (f := fun z : UInt8 => [B z]) (p := fun _ => True) fun y hy => by
    obtain ⟨_, n, z, hz⟩ := h5 y hy
    obtain ⟨b, hb⟩ := td_u8 he hz
    exact ⟨b, hb, trivial⟩
  have ef : ∀ l : List UInt8, (l.map fun z : UInt8 => [B z]).flatten = bs l := fun l => by
    induction l with
    | nil => rfl
    | cons b l ih => rw [List.map_cons, List.flatten_cons, ih]; rfl
  rw [ef] at h2
  rw [List.length_map] at h1 h3
  refine ⟨a, c, q, h1, h2, h3, ?_⟩
  rcases open_ints ht he hc h with ⟨hcs, hx⟩ | ⟨a', len', cap', zs, hcs, _, hl, hm, hz, hx, _, _⟩
  · rw [h1] at hcs
    simp only [List.cons.injEq, Value.slice.injEq, and_true] at hcs
    omega
  · rw [h1] at hcs
    simp only [List.cons.injEq, Value.slice.injEq, and_true] at hcs
    simp only [if_true] at hz
    have := hw ((zs.take len').length + (zs.drop len').length) (by
      rw [hx]
      simp [DataW.weights, ht, hb, lits])
    rw [← List.length_append, List.take_append_drop] at this
    unfold reachBytes at this
    omega
set_option maxRecDepth 100000 in
/-- a wrap -/
theorem op_wrap (hval : Value.okWide Tryd.prog W r b0 24 v) (hd : DataW.Trod enc Tryd.prog W 0 (fun _ => true) true 24 v d ps) (hw : ∀ n ∈ d.weights Tryd.prog 24, n ≤ reachBytes) :
    ∃ (u : Int) (a : Option Addr) (c : Nat) (q : List UInt8), v = .agg #[I u, .slice a (List.length q) c] ∧ Rd W a (bs q) ∧ q.length ≤ c ∧ c ≤ 140737488351232 := by
  have h0 : ∃ cs, v = .agg cs ∧ cs.size = (Tryd.prog).cellsOf 24 := by
    simp only [Value.okWide, Tryd.underlying24] at hval
    obtain ⟨cs, h1, h2, _⟩ := hval
    exact ⟨cs, h1, h2⟩
  obtain ⟨cs, rfl, hsz⟩ := h0
  rw [show (Tryd.prog).cellsOf 24 = 2 by kernel_rfl] at hsz
  obtain ⟨fuel, hf⟩ := hd
  obtain ⟨xs, n, _, hx, hl, hn, hel⟩ := DataW.trod_struct Tryd.underlying24 hf
  have hn' : xs.length = 2 := hn
  have hd1 : d = .agg (xs.map (·.1)) := (Prod.mk.inj hx).1
  have h0 := hel 0 _ rfl
  have h1 := hel 1 _ rfl
  have hx1 : xs[1]? = some (xs[1]'(by omega)) := List.getElem?_eq_getElem (by omega)
  rw [List.getElem?_eq_getElem (by omega)] at h0 h1
  obtain ⟨u, e0, _⟩ := td_int Tryd.underlying3 h0
  obtain ⟨a, c, q, e1, hr, hqc, hcm⟩ := td_bytes Tryd.underlying22 Tryd.underlying5 (by kernel_rfl) (by kernel_rfl) h1 (fun n hn => hw n (by
    rw [hd1]
    unfold DataW.weights
    rw [Tryd.underlying24]
    exact DataW.weights_mem_each (j := 1) (t := 22) (d := (xs[1]'(by omega)).1) rfl (by rw [List.getElem?_map, hx1]; rfl) n hn))
  obtain ⟨L, rfl⟩ : ∃ L : List Value, cs = L.toArray := ⟨cs.toList, by simp⟩
  have e0' : (L.drop 0).take 1 = [I u] := e0
  have e1' : (L.drop 1).take 1 = [.slice a (List.length q) c] := e1
  have hlen : L.length = 2 := hsz
  match L, hlen, e0', e1' with
  | [y, z], _, e0', e1' =>
    simp only [List.drop_zero, List.take_succ_cons, List.take_zero, List.drop_succ_cons, List.cons.injEq, and_true] at e0' e1'
    exact ⟨u, a, c, q, by rw [e0', e1'], hr, hqc, hcm⟩
end
end Go.Proofs.YtchpcabehchfjaaDoor
