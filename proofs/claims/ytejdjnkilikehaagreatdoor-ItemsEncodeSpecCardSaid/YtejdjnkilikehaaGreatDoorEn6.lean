/- Joined texts: ItF Ref28 ItG ItH ItI ItJ Law29 LawB29 LawC29 LawD29 LawE29 LawF29 LawG29 LawH29 LawI29 OpenX Door29. -/
import Derived.WalkKit
import Derived.TacticsInMore
import Derived.OrdersIn
import Derived.RangeFuncCalls
import Derived.Deep.LoopGhost
import Derived.Deep.Quiet
import Derived.KernelRfl
import Derived.Laws.BytesString
import Derived.Laws.StructEq
import Derived.MapKept
import Derived.Laws.IdiomStrings
import Derived.Recover
import Derived.RangeFuncLeaves
import Derived.ChangeKeysEq
import Derived.Laws.Build
import Derived.Stop.Asserts
import Derived.Maps.RangeRun
import Derived.ProofKit
import Derived.LaidMore
import Derived.LaidHandle
import Derived.OpenShut
import Derived.FnData
import Derived.SizedLaws
import Derived.ChangeMaps5
import Derived.Deep.Slices
import Derived.JoinedOf
import Derived.SevenTiedAt
import Derived.Test.YtejdjnkilikehaaGreatDoorChecked
import Derived.Test.YtejdjnkilikehaaGreatDoorRows
import Derived.Test.YtejdjnkilikehaaGreatDoorCards
import Derived.Test.YtejdjnkilikehaaGreatDoorTie
import Derived.Test.YtejdjnkilikehaaGreatDoorEn5
set_option linter.all false
section
namespace Eng
open Go Go.RowKit
section
variable {r : Option Nat} {P : Program} {n : Nat} {D : List Deferred} {W : World} {Bo : List Nat} {F : List (Nat × Value)} {l l' : SH}
  {d : Option Tmp} {dd : Nat} {ty : TypeId} {ps : String} {af : Array Edge} {g : Option (Nat × Bool)} {x y z : Operand} {v u : Value} {ta tb t e : TypeId}
  {Q : Exit → Act → World → Prop} {ops : Array Oper} {rest : List Oper} {td : TypeDesc} {c : Code}
theorem s_ins {kt et : TypeId} [hm : HU P t (.map kt et)] [hk : HU P kt (.int .i64)] {m : Nat} {kv : List (Int × Value)} {k : Int}
    (h : LP r P n D W Bo ops Q rest F l')
    (hx : evO F x = some (.map (some m)) := by rfl) (hy : evO F y = some (I k) := by rfl) (hz : evO F z = some v := by rfl)
    (hr : Rep (mblk m kv) (mblk m (kv ++ [(k, v)])) l l' := by repeat (first | exact .head _ | apply Rep.tail))
    (hne : ∀ p ∈ kv, p.1 ≠ k := by decide) (hg : Wn ops F g := by first | exact .none | exact .some rfl rfl) :
    LP r P n D W Bo ops Q (⟨none, .insert t x y z, ty, ps, af, g⟩ :: rest) F l := by
  refine s_unit (by simp) (fun ac w ha hw => ?_) (hg := hg) (h := h)
  have hb : w.heap[m]? = some (.map (mes kv) kv.length) := (hw.own _ hr.mem).1
  have hmem : ∀ x ∈ (mes kv).toList, MapKept.IsKey (.int .i64) x.key := fun x hx => by
    obtain ⟨j, k', v', _, rfl⟩ := mesF_mem (show x ∈ mesF 0 kv by simpa [mes] using hx)
    rfl
  have hf : Instr.findNow (.int .i64) (I k) (mes kv).toList 0 = some none := by
    rcases MapKept.findNow_spec (d := .int .i64) (k := I k) rfl (mes kv).toList 0 hmem with ⟨h1, _⟩ | ⟨j, e0, _, h2, h3⟩
    · exact h1
    · exfalso
      obtain ⟨j', k', v', h4, rfl⟩ := mesF_mem (show e0 ∈ mesF 0 kv by simpa [mes] using List.mem_of_getElem? h2)
      have h5 : k' = k := by simpa [I] using h3
      exact hne _ (List.mem_of_getElem? h4) h5
  refine ⟨{ w with heap := w.heap.setIfInBounds m (.map ((mes kv).push { key := I k, val := v, born := kv.length }) (kv.length + 1)) }, ?_, ?_⟩
  · have hc := MapKept.run_checkKey (w := w) (k := I k) hk.h (show MapKept.IsKey (.int .i64) (I k) from rfl) false 9999
    have hff := MapKept.run_findKey (w := w) hk.h hf
    simp only [execOp, ha.eval hx, ha.eval hy, ha.eval hz, Instr.mapUpdate, Sem.run_bind, run_underlying hm.h, Result.andThen_ok, MapKept.run_getObj_map hb, hc, hff, MapKept.run_setObj_map _ hb, Sem.run_pure]
  · have hs := MapKept.heap_set (o' := .map ((mes kv).push { key := I k, val := v, born := kv.length }) (kv.length + 1)) hb
    refine hw.change hr rfl rfl rfl (by simp) (fun j _ hj => hs.2 j (fun e => hj (by rw [e]; rfl))) ?_ (fun j hj => .inl hj)
    show (w.heap.setIfInBounds m _)[m]? = some (.map (mes (kv ++ [(k, v)])) (kv ++ [(k, v)]).length)
    rw [hs.1, mes_push, List.length_append]; rfl
theorem y_ldc [hu : HT P t true] {a : Addr} (hc : ∀ w, St W Bo w l → w.cell? a = some v) (hx : evO F x = some (.pointer (some a)) := by rfl) : Y P n D W Bo ⟨d, .load t x, ty, ps, af, g⟩ F l v :=
  y_ld0 hx fun w hw => ld_flat hu (hc w hw)
theorem y_ixz [hu : HU P t (.slice e)] {s by' : Nat} [hs : HS P e s by'] {a : Option Addr} {m c : Nat} {k : IntKind} {i : Int} (he : a = some (ad a 0))
    (hx : evO F x = some (.slice a m c) := by rfl) (hy : evO F y = some (.int k i) := by rfl) (h0 : 0 ≤ i := by omega) (h1 : i < m := by omega) :
    Y P n D W Bo ⟨d, .indexAddr t x y, ty, ps, af, g⟩ F l (.pointer (some (ad a (i.toNat * s)))) :=
  .mk (by simp) fun ac w ha hw => by
    have : (Instr.indexAt t (.slice a m c) (.int k i)).run P w = .ok (.pointer (some (ad a (i.toNat * s)))) w := by
      rw [he, run_indexAt_slice hu.h hs h0 h1, ad_add, ← he, Nat.zero_add]
    simp only [execOp, ha.eval hx, ha.eval hy, Sem.run_bind, this]; rfl
end
end Eng
namespace Cod
open Go Eng
theorem Vs.cell {rs : SH} {v : V} {a : Option Addr} {c : Nat} (h : Vs rs v (vval v a c)) {i : Nat} (hi : i < v.l.length) {w : World} (hw : ∀ p ∈ rs, p.holds w) :
    a = some (ad a 0) ∧ w.cell? (ad a (i * 4 + 1)) = some (I v.l[i].n) ∧ w.cell? (ad a (i * 4 + 2)) = some (.string (sb v.l[i].s)) ∧ R64 v.l[i].n := by
  have h1 := h w hw
  obtain ⟨k, n, s, l⟩ := v
  rw [Vv] at h1
  obtain ⟨a', c', cells, e1, _, _, hr, hl, he⟩ := h1
  have e2 : a' = a := by
    simp only [vval, Value.agg.injEq] at e1
    have := congrArg (fun x : Array Value => x[3]?) e1
    simp at this
    exact this.1.symm
  subst e2
  have h2 := he ⟨i, hi⟩
  rw [show (V.mk k n s l).l[i] = l[i] from rfl]
  generalize hgen : l[i] = y at h2 ⊢
  obtain ⟨k3, n3, s3, l3⟩ := y
  rw [Vv] at h2
  obtain ⟨a3, c3, cells3, e3, hn3, _⟩ := h2
  have e4 : (cells.drop (i * 4)).take 4 = [I k3, I n3, .string (sb s3), .slice a3 l3.length c3] := by
    have := congrArg (fun x : Value => match x with | .agg y => y.toList | _ => []) e3
    simpa using this
  have g : ∀ j, j < 4 → cells[i * 4 + j]? = [I k3, I n3, Value.string (sb s3), .slice a3 l3.length c3][j]? := fun j hj => by
    rw [← e4, List.getElem?_take_of_lt hj, List.getElem?_drop]
  have g1 := hr.cell (g 1 (by decide))
  have g2 := hr.cell (g 2 (by decide))
  exact ⟨g1.1, g1.2, g2.2, hn3⟩
end Cod
namespace Itm
open Go Eng Cod Gf Sha Cha Sig Wr Go.Proofs.YtejdjnkilikehaaGreatDoor
def dig (s : List UInt8) : List UInt8 := s.take 32 ++ List.replicate (32 - s.length) 0
theorem dig_length (s : List UInt8) : (dig s).length = 32 := by unfold dig; rw [List.length_append, List.length_take, List.length_replicate]; omega
abbrev nn (l : List V) (k : Nat) : Int := (l.getD k (.mk 0 0 [] [])).n
abbrev ss (l : List V) (k : Nat) : List UInt8 := (l.getD k (.mk 0 0 [] [])).s
def dcI (l : List V) : It := ⟨nn l 0, dig (ss l 5), nn l 1, nn l 2, nn l 3, nn l 4, nn l 6, nn l 7, dig (ss l 8), ss l 9, nn l 10, nn l 11⟩
noncomputable def dcV (v : V) (q : List UInt8) : It × Int := if v.l.length = 12 ∧ (dcI v.l).vld = true ∧ (dcI v.l).all = q then (dcI v.l, 0) else (it0, 290)
noncomputable def dcd (q : List UInt8) : It × Int := match rdVal 16 q with
  | some (v, []) => dcV v q
  | _ => (it0, 10)
def pI (s : List Nat) (l : List V) : It := ⟨if 0 ∈ s then nn l 0 else 0, List.replicate 32 0, if 1 ∈ s then nn l 1 else 0, if 2 ∈ s then nn l 2 else 0, if 3 ∈ s then nn l 3 else 0, if 4 ∈ s then nn l 4 else 0, if 5 ∈ s then nn l 6 else 0, if 6 ∈ s then nn l 7 else 0, List.replicate 32 0, [], if 7 ∈ s then nn l 10 else 0, if 8 ∈ s then nn l 11 else 0⟩
theorem pI_all {s : List Nat} (l : List V) (h : ∀ i, i < 9 → i ∈ s) : pI s l = ⟨nn l 0, List.replicate 32 0, nn l 1, nn l 2, nn l 3, nn l 4, nn l 6, nn l 7, List.replicate 32 0, [], nn l 10, nn l 11⟩ := by
  unfold pI
  simp [h 0 (by decide), h 1 (by decide), h 2 (by decide), h 3 (by decide), h 4 (by decide), h 5 (by decide), h 6 (by decide), h 7 (by decide), h 8 (by decide)]
end Itm
namespace Go.Proofs.YtejdjnkilikehaaGreatDoor
open Go Eng Gf Sha Sig Wr Cod Cha Itm
set_option maxRecDepth 100000
/-- an item, and where its body lies -/
structure IX where
  a : Option Addr
  c : Nat
  r : Res
def IX.ok (x : IX) (i : It) : Prop := ∀ w, x.r.holds w → Rd w x.a (bs i.bd) ∧ i.bd.length ≤ x.c
abbrev GivesI (k : FuncId) (args : List Value) (w : World) (i : It) (e : Int) : Prop :=
  Gives Tryz.prog k args w [] (fun x : IX => .tuple #[itV i (.slice x.a i.bd.length x.c), I e]) (fun x => [x.r]) (fun x => x.ok i)
def IX.nil : IX := ⟨none, 0, OX.nil.row⟩
theorem IX.nil_ok {i : It} (h : i.bd = []) : IX.nil.ok i := fun w _ => by rw [h]; exact ⟨Rd.nil _ _, Nat.le_refl _⟩
abbrev rI (b : Nat) (i : It) (s : Value) : Res := .blk b (.cells (itC i s).toArray 36 (0, 0))
abbrev rVl (b : Nat) (v : V) (a : Option Addr) (c : Nat) : Res := .blk b (.cells #[I v.k, I v.n, .string (sb v.s), .slice a v.l.length c] 76 (0, 0))
theorem Decode_n1 (w : World) (a : Option Addr) (c : Nat) (q : List UInt8) (hr : Rd w a (bs q)) (hc : q.length ≤ c) (hm : c ≤ 9223372036854775807) (hq : q.length ≤ 70000) (h : ∀ v, rdVal 16 q ≠ some (v, [])) :
    GivesI 27 [.slice a q.length c] w it0 10 := by
  refine enter Tryz.func27 Tryz.ntmps27 ?_
  refine c_seq <| c_reg <| s_allocC (cs := (itC it0 (.slice none 0 0)).toArray) (by kernel_rfl) fun b2 => s_y y_as <| s_nil <| q_then <| c_seq <| c_reg <| s_y y_mv <| s_pure (fun w' hw => Decode_no w' a c q (hr.st hw) hc hm (by omega) h) <| s_y y_mv <| s_y y_ext <| s_y y_ext <| s_alloc fun b4 => s_sta (b := b4) (vs := #[I 0, I 0, .string (sb []), .slice none 0 0]) (cs := #[I 0, I 0, .string (sb []), .slice none 0 0]) (h1 := by intro u hu; simp at hu; rcases hu with rfl | rfl | rfl | rfl <;> rfl) (hl := rfl) (hs1 := rfl) ?_
  refine s_y y_as <| s_nil <| q_then <| c_seq <| c_seq <| c_reg <| s_y y_mv <| s_nt (y_neq (p := 10) (q := 0)) (by decide) <| s_nil <| q_then <| c_t <| c_seq <| c_reg <| s_y (y_lda (b := b2) (cs := (itC it0 (.slice none 0 0)).toArray) (hl := it_size rfl rfl)) <| s_y y_mv <| s_sta (b := b2) (vs := (itC it0 (.slice none 0 0)).toArray) (cs := (itC it0 (.slice none 0 0)).toArray) (h1 := it_one) (hl := rfl) (hs1 := it_size rfl rfl) ?_
  refine s_y y_as <| s_nil <| q_then <| c_ret <| q_ret <| ?_
  exact ret2 Tryz.results27 (rv_ca (b := b2) (cs := (itC it0 (.slice none 0 0)).toArray) (hl := it_size rfl rfl)) rv_t fun w' hw => ⟨IX.nil, IX.nil_ok rfl, rfl, St.nilO hw⟩
theorem Decode_n2 (w : World) (a : Option Addr) (c : Nat) (q : List UInt8) (v : V) (hr : Rd w a (bs q)) (hc : q.length ≤ c) (hm : c ≤ 9223372036854775807) (hq : q.length ≤ 70000) (h : rdVal 16 q = some (v, [])) (hl : v.l.length ≠ 12) :
    GivesI 27 [.slice a q.length c] w it0 290 := by
  refine enter Tryz.func27 Tryz.ntmps27 ?_
  refine c_seq <| c_reg <| s_allocC (cs := (itC it0 (.slice none 0 0)).toArray) (by kernel_rfl) fun b2 => s_y y_as <| s_nil <| q_then <| c_seq <| c_reg <| s_y y_mv <| s_gives (fun w' hw => Decode_ok w' a c q v (hr.st hw) hc hm (by omega) h) fun z hz => s_perm List.perm_append_comm ?_
  obtain ⟨va, vc, rs⟩ := z
  simp only at hz
  refine s_y y_mv <| s_y y_ext <| s_y y_ext <| s_alloc fun b4 => s_sta (b := b4) (vs := #[I v.k, I v.n, .string (sb v.s), .slice va v.l.length vc]) (cs := #[I 0, I 0, .string (sb []), .slice none 0 0]) (h1 := by intro u hu; simp at hu; rcases hu with rfl | rfl | rfl | rfl <;> rfl) (hl := rfl) (hs1 := rfl) ?_
  refine s_y y_as <| s_nil <| q_then <| c_seq <| c_seq <| c_reg <| s_y y_mv <| s_nf (y_neq (p := 0) (q := 0)) rfl <| s_nil <| q_then <| c_f <| c_skip <| q_then <| c_seq <| c_seq <| c_reg <| s_y y_fa <| s_y (y_ld (b := b4) (v := .slice va v.l.length vc)) <| s_y y_len <| s_nt (y_neq (p := ((v.l.length : Nat) : Int)) (q := 12)) (by omega) <| s_nil <| q_then <| c_t <| c_seq <| c_reg <| s_y (y_lda (b := b2) (cs := (itC it0 (.slice none 0 0)).toArray) (hl := it_size rfl rfl)) <| s_sta (b := b2) (vs := (itC it0 (.slice none 0 0)).toArray) (cs := (itC it0 (.slice none 0 0)).toArray) (h1 := it_one) (hl := rfl) (hs1 := it_size rfl rfl) ?_
  refine s_y y_as <| s_nil <| q_then <| c_ret <| q_ret <| ?_
  exact ret2 Tryz.results27 (rv_ca (b := b2) (cs := (itC it0 (.slice none 0 0)).toArray) (hl := it_size rfl rfl)) rv_t fun w' hw => ⟨IX.nil, IX.nil_ok rfl, rfl, St.nilO hw⟩
theorem s_wd {r : Option Nat} {P : Program} {n : Nat} {D : List Deferred} {W : World} {Bo : List Nat} {F : List (Nat × Value)} {l : SH} {ops : Array Oper} {rest : List Oper} {Q : Exit → Act → World → Prop}
    (h : ∀ w0, St W Bo w0 l → LP r P n D W Bo ops Q rest F l) : LP r P n D W Bo ops Q rest F l := fun a w ha hw => h w hw a w ha hw
theorem s_cpyI {r : Option Nat} {P : Program} {n : Nat} {D : List Deferred} {W : World} {Bo : List Nat} {F : List (Nat × Value)} {l l' : SH} {ops : Array Oper} {rest : List Oper} {Q : Exit → Act → World → Prop} {dd : Nat} {ty ta tb e et : TypeId} {ps : String} {af : Array Edge} {g : Option (Nat × Bool)} {x y : Operand}
    [ht : HU P ta (.slice e)] {by' : Nat} [hs : HS P e 1 by'] {b off : Nat} {cs cs' : List Value} (q : List UInt8) (hcs : cs.take off ++ bs (q.take 32) ++ cs.drop (off + (q.take 32).length) = cs') (hfit : off + 32 ≤ cs.length)
    (hrep : Rep (.blk b (.cells cs.toArray et (0, 0))) (.blk b (.cells cs'.toArray et (0, 0))) l l')
    (h : LP r P n D W Bo ops Q rest ((dd, I (Nat.min q.length 32 : Nat)) :: F) l')
    (hx : evO F x = some (.slice (some ⟨b, off, none⟩) 32 32) := by rfl) (hy : evO F y = some (.string (sb q)) := by rfl) (hn : Nat.blt dd n = true := by rfl) (hg : Wn ops F g := by first | exact .none | exact .some rfl rfl) :
    LP r P n D W Bo ops Q (⟨some dd, .call ⟨.builtin .copy, #[x, y], #[ta, tb]⟩, ty, ps, af, g⟩ :: rest) F l := by
  have e1 : (bs (q.take 32)).length = (q.take 32).length := bs_length _
  refine s_cpy (q := q.length) (ys := bs (q.take 32)) (cs := cs.toArray) hx hy (fun w _ => by simp [Builtin.lenOf, sb_size]) (fun w _ => ?_) (by rw [List.toList_toArray, e1, hcs]; exact hrep) (fun v hv => bs_one hv) ?_ h hn hg
  · simp only [Builtin.firstCells, Sem.run_pure]
    congr 1
    apply Array.ext'
    simp only [Array.toList_map, ByteArray.data_extract, Array.toList_extract, List.extract_eq_take_drop, Nat.mul_one]
    rw [List.drop_zero]
    simp only [sb, bs, List.map_take]
    rw [show Nat.min q.length 32 - 0 = min q.length 32 from rfl]
    simp [List.take_eq_take_iff]
    exact Nat.min_comm _ _
  · rw [e1, List.length_take]; show _ ≤ cs.length; omega
theorem bs_rep (m k : Nat) : (bs (List.replicate m 0)).drop k = bs (List.replicate (m - k) 0) := by unfold bs; rw [← List.map_drop, List.drop_replicate]
theorem put_dcm {i : It} {s : Value} (hc : i.cm = List.replicate 32 0) (q : List UInt8) : (itC i s).take 1 ++ bs (q.take 32) ++ (itC i s).drop (1 + (q.take 32).length) = itC { i with cm := dig q } s := by
  have hl : (q.take 32).length = min 32 q.length := List.length_take
  unfold itC
  rw [cons_take, List.take_zero, Nat.add_comm 1, cons_drop, hc, List.drop_append_of_le_length (by rw [bs_length, List.length_replicate, hl]; omega), bs_rep, hl, show 32 - min 32 q.length = 32 - q.length by omega]
  show I i.fo :: (bs (q.take 32) ++ (bs (List.replicate (32 - q.length) 0) ++ tl1 i s)) = I i.fo :: (bs (dig q) ++ tl1 i s)
  rw [← List.append_assoc, ← bs_append]; rfl
theorem put_dpd {i : It} {s : Value} (hcm : i.cm.length = 32) (hc : i.pd = List.replicate 32 0) (q : List UInt8) : (itC i s).take 39 ++ bs (q.take 32) ++ (itC i s).drop (39 + (q.take 32).length) = itC { i with pd := dig q } s := by
  have hl : (q.take 32).length = min 32 q.length := List.length_take
  have e0 : itC i s = (I i.fo :: (bs i.cm ++ [I i.dv, I i.ct, I i.kd, I i.sz, I i.cA, I i.cB])) ++ (bs i.pd ++ tl2 i s) := by unfold itC tl1; simp
  have e1 : (I i.fo :: (bs i.cm ++ [I i.dv, I i.ct, I i.kd, I i.sz, I i.cA, I i.cB])).length = 39 := by simp [bs_length, hcm]
  rw [e0, List.take_left' e1, ← List.drop_drop, List.drop_left' e1, hc, List.drop_append_of_le_length (by rw [bs_length, List.length_replicate, hl]; omega), bs_rep, hl, show 32 - min 32 q.length = 32 - q.length by omega]
  have e2 : itC { i with pd := dig q } s = (I i.fo :: (bs i.cm ++ [I i.dv, I i.ct, I i.kd, I i.sz, I i.cA, I i.cB])) ++ (bs (dig q) ++ tl2 i s) := by unfold itC tl1; simp [tl2]
  rw [e2, List.append_assoc, ← List.append_assoc (bs (q.take 32)), ← bs_append]; rfl
abbrev pI0 (l : List V) : It := ⟨nn l 0, List.replicate 32 0, nn l 1, nn l 2, nn l 3, nn l 4, nn l 6, nn l 7, List.replicate 32 0, [], nn l 10, nn l 11⟩
abbrev pI1 (l : List V) : It := ⟨nn l 0, dig (ss l 5), nn l 1, nn l 2, nn l 3, nn l 4, nn l 6, nn l 7, List.replicate 32 0, [], nn l 10, nn l 11⟩
abbrev pI2 (l : List V) : It := ⟨nn l 0, dig (ss l 5), nn l 1, nn l 2, nn l 3, nn l 4, nn l 6, nn l 7, dig (ss l 8), [], nn l 10, nn l 11⟩
abbrev kvI (b : Nat) : List (Int × Value) := [(0, .pointer (some ⟨b, 0, none⟩)), (1, .pointer (some ⟨b, 33, none⟩)), (2, .pointer (some ⟨b, 34, none⟩)), (3, .pointer (some ⟨b, 35, none⟩)), (4, .pointer (some ⟨b, 36, none⟩)), (6, .pointer (some ⟨b, 37, none⟩)), (7, .pointer (some ⟨b, 38, none⟩)), (10, .pointer (some ⟨b, 72, none⟩)), (11, .pointer (some ⟨b, 73, none⟩))]
theorem pI_s0 (s : List Nat) (l : List V) : { pI s l with fo := nn l 0 } = pI (s ++ [0]) l := by unfold pI; simp
theorem pI_s1 (s : List Nat) (l : List V) : { pI s l with dv := nn l 1 } = pI (s ++ [1]) l := by unfold pI; simp
theorem pI_s2 (s : List Nat) (l : List V) : { pI s l with ct := nn l 2 } = pI (s ++ [2]) l := by unfold pI; simp
theorem pI_s3 (s : List Nat) (l : List V) : { pI s l with kd := nn l 3 } = pI (s ++ [3]) l := by unfold pI; simp
theorem pI_s4 (s : List Nat) (l : List V) : { pI s l with sz := nn l 4 } = pI (s ++ [4]) l := by unfold pI; simp
theorem pI_s5 (s : List Nat) (l : List V) : { pI s l with cA := nn l 6 } = pI (s ++ [5]) l := by unfold pI; simp
theorem pI_s6 (s : List Nat) (l : List V) : { pI s l with cB := nn l 7 } = pI (s ++ [6]) l := by unfold pI; simp
theorem pI_s7 (s : List Nat) (l : List V) : { pI s l with sR := nn l 10 } = pI (s ++ [7]) l := by unfold pI; simp
theorem pI_s8 (s : List Nat) (l : List V) : { pI s l with sS := nn l 11 } = pI (s ++ [8]) l := by unfold pI; simp
theorem dcI_wf {w : World} {rs : SH} {v : V} {a : Option Addr} {c : Nat} (h : Vs rs v (vval v a c)) (hw : ∀ p ∈ rs, p.holds w) (hl : v.l.length = 12) : (dcI v.l).Wf := by
  have key : ∀ k, k < 12 → R64 (nn v.l k) := fun k hk => by
    have h1 := (h.cell (i := k) (by omega) hw).2.2.2
    rw [show nn v.l k = v.l[k].n by unfold nn; rw [List.getD_eq_getElem?_getD, List.getElem?_eq_getElem (by omega)]; rfl]
    exact h1
  exact ⟨key 0 (by decide), dig_length _, key 1 (by decide), key 2 (by decide), key 3 (by decide), key 4 (by decide), key 6 (by decide), key 7 (by decide), dig_length _, key 10 (by decide), key 11 (by decide)⟩
theorem enc_s {l : List V} {k : Nat} (hk : k < l.length) : (l[k]).s.length ≤ (encL l).length ∨ (l[k]).k ≠ 2 := by
  by_cases h : (l[k]).k = 2
  · refine .inl (Nat.le_trans ?_ (encL_ge l k hk |> Nat.le_trans (Nat.le_add_left _ _)))
    generalize l[k] = y at h
    obtain ⟨k', n, s, l'⟩ := y
    have h : k' = 2 := h
    subst h
    rw [V.enc, if_neg (by decide), if_pos rfl]
    simp only [V.s, List.length_cons, List.length_append]; omega
  · exact .inr h
theorem ok_s {v : V} (h : v.ok = true) (hk : v.k ≠ 2) : v.s = [] := by
  obtain ⟨k, n, s, l⟩ := v
  rw [V.ok] at h
  simp only [Bool.or_eq_true, Bool.and_eq_true, beq_iff_eq] at h
  rcases h with (⟨_, h, _⟩ | ⟨h, _⟩) | ⟨⟨_, _, h⟩, _⟩
  · exact h
  · exact absurd h hk
  · exact h
theorem rd_body {v : V} {q : List UInt8} (h : rdVal 16 q = some (v, [])) (k : Nat) : (ss v.l k).length ≤ q.length := by
  obtain ⟨e1, e2, _⟩ := rdVal_inv' 16 q v [] h
  rw [List.append_nil] at e1
  unfold ss
  rw [List.getD_eq_getElem?_getD]
  rcases Nat.lt_or_ge k v.l.length with hk | hk
  · rw [List.getElem?_eq_getElem hk]
    show (v.l[k]).s.length ≤ _
    have hok : okL v.l = true := by
      obtain ⟨k', n, s, l⟩ := v
      rw [V.ok] at e2
      simp only [Bool.or_eq_true, Bool.and_eq_true, beq_iff_eq] at e2
      rcases e2 with (⟨_, _, h⟩ | ⟨_, _, h⟩) | ⟨_, h⟩
      · exact absurd hk (by show ¬ k < l.length; omega)
      · exact absurd hk (by show ¬ k < l.length; omega)
      · exact h
    rcases enc_s hk with h1 | h1
    · refine Nat.le_trans h1 ?_
      rw [e1]
      obtain ⟨k', n, s, l⟩ := v
      have hk : k < l.length := hk
      rw [V.ok] at e2
      simp only [Bool.or_eq_true, Bool.and_eq_true, beq_iff_eq] at e2
      rcases e2 with (⟨_, _, h⟩ | ⟨_, _, h⟩) | ⟨⟨h, _⟩, _⟩
      · omega
      · omega
      · rw [V.enc, if_neg (by omega), if_neg (by omega)]
        simp only [V.l, List.length_cons, List.length_append]; omega
    · rw [ok_s (okL_get hok k hk) h1]; exact Nat.zero_le _
  · rw [List.getElem?_eq_none hk]; exact Nat.zero_le _
theorem Decode_y (w : World) (a : Option Addr) (c : Nat) (q : List UInt8) (v : V) (hg : LG w) (hr : Rd w a (bs q)) (hc : q.length ≤ c) (hm : c ≤ 9223372036854775807) (hq : q.length ≤ 70000) (h : rdVal 16 q = some (v, [])) (hl : v.l.length = 12) : GivesI 27 [.slice a q.length c] w (dcV v q).1 (dcV v q).2 := by
  refine enter Tryz.func27 Tryz.ntmps27 ?_
  refine c_seq <| c_reg <| s_allocC (cs := (itC it0 (.slice none 0 0)).toArray) (by kernel_rfl) fun b2 => s_y y_as <| s_nil <| q_then <| c_seq <| c_reg <| s_y y_mv <| s_gives (fun w' hw => Decode_ok w' a c q v (hr.st hw) hc hm (by omega) h) fun z hz => s_perm List.perm_append_comm ?_
  obtain ⟨va, vc, rs⟩ := z
  simp only at hz
  refine s_wd fun w0 hw0 => ?_
  have hrs0 : ∀ p ∈ rs, p.holds w0 := fun p hp => (hw0.own p (.tail _ hp)).1
  have hva := (hz.cell (i := 0) (by omega) hrs0).1
  have hwf := dcI_wf hz hrs0 hl
  have hbl := rd_body h 9
  have hn : ∀ k, k < 12 → ∀ w', (∀ p ∈ rs, p.holds w') → w'.cell? (ad va (k * 4 + 1)) = some (I (nn v.l k)) := fun k hk w' hw' => by
    rw [show nn v.l k = v.l[k].n by unfold nn; rw [List.getD_eq_getElem?_getD, List.getElem?_eq_getElem (by omega)]; rfl]
    exact (hz.cell (i := k) (by omega) hw').2.1
  have hs : ∀ k, k < 12 → ∀ w', (∀ p ∈ rs, p.holds w') → w'.cell? (ad va (k * 4 + 2)) = some (.string (sb (ss v.l k))) := fun k hk w' hw' => by
    rw [show ss v.l k = v.l[k].s by unfold ss; rw [List.getD_eq_getElem?_getD, List.getElem?_eq_getElem (by omega)]; rfl]
    exact (hz.cell (i := k) (by omega) hw').2.2.1
  refine s_y y_mv <| s_y y_ext <| s_y y_ext <| s_alloc fun b4 => s_sta (b := b4) (vs := #[I v.k, I v.n, .string (sb v.s), .slice va v.l.length vc]) (cs := #[I 0, I 0, .string (sb []), .slice none 0 0]) (h1 := by intro u hu; simp at hu; rcases hu with rfl | rfl | rfl | rfl <;> rfl) (hl := rfl) (hs1 := rfl) ?_
  refine s_y y_as <| s_nil <| q_then <| c_seq <| c_seq <| c_reg <| s_y y_mv <| s_nf (y_neq (p := 0) (q := 0)) rfl <| s_nil <| q_then <| c_f <| c_skip <| q_then <| c_seq <| c_seq <| c_reg <| s_y y_fa <| s_y (y_ld (b := b4) (v := .slice va v.l.length vc)) <| s_y y_len <| s_nf (y_neq (p := ((v.l.length : Nat) : Int)) (q := 12)) (by omega) <| s_nil <| q_then <| c_f <| c_skip <| q_then <| ?_
  refine c_seq <| c_seq <| c_reg <| s_mkmap (.inl rfl) fun bm => s_y y_fa <| s_ins (k := 0) (v := .pointer (some ⟨b2, 0, none⟩)) (hr := .head _) (hne := by simp) <| s_y y_fa <| s_ins (k := 1) (v := .pointer (some ⟨b2, 33, none⟩)) (hr := .head _) (hne := by simp) <| s_y y_fa <| s_ins (k := 2) (v := .pointer (some ⟨b2, 34, none⟩)) (hr := .head _) (hne := by simp) <| s_y y_fa <| s_ins (k := 3) (v := .pointer (some ⟨b2, 35, none⟩)) (hr := .head _) (hne := by simp) <| s_y y_fa <| s_ins (k := 4) (v := .pointer (some ⟨b2, 36, none⟩)) (hr := .head _) (hne := by simp) <| s_y y_fa <| s_y y_fa <| s_ins (k := 6) (v := .pointer (some ⟨b2, 37, none⟩)) (hr := .head _) (hne := by simp) <| s_y y_fa <| s_y y_fa <| s_ins (k := 7) (v := .pointer (some ⟨b2, 38, none⟩)) (hr := .head _) (hne := by simp) <| s_y y_fa <| s_y y_fa <| s_ins (k := 10) (v := .pointer (some ⟨b2, 72, none⟩)) (hr := .head _) (hne := by simp) <| s_y y_fa <| s_y y_fa <| s_ins (k := 11) (v := .pointer (some ⟨b2, 73, none⟩)) (hr := .head _) (hne := by simp) <| ?_
  rw [show (((((((([] ++ [(0, .pointer (some ⟨b2, 0, none⟩))]) ++ [(1, .pointer (some ⟨b2, 33, none⟩))]) ++ [(2, .pointer (some ⟨b2, 34, none⟩))]) ++ [(3, .pointer (some ⟨b2, 35, none⟩))]) ++ [(4, .pointer (some ⟨b2, 36, none⟩))]) ++ [(6, .pointer (some ⟨b2, 37, none⟩))]) ++ [(7, .pointer (some ⟨b2, 38, none⟩))]) ++ [(10, .pointer (some ⟨b2, 72, none⟩))]) ++ [(11, .pointer (some ⟨b2, 73, none⟩))] = kvI b2 from rfl]
  refine s_y y_mv <| s_range (kv := kvI b2) (hmem := .head _) fun bi => s_nil <| q_then <| c_block <| ?_
  refine c_loop (σ := List Nat) (fun s => [(0, .slice a q.length c), (2, .pointer (some ⟨b2, 0, none⟩)), (3, I 0), (4, .pointer (some ⟨b4, 0, none⟩)), (38, .pointer (some ⟨bi, 0, none⟩))]) (fun s => mit bi bm 9 s :: mblk bm (kvI b2) :: rVl b4 v va vc :: rI b2 (pI s v.l) (.slice none 0 0) :: rs) (fun _ => True) (fun s => unseen 9 s) [] trivial ⟨rfl, rfl, rfl, rfl, rfl, trivial⟩ (.refl _) ?_
  intro s _
  refine c_seq <| c_reg <| s_next (b := bi) (m := bm) (kv := kvI b2) (s := s) (hmem := .tail _ (.head _)) (hr := fun _ => .head _) (fun hall => ?_) (fun i k pv hkv hi => ?_)
  rotate_left 1
  · have hi9 : i < 9 := (List.getElem?_eq_some_iff.1 hkv).1
    refine s_y y_ext <| s_nil <| q_then <| c_seq <| c_t <| c_skip <| q_then <| c_block <| c_seq <| c_reg <| s_y (y_entry (b := bi) (m := bm) (kv := kvI b2) (s := s) (i := i) hkv (hmem := .tail _ (.head _)) (hit := .head _)) <| s_y y_ext <| s_y y_ext <| s_y y_as <| s_y y_as <| s_nil <| q_then <| c_reg <| s_y y_mv <| s_y y_fa <| s_y (y_ld (b := b4) (v := .slice va v.l.length vc)) <| s_y y_mv <| ?_
    have hrs : ∀ w', St w [] w' (mit bi bm 9 (s ++ [i]) :: mblk bm (kvI b2) :: rVl b4 v va vc :: rI b2 (pI s v.l) (.slice none 0 0) :: rs) → ∀ p ∈ rs, p.holds w' := fun w' hw p hp => (hw.own p (.tail _ (.tail _ (.tail _ (.tail _ hp))))).1
    rcases (show i = 0 ∨ i = 1 ∨ i = 2 ∨ i = 3 ∨ i = 4 ∨ i = 5 ∨ i = 6 ∨ i = 7 ∨ i = 8 by omega) with rfl | rfl | rfl | rfl | rfl | rfl | rfl | rfl | rfl
    · obtain ⟨rfl, rfl⟩ := Prod.mk.inj (Option.some.inj (show some (((0 : Int)), (Value.pointer (some ⟨b2, 0, none⟩))) = some (k, pv) from hkv))
      refine s_y (y_ixz (i := 0) hva) <| s_y y_far <| s_y (y_ldc (a := ad va (0 * 4 + 1)) (v := I (nn v.l 0)) (fun w' hw => hn 0 (by decide) w' (hrs w' hw))) <| s_y y_nc <| s_st1 (b := b2) (cs := itC (pI s v.l) (.slice none 0 0)) (cs' := itC (pI (s ++ [0]) v.l) (.slice none 0 0)) (hcs := (set_fo _).trans (congrArg (fun i => itC i _) (pI_s0 s v.l))) (hl := by rw [it_len List.length_replicate List.length_replicate]; decide) ?_
      exact s_nil <| q_nb <| q_round (s ++ [0]) trivial (unseen_lt hi9 hi) ⟨rfl, rfl, rfl, rfl, rfl, trivial⟩ (.refl _)
    · obtain ⟨rfl, rfl⟩ := Prod.mk.inj (Option.some.inj (show some (((1 : Int)), (Value.pointer (some ⟨b2, 33, none⟩))) = some (k, pv) from hkv))
      refine s_y (y_ixz (i := 1) hva) <| s_y y_far <| s_y (y_ldc (a := ad va (1 * 4 + 1)) (v := I (nn v.l 1)) (fun w' hw => hn 1 (by decide) w' (hrs w' hw))) <| s_y y_nc <| s_st1 (b := b2) (cs := itC (pI s v.l) (.slice none 0 0)) (cs' := itC (pI (s ++ [1]) v.l) (.slice none 0 0)) (hcs := (set_dv List.length_replicate _).trans (congrArg (fun i => itC i _) (pI_s1 s v.l))) (hl := by rw [it_len List.length_replicate List.length_replicate]; decide) ?_
      exact s_nil <| q_nb <| q_round (s ++ [1]) trivial (unseen_lt hi9 hi) ⟨rfl, rfl, rfl, rfl, rfl, trivial⟩ (.refl _)
    · obtain ⟨rfl, rfl⟩ := Prod.mk.inj (Option.some.inj (show some (((2 : Int)), (Value.pointer (some ⟨b2, 34, none⟩))) = some (k, pv) from hkv))
      refine s_y (y_ixz (i := 2) hva) <| s_y y_far <| s_y (y_ldc (a := ad va (2 * 4 + 1)) (v := I (nn v.l 2)) (fun w' hw => hn 2 (by decide) w' (hrs w' hw))) <| s_y y_nc <| s_st1 (b := b2) (cs := itC (pI s v.l) (.slice none 0 0)) (cs' := itC (pI (s ++ [2]) v.l) (.slice none 0 0)) (hcs := (set_ct List.length_replicate _).trans (congrArg (fun i => itC i _) (pI_s2 s v.l))) (hl := by rw [it_len List.length_replicate List.length_replicate]; decide) ?_
      exact s_nil <| q_nb <| q_round (s ++ [2]) trivial (unseen_lt hi9 hi) ⟨rfl, rfl, rfl, rfl, rfl, trivial⟩ (.refl _)
    · obtain ⟨rfl, rfl⟩ := Prod.mk.inj (Option.some.inj (show some (((3 : Int)), (Value.pointer (some ⟨b2, 35, none⟩))) = some (k, pv) from hkv))
      refine s_y (y_ixz (i := 3) hva) <| s_y y_far <| s_y (y_ldc (a := ad va (3 * 4 + 1)) (v := I (nn v.l 3)) (fun w' hw => hn 3 (by decide) w' (hrs w' hw))) <| s_y y_nc <| s_st1 (b := b2) (cs := itC (pI s v.l) (.slice none 0 0)) (cs' := itC (pI (s ++ [3]) v.l) (.slice none 0 0)) (hcs := (set_kd List.length_replicate _).trans (congrArg (fun i => itC i _) (pI_s3 s v.l))) (hl := by rw [it_len List.length_replicate List.length_replicate]; decide) ?_
      exact s_nil <| q_nb <| q_round (s ++ [3]) trivial (unseen_lt hi9 hi) ⟨rfl, rfl, rfl, rfl, rfl, trivial⟩ (.refl _)
    · obtain ⟨rfl, rfl⟩ := Prod.mk.inj (Option.some.inj (show some (((4 : Int)), (Value.pointer (some ⟨b2, 36, none⟩))) = some (k, pv) from hkv))
      refine s_y (y_ixz (i := 4) hva) <| s_y y_far <| s_y (y_ldc (a := ad va (4 * 4 + 1)) (v := I (nn v.l 4)) (fun w' hw => hn 4 (by decide) w' (hrs w' hw))) <| s_y y_nc <| s_st1 (b := b2) (cs := itC (pI s v.l) (.slice none 0 0)) (cs' := itC (pI (s ++ [4]) v.l) (.slice none 0 0)) (hcs := (set_sz List.length_replicate _).trans (congrArg (fun i => itC i _) (pI_s4 s v.l))) (hl := by rw [it_len List.length_replicate List.length_replicate]; decide) ?_
      exact s_nil <| q_nb <| q_round (s ++ [4]) trivial (unseen_lt hi9 hi) ⟨rfl, rfl, rfl, rfl, rfl, trivial⟩ (.refl _)
    · obtain ⟨rfl, rfl⟩ := Prod.mk.inj (Option.some.inj (show some (((6 : Int)), (Value.pointer (some ⟨b2, 37, none⟩))) = some (k, pv) from hkv))
      refine s_y (y_ixz (i := 6) hva) <| s_y y_far <| s_y (y_ldc (a := ad va (6 * 4 + 1)) (v := I (nn v.l 6)) (fun w' hw => hn 6 (by decide) w' (hrs w' hw))) <| s_y y_nc <| s_st1 (b := b2) (cs := itC (pI s v.l) (.slice none 0 0)) (cs' := itC (pI (s ++ [5]) v.l) (.slice none 0 0)) (hcs := (set_cA List.length_replicate _).trans (congrArg (fun i => itC i _) (pI_s5 s v.l))) (hl := by rw [it_len List.length_replicate List.length_replicate]; decide) ?_
      exact s_nil <| q_nb <| q_round (s ++ [5]) trivial (unseen_lt hi9 hi) ⟨rfl, rfl, rfl, rfl, rfl, trivial⟩ (.refl _)
    · obtain ⟨rfl, rfl⟩ := Prod.mk.inj (Option.some.inj (show some (((7 : Int)), (Value.pointer (some ⟨b2, 38, none⟩))) = some (k, pv) from hkv))
      refine s_y (y_ixz (i := 7) hva) <| s_y y_far <| s_y (y_ldc (a := ad va (7 * 4 + 1)) (v := I (nn v.l 7)) (fun w' hw => hn 7 (by decide) w' (hrs w' hw))) <| s_y y_nc <| s_st1 (b := b2) (cs := itC (pI s v.l) (.slice none 0 0)) (cs' := itC (pI (s ++ [6]) v.l) (.slice none 0 0)) (hcs := (set_cB List.length_replicate _).trans (congrArg (fun i => itC i _) (pI_s6 s v.l))) (hl := by rw [it_len List.length_replicate List.length_replicate]; decide) ?_
      exact s_nil <| q_nb <| q_round (s ++ [6]) trivial (unseen_lt hi9 hi) ⟨rfl, rfl, rfl, rfl, rfl, trivial⟩ (.refl _)
    · obtain ⟨rfl, rfl⟩ := Prod.mk.inj (Option.some.inj (show some (((10 : Int)), (Value.pointer (some ⟨b2, 72, none⟩))) = some (k, pv) from hkv))
      refine s_y (y_ixz (i := 10) hva) <| s_y y_far <| s_y (y_ldc (a := ad va (10 * 4 + 1)) (v := I (nn v.l 10)) (fun w' hw => hn 10 (by decide) w' (hrs w' hw))) <| s_y y_nc <| s_st1 (b := b2) (cs := itC (pI s v.l) (.slice none 0 0)) (cs' := itC (pI (s ++ [7]) v.l) (.slice none 0 0)) (hcs := (set_sR List.length_replicate List.length_replicate _).trans (congrArg (fun i => itC i _) (pI_s7 s v.l))) (hl := by rw [it_len List.length_replicate List.length_replicate]; decide) ?_
      exact s_nil <| q_nb <| q_round (s ++ [7]) trivial (unseen_lt hi9 hi) ⟨rfl, rfl, rfl, rfl, rfl, trivial⟩ (.refl _)
    · obtain ⟨rfl, rfl⟩ := Prod.mk.inj (Option.some.inj (show some (((11 : Int)), (Value.pointer (some ⟨b2, 73, none⟩))) = some (k, pv) from hkv))
      refine s_y (y_ixz (i := 11) hva) <| s_y y_far <| s_y (y_ldc (a := ad va (11 * 4 + 1)) (v := I (nn v.l 11)) (fun w' hw => hn 11 (by decide) w' (hrs w' hw))) <| s_y y_nc <| s_st1 (b := b2) (cs := itC (pI s v.l) (.slice none 0 0)) (cs' := itC (pI (s ++ [8]) v.l) (.slice none 0 0)) (hcs := (set_sS List.length_replicate List.length_replicate _).trans (congrArg (fun i => itC i _) (pI_s8 s v.l))) (hl := by rw [it_len List.length_replicate List.length_replicate]; decide) ?_
      exact s_nil <| q_nb <| q_round (s ++ [8]) trivial (unseen_lt hi9 hi) ⟨rfl, rfl, rfl, rfl, rfl, trivial⟩ (.refl _)
  · have hall : ∀ i, i < 9 → i ∈ s := fun i hi => hall i hi
    rw [pI_all v.l hall]
    refine s_y y_ext <| s_nil <| q_then <| c_seq <| c_f <| c_exit <| q_ex <| q_ex <| q_exb <| q_then <| ?_
    have hrsL : ∀ w', St w [] w' (rVl b4 v va vc :: rs) → ∀ p ∈ rs, p.holds w' := fun w' hw p hp => (hw.own p (.tail _ hp)).1
    refine c_seq <| c_regL (rVl b4 v va vc :: rs) <| r_y 0 rfl y_fa <| r_y 1 rfl y_sla <| r_y 2 rfl y_fa <| r_y 3 rfl (y_ld (b := b4) (v := .slice va v.l.length vc)) <| r_y 4 rfl (y_ixz (i := 5) hva) <| r_y 5 rfl y_far <| r_y 6 rfl (y_ldc (a := ad va (5 * 4 + 2)) (v := .string (sb (ss v.l 5))) (fun w' hw => hs 5 (by decide) w' (hrsL w' hw))) <| r_W 7 rfl <| s_cpyI (b := b2) (off := 1) (cs := itC (pI0 v.l) (.slice none 0 0)) (cs' := itC (pI1 v.l) (.slice none 0 0)) (ss v.l 5) (put_dcm rfl _) (by rw [it_len List.length_replicate List.length_replicate]; decide) (.tail _ (.tail _ (.tail _ (.head _)))) <| r_K <| r_E <| q_then <| ?_
    refine c_seq <| c_regL (rVl b4 v va vc :: rs) <| r_y 0 rfl y_fa <| r_y 1 rfl y_fa <| r_y 2 rfl y_sla <| r_y 3 rfl y_fa <| r_y 4 rfl (y_ld (b := b4) (v := .slice va v.l.length vc)) <| r_y 5 rfl (y_ixz (i := 8) hva) <| r_y 6 rfl y_far <| r_y 7 rfl (y_ldc (a := ad va (8 * 4 + 2)) (v := .string (sb (ss v.l 8))) (fun w' hw => hs 8 (by decide) w' (hrsL w' hw))) <| r_W 8 rfl <| s_cpyI (b := b2) (off := 39) (cs := itC (pI1 v.l) (.slice none 0 0)) (cs' := itC (pI2 v.l) (.slice none 0 0)) (ss v.l 8) (put_dpd (dig_length _) rfl _) (by rw [it_len (dig_length _) List.length_replicate]; decide) (.tail _ (.tail _ (.tail _ (.head _)))) <| r_K <| r_E <| q_then <| ?_
    refine c_seq <| c_reg <| s_y y_fa <| s_y (y_ld (b := b4) (v := .slice va v.l.length vc)) <| s_y (y_ixz (i := 9) hva) <| s_y y_far <| s_y (y_ldc (a := ad va (9 * 4 + 2)) (v := .string (sb (ss v.l 9))) (fun w' hw => hs 9 (by decide) w' fun p hp => (hw.own p (.tail _ (.tail _ (.tail _ (.tail _ hp))))).1)) <| s_s2b fun bb cap cs fz hcs hcap => s_y y_fa <| s_st1 (b := b2) (cs := itC (pI2 v.l) (.slice none 0 0)) (cs' := itC (dcI v.l) (.slice (some ⟨bb, 0, none⟩) (ss v.l 9).length cap)) (hcs := set_bd (dig_length _) (dig_length _) _ (ss v.l 9)) (hl := by rw [it_len (dig_length _) (dig_length _)]; decide) ?_
    have hrb : ∀ w', (Res.blk bb (.cells cs 5 fz)).holds w' → Rd w' (some ⟨bb, 0, none⟩) (bs (ss v.l 9)) := fun w' hb => .inr ⟨bb, 0, cs, _, fz, rfl, hb, fun i v hv => by rw [Nat.zero_add]; exact hcs i v hv⟩
    have hb7 : (dcI v.l).bd.length ≤ 70000 := Nat.le_trans hbl hq
    refine s_nil <| q_then <| c_seq <| c_seq <| c_reg <| s_y (y_lda (b := b2) (cs := (itC (dcI v.l) (.slice (some ⟨bb, 0, none⟩) (ss v.l 9).length cap)).toArray) (hl := it_size (dig_length _) (dig_length _))) <| s_gives (fun w' hw => Encode_ok w' (dcI v.l) (some ⟨bb, 0, none⟩) cap hwf (hg.st hw) (hrb w' (hw.own _ (.head _)).1) hb7) fun x _ => s_y y_mv <| s_y y_ext <| s_y y_ext <| s_y y_as <| s_y y_as <| s_nil <| q_then <| c_seq <| c_reg <| s_y y_mv <| ?_
    cases hv : (dcI v.l).vld with
    | false =>
      have hR : dcV v q = (it0, 290) := if_neg (fun e => by rw [hv] at e; cases e.2.1)
      have hE : (dcI v.l).encE = 290 := by unfold It.encE; rw [if_neg (by rw [hv]; simp)]
      rw [hR, hE]
      refine s_nt (y_neq (p := 290) (q := 0)) (by decide) <| s_y y_mv <| s_no <| s_no <| s_no <| s_no <| s_y y_pk <| s_nil <| q_then <| c_t <| ?_
      refine c_seq <| c_reg <| s_y (y_bitem (vs := []) (i := it0) (s := .slice none 0 0) rfl) <| s_sta (b := b2) (vs := (itC it0 (.slice none 0 0)).toArray) (cs := (itC (dcI v.l) (.slice (some ⟨bb, 0, none⟩) (ss v.l 9).length cap)).toArray) (h1 := it_one) (hl := (it_size rfl rfl).trans (it_size (dig_length _) (dig_length _)).symm) (hs1 := it_size rfl rfl) ?_
      refine s_y y_as <| s_nil <| q_then <| c_ret <| q_ret <| ?_
      exact ret2 Tryz.results27 (rv_ca (b := b2) (cs := (itC it0 (.slice none 0 0)).toArray) (hl := it_size rfl rfl)) rv_t fun w' hw => ⟨IX.nil, IX.nil_ok rfl, rfl, St.nilO hw⟩
    | true =>
      have hE : (dcI v.l).encE = 0 := by unfold It.encE; rw [if_pos hv]
      have hB : (dcI v.l).encB = (dcI v.l).all := by unfold It.encB; rw [if_pos hv]
      rw [hE, hB]
      refine s_nf (y_neq (p := 0) (q := 0)) rfl <| s_y y_mv <| s_y y_mv <| s_y y_mv <| s_pure (fun w' hw => Equal_ok w' a x.1 q.length (dcI v.l).all.length c x.2 q (dcI v.l).all rfl rfl (hr.st hw) (rdR (.head _) w' hw)) <| ?_
      by_cases he : q = (dcI v.l).all
      · have hR : dcV v q = (dcI v.l, 0) := if_pos ⟨hl, hv, he.symm⟩
        rw [hR, decide_eq_true he]
        refine s_y (v := .bool false) (y_not (b := true)) <| s_y y_pk <| s_nil <| q_then <| c_f <| c_skip <| q_then <| c_seq <| c_reg <| s_y (y_lda (b := b2) (cs := (itC (dcI v.l) (.slice (some ⟨bb, 0, none⟩) (ss v.l 9).length cap)).toArray) (hl := it_size (dig_length _) (dig_length _))) <| s_sta (b := b2) (vs := (itC (dcI v.l) (.slice (some ⟨bb, 0, none⟩) (ss v.l 9).length cap)).toArray) (cs := (itC (dcI v.l) (.slice (some ⟨bb, 0, none⟩) (ss v.l 9).length cap)).toArray) (h1 := it_one) (hl := rfl) (hs1 := it_size (dig_length _) (dig_length _)) ?_
        refine s_y y_as <| s_nil <| q_then <| c_ret <| ?_
        exact ret2 Tryz.results27 (rv_ca (b := b2) (cs := (itC (dcI v.l) (.slice (some ⟨bb, 0, none⟩) (ss v.l 9).length cap)).toArray) (hl := it_size (dig_length _) (dig_length _))) rv_t fun w' hw => ⟨⟨some ⟨bb, 0, none⟩, cap, .blk bb (.cells cs 5 fz)⟩, fun w2 h2 => ⟨hrb w2 h2, hcap⟩, rfl, hw.sub (.cons _ (.cons_cons _ (List.nil_sublist _)))⟩
      · have hR : dcV v q = (it0, 290) := if_neg (fun e => he e.2.2.symm)
        rw [hR, decide_eq_false he]
        refine s_y (v := .bool true) (y_not (b := false)) <| s_y y_pk <| s_nil <| q_then <| c_t <| ?_
        refine c_seq <| c_reg <| s_y (y_bitem (vs := []) (i := it0) (s := .slice none 0 0) rfl) <| s_sta (b := b2) (vs := (itC it0 (.slice none 0 0)).toArray) (cs := (itC (dcI v.l) (.slice (some ⟨bb, 0, none⟩) (ss v.l 9).length cap)).toArray) (h1 := it_one) (hl := (it_size rfl rfl).trans (it_size (dig_length _) (dig_length _)).symm) (hs1 := it_size rfl rfl) ?_
        refine s_y y_as <| s_nil <| q_then <| c_ret <| q_ret <| ?_
        exact ret2 Tryz.results27 (rv_ca (b := b2) (cs := (itC it0 (.slice none 0 0)).toArray) (hl := it_size rfl rfl)) rv_t fun w' hw => ⟨IX.nil, IX.nil_ok rfl, rfl, St.nilO hw⟩
theorem Decode_ok' (w : World) (a : Option Addr) (c : Nat) (q : List UInt8) (hg : LG w) (hr : Rd w a (bs q)) (hc : q.length ≤ c) (hm : c ≤ 9223372036854775807) (hq : q.length ≤ 70000) :
    GivesI 27 [.slice a q.length c] w (dcd q).1 (dcd q).2 := by
  unfold dcd
  cases h : rdVal 16 q with
  | none => exact Decode_n1 w a c q hr hc hm hq (fun v e => by rw [h] at e; cases e)
  | some p =>
    obtain ⟨v, q'⟩ := p
    cases q' with
    | cons x q' => exact Decode_n1 w a c q hr hc hm hq (fun v e => by rw [h] at e; simp at e)
    | nil =>
      by_cases hl : v.l.length = 12
      · exact Decode_y w a c q v hg hr hc hm hq h hl
      · have hR : dcV v q = (it0, 290) := if_neg (fun e => hl e.1)
        simp only [hR]
        exact Decode_n2 w a c q v hr hc hm hq h hl
end Go.Proofs.YtejdjnkilikehaaGreatDoor
end
section
namespace Go.Proofs.YtejdjnkilikehaaGreatDoor
open Go Eng
theorem plen_pow (k : Nat) (h : k < 6) : 4 * plen k = plen ((k : Int) + 1) ∨ k = 5 := by
  have : k = 0 ∨ k = 1 ∨ k = 2 ∨ k = 3 ∨ k = 4 ∨ k = 5 := by omega
  rcases this with rfl | rfl | rfl | rfl | rfl | rfl
  · exact .inl rfl
  · exact .inl rfl
  · exact .inl rfl
  · exact .inl rfl
  · exact .inl rfl
  · exact .inr rfl
theorem ref28_Length_ok (w : World) (i : Int) : Pure Tryz.prog 112 [I i] w (.tuple #[I (lnV i), I (lnE i)]) := by
  refine enter Tryz.func112 Tryz.ntmps112 ?_
  refine c_seq <| c_reg <| s_y y_as <| s_y y_as <| s_nil <| q_then <| c_seq <| c_seq <| c_reg <| s_y y_mv <| s_ifd y_lss (fun h7 => ?_) (fun h7 => ?_)
  · refine s_y y_mv <| s_no <| s_no <| s_y y_pk <| s_nil <| q_then <| c_t <| c_seq <| c_reg <| s_y y_as <| s_y y_as <| s_nil <| q_then <| c_ret <| q_ret <| ?_
    exact ret2 Tryz.results112 rv_t rv_t fun w' hw => ⟨by simp [lnV, lnE, h7], hw⟩
  · refine s_y y_mv <| s_y y_mv <| s_y y_geq <| s_y y_pk <| s_nil <| q_then <| c_ifd (fun h11 => ?_) (fun h11 => ?_)
    · refine c_seq <| c_reg <| s_y y_as <| s_y y_as <| s_nil <| q_then <| c_ret <| q_ret <| ?_
      exact ret2 Tryz.results112 rv_t rv_t fun w' hw => ⟨by simp [lnV, lnE, h11], hw⟩
    · refine c_skip <| q_then <| c_seq <| c_reg <| s_y y_as <| s_nil <| q_then <| c_seq <| c_seq <| c_reg <| s_y y_as <| s_nil <| q_then <| c_block <| ?_
      refine c_loop (fun k : Nat => [(0, I i), (2, I 0), (3, I 0), (4, I (plen k)), (5, I k)]) (fun _ => []) (fun k => (k : Int) ≤ i) (fun k => 6 - k) 0 (by omega) ⟨rfl, rfl, rfl, rfl, rfl, trivial⟩ (List.Sublist.refl _) ?_
      intro k hk
      refine c_seq <| c_seq <| c_reg <| s_y y_mv <| s_y y_mv <| s_y y_lss <| s_nil <| q_then <| c_ifd (fun h14 => ?_) (fun h14 => ?_)
      · have hp := plen_le k
        have hq := plen_pow k (by omega)
        refine c_skip <| q_then <| c_seq <| c_block <| c_reg <| s_y y_mv <| s_y y_mul <| s_y y_as <| s_nil <| q_nb <| q_then <| c_reg <| s_y y_mv <| s_y y_add <| s_y y_as <| s_nil <| ?_
        rw [hq.resolve_right (by omega)]
        exact q_round (k + 1) (by omega) (by omega) ⟨rfl, rfl, rfl, rfl, rfl, trivial⟩ (List.Sublist.refl _)
      · have e : (k : Int) = i := by omega
        refine c_exit <| q_ex <| q_ex <| q_exb <| q_then <| c_seq <| c_reg <| s_y y_mv <| s_y y_as <| s_y y_as <| s_nil <| q_then <| c_ret <| ?_
        exact ret2 Tryz.results112 rv_t rv_t fun w' hw => ⟨by simp [lnV, lnE, h7, h11, e], hw⟩
end Go.Proofs.YtejdjnkilikehaaGreatDoor
end
section
namespace Eng
open Go Go.RowKit
theorem run_eqF2 {P : Program} {k : Nat} {X : Array Value} {f1 f2 : Field} {v1 v2 : Value} {w : World} (n1 : f1.name ≠ "_") (n2 : f2.name ≠ "_")
    (c1 : (part f1.type X f1.offset).run P w = .ok v1 w) (c2 : (part f2.type X f2.offset).run P w = .ok v2 w)
    (e1 : (Op.equalIn k f1.type v1 v1).run P w = .ok true w) (e2 : (Op.equalIn k f2.type v2 v2).run P w = .ok true w) :
    (Op.eqFields k X X [f1, f2]).run P w = .ok true w := by
  simp only [Op.eqFields, if_pos n1, if_pos n2, Sem.run_bind, c1, c2, Result.andThen_ok, e1, e2, Bool.not_true, Bool.false_eq_true, if_false, Sem.run_pure]
end Eng
namespace Go.Proofs.YtejdjnkilikehaaGreatDoor
open Go Eng Gf Sha Sig Wr Cod Cha Itm
set_option maxRecDepth 100000
theorem hgSig : (Tryz.prog).eqGuardType (Tryz.prog).depth 34 = false := by kernel_rfl
theorem hsSig : (Tryz.prog).stoodInHeld 34 = false := by kernel_rfl
theorem hfSig : (Tryz.prog).underlying 34 = some (.struct ((Tryz.prog).fieldsOf 34)) := by kernel_rfl
theorem hlSig : ∃ f1 f2 : Field, ((Tryz.prog).fieldsOf 34).toList = [f1, f2] ∧ f1.name = "R" ∧ f2.name = "S" ∧ f1.type = 3 ∧ f2.type = 3 ∧ f1.offset = 0 ∧ f2.offset = 1 := by
  simp only [Program.fieldsOf, Tryz.underlying34]
  exact ⟨_, _, rfl, rfl, rfl, rfl, rfl, rfl, rfl⟩
theorem eqSigIn (k : Nat) {a b : Int} (w : World) : (Op.equalIn (k + 3) 34 (.agg #[I a, I b]) (.agg #[I a, I b])).run Tryz.prog w = .ok true w := by
  obtain ⟨f1, f2, hl, n1, n2, t1, t2, o1, o2⟩ := hlSig
  have c1 : (part 3 #[I a, I b] 0).run Tryz.prog w = .ok (I a) w := run_part1 (by rfl) w
  have c2 : (part 3 #[I a, I b] 1).run Tryz.prog w = .ok (I b) w := run_part1 (by rfl) w
  have e1 : (Op.equalIn (k + 2) 3 (I a) (I a)).run Tryz.prog w = .ok true w := run_eqI (k + 1) a w
  have e2 : (Op.equalIn (k + 2) 3 (I b) (I b)).run Tryz.prog w = .ok true w := run_eqI (k + 1) b w
  rw [← t1, ← o1] at c1
  rw [← t2, ← o2] at c2
  rw [← t1] at e1
  rw [← t2] at e2
  rw [run_equalIn_struct w (k + 2) _ _ _ hfSig hsSig, hl]
  exact run_eqF2 (n1 ▸ by decide) (n2 ▸ by decide) c1 c2 e1 e2
theorem run_eqSig {a b : Int} (w : World) : (Op.equalIn 10000 34 (.agg #[I a, I b]) (.agg #[I a, I b])).run Tryz.prog w = .ok true w := eqSigIn 9997 w
theorem y_eqlSig {n : Nat} {D : List Deferred} {W : World} {Bo : List Nat} {F : List (Nat × Value)} {l : SH} {d : Option Tmp} {ty : TypeId} {ps : String} {af : Array Edge} {g : Option (Nat × Bool)} {x y : Operand} {tb : TypeId} {a b : Int}
    (hx : evO F x = some (.agg #[I a, I b]) := by rfl) (hy : evO F y = some (.agg #[I a, I b]) := by rfl) : Y Tryz.prog n D W Bo ⟨d, .binOp .eql 34 x y tb, ty, ps, af, g⟩ F l (.bool true) :=
  .mk (by simp) fun ac w ha _ => by
    simp only [execOp, ha.eval hx, ha.eval hy, Sem.run_bind, run_eqGuard_agg w .eql 34 x y _ _ hgSig, Result.andThen_ok, run_eql_struct, run_eqSig, Sem.run_pure]
theorem r_numbers_ok (w : World) (f d c k : Int) : Pure Tryz.prog 44 [I f, I d, I c, I k] w (.bool (numB f d c k)) := by
  refine enter Tryz.func44 Tryz.ntmps44 ?_
  refine c_seq <| c_reg <| s_y y_as <| s_nil <| q_then <| c_seq <| c_reg <| s_y y_mv <| s_ifd (y_geq (p := f) (q := 0)) (fun h10 => ?_) (fun h10 => ?_)
  · refine s_y y_mv <| s_y y_mv <| s_ifd (y_lss (p := f) (q := 16)) (fun h13 => ?_) (fun h13 => ?_)
    · refine s_y y_pk <| s_y y_mv <| s_y y_mv <| s_ifd (y_geq (p := d) (q := 0)) (fun h17 => ?_) (fun h17 => ?_)
      · refine s_y y_pk <| s_y y_mv <| s_y y_mv <| s_ifd (y_lss (p := d) (q := 512)) (fun h21 => ?_) (fun h21 => ?_)
        · refine s_y y_pk <| s_y y_mv <| s_y y_mv <| s_ifd (y_geq (p := c) (q := 1)) (fun h25 => ?_) (fun h25 => ?_)
          · refine s_y y_pk <| s_y y_mv <| s_y y_mv <| s_ifd (y_leq (p := c) (q := 1048576)) (fun h29 => ?_) (fun h29 => ?_)
            · refine s_y y_pk <| s_y y_mv <| s_y y_mv <| s_ifd (y_eql (p := k) (q := 1)) (fun h33 => ?_) (fun h33 => ?_)
              · refine s_y y_mv <| s_no <| s_no <| s_y y_pk <| s_y y_pk <| s_y y_as <| s_nil <| q_then <| c_ret <| ?_
                exact ret1 Tryz.results44 rv_t fun w' hw => ⟨by rw [show numB f d c k = true by rw [Bool.eq_iff_iff]; simp [numB]; omega], hw⟩
              · refine s_y y_mv <| s_y y_mv <| s_y (y_eql (p := k) (q := 2)) <| s_y y_pk <| s_y y_pk <| s_y y_as <| s_nil <| q_then <| c_ret <| ?_
                exact ret1 Tryz.results44 rv_t fun w' hw => ⟨by rw [show numB f d c k = decide (k = 2) by rw [Bool.eq_iff_iff]; simp [numB]; omega], hw⟩
            · refine s_y y_pk <| s_y y_mv <| s_no <| s_no <| s_no <| s_nu <| s_nu <| s_no <| s_y y_pk <| s_y y_as <| s_nil <| q_then <| c_ret <| ?_
              exact ret1 Tryz.results44 rv_t fun w' hw => ⟨by rw [show numB f d c k = false by rw [Bool.eq_iff_iff]; simp [numB]; omega], hw⟩
          · refine s_y y_pk <| s_y y_mv <| s_no <| s_no <| s_y y_pk <| s_y y_mv <| s_no <| s_no <| s_no <| s_nu <| s_nu <| s_no <| s_y y_pk <| s_y y_as <| s_nil <| q_then <| c_ret <| ?_
            exact ret1 Tryz.results44 rv_t fun w' hw => ⟨by rw [show numB f d c k = false by rw [Bool.eq_iff_iff]; simp [numB]; omega], hw⟩
        · refine s_y y_pk <| s_y y_mv <| s_no <| s_no <| s_y y_pk <| s_y y_mv <| s_no <| s_no <| s_y y_pk <| s_y y_mv <| s_no <| s_no <| s_no <| s_nu <| s_nu <| s_no <| s_y y_pk <| s_y y_as <| s_nil <| q_then <| c_ret <| ?_
          exact ret1 Tryz.results44 rv_t fun w' hw => ⟨by rw [show numB f d c k = false by rw [Bool.eq_iff_iff]; simp [numB]; omega], hw⟩
      · refine s_y y_pk <| s_y y_mv <| s_no <| s_no <| s_y y_pk <| s_y y_mv <| s_no <| s_no <| s_y y_pk <| s_y y_mv <| s_no <| s_no <| s_y y_pk <| s_y y_mv <| s_no <| s_no <| s_no <| s_nu <| s_nu <| s_no <| s_y y_pk <| s_y y_as <| s_nil <| q_then <| c_ret <| ?_
        exact ret1 Tryz.results44 rv_t fun w' hw => ⟨by rw [show numB f d c k = false by rw [Bool.eq_iff_iff]; simp [numB]; omega], hw⟩
    · refine s_y y_pk <| s_y y_mv <| s_no <| s_no <| s_y y_pk <| s_y y_mv <| s_no <| s_no <| s_y y_pk <| s_y y_mv <| s_no <| s_no <| s_y y_pk <| s_y y_mv <| s_no <| s_no <| s_y y_pk <| s_y y_mv <| s_no <| s_no <| s_no <| s_nu <| s_nu <| s_no <| s_y y_pk <| s_y y_as <| s_nil <| q_then <| c_ret <| ?_
      exact ret1 Tryz.results44 rv_t fun w' hw => ⟨by rw [show numB f d c k = false by rw [Bool.eq_iff_iff]; simp [numB]; omega], hw⟩
  · refine s_y y_mv <| s_no <| s_no <| s_y y_pk <| s_y y_mv <| s_no <| s_no <| s_y y_pk <| s_y y_mv <| s_no <| s_no <| s_y y_pk <| s_y y_mv <| s_no <| s_no <| s_y y_pk <| s_y y_mv <| s_no <| s_no <| s_y y_pk <| s_y y_mv <| s_no <| s_no <| s_no <| s_nu <| s_nu <| s_no <| s_y y_pk <| s_y y_as <| s_nil <| q_then <| c_ret <| ?_
    exact ret1 Tryz.results44 rv_t fun w' hw => ⟨by rw [show numB f d c k = false by rw [Bool.eq_iff_iff]; simp [numB]; omega], hw⟩
theorem r1_Int_ok (w : World) (z : Int) : Pure Tryz.prog 141 [I z] w (.agg #[I 1, I z, .string (sb []), .slice none 0 0]) := by
  refine enter Tryz.func141 Tryz.ntmps141 ?_
  refine c_seq <| c_reg <| s_alloc fun b2 => s_nil <| q_then <| c_seq <| c_reg <| s_y y_mv <| s_y (y_bval (cs := [I 1, I z, .string .empty, .slice none 0 0])) <| s_sta (b := b2) (vs := #[I 1, I z, .string .empty, .slice none 0 0]) (cs := #[I 0, I 0, .string .empty, .slice none 0 0]) (h1 := by intro u hu; simp at hu; rcases hu with rfl | rfl | rfl | rfl <;> rfl) (hl := rfl) (hs1 := rfl) ?_
  refine s_nil <| q_then <| c_ret <| ?_
  exact ret1 Tryz.results141 (rv_ca (b := b2) (cs := #[I 1, I z, .string .empty, .slice none 0 0]) (hl := rfl)) fun w' hw => ⟨rfl, hw.sub (List.nil_sublist _)⟩
theorem r1_Text_ok (w : World) (q : List UInt8) : Pure Tryz.prog 140 [.string (sb q)] w (.agg #[I 2, I 0, .string (sb q), .slice none 0 0]) := by
  refine enter Tryz.func140 Tryz.ntmps140 ?_
  refine c_seq <| c_reg <| s_alloc fun b2 => s_nil <| q_then <| c_seq <| c_reg <| s_y y_mv <| s_y (y_bval (cs := [I 2, I 0, .string (sb q), .slice none 0 0])) <| s_sta (b := b2) (vs := #[I 2, I 0, .string (sb q), .slice none 0 0]) (cs := #[I 0, I 0, .string .empty, .slice none 0 0]) (h1 := by intro u hu; simp at hu; rcases hu with rfl | rfl | rfl | rfl <;> rfl) (hl := rfl) (hs1 := rfl) ?_
  refine s_nil <| q_then <| c_ret <| ?_
  exact ret1 Tryz.results140 (rv_ca (b := b2) (cs := #[I 2, I 0, .string (sb q), .slice none 0 0]) (hl := rfl)) fun w' hw => ⟨rfl, hw.sub (List.nil_sublist _)⟩
theorem r1_List_ok (w : World) (a : Option Addr) (m c : Nat) : Pure Tryz.prog 181 [.slice a m c] w (.agg #[I 3, I 0, .string (sb []), .slice a m c]) := by
  refine enter Tryz.func181 Tryz.ntmps181 ?_
  refine c_seq <| c_reg <| s_alloc fun b2 => s_nil <| q_then <| c_seq <| c_reg <| s_y y_mv <| s_y (y_bval (cs := [I 3, I 0, .string .empty, .slice a m c])) <| s_sta (b := b2) (vs := #[I 3, I 0, .string .empty, .slice a m c]) (cs := #[I 0, I 0, .string .empty, .slice none 0 0]) (h1 := by intro u hu; simp at hu; rcases hu with rfl | rfl | rfl | rfl <;> rfl) (hl := rfl) (hs1 := rfl) ?_
  refine s_nil <| q_then <| c_ret <| ?_
  exact ret1 Tryz.results181 (rv_ca (b := b2) (cs := #[I 3, I 0, .string .empty, .slice a m c]) (hl := rfl)) fun w' hw => ⟨rfl, hw.sub (List.nil_sublist _)⟩
theorem Formed_A (w : World) (i : It) (a : Option Addr) (c : Nat) (hc : i.cm.length = 32) (hp : i.pd.length = 32) (hn : numB i.fo i.dv i.ct i.kd = false) : Pure Tryz.prog 58 [itV i (.slice a i.bd.length c)] w (.bool i.vld) := by
  have hbd := lnV_bd i.sz
  refine enter Tryz.func58 Tryz.ntmps58 ?_
  refine c_seq <| c_reg <| s_box rfl fun b1 => s_y y_as <| s_nil <| q_then <| c_seq <| c_reg <| s_y y_fa <| s_y (y_ld (b := b1) (v := I i.sz) (hv := it_sz hc)) <| s_pure (fun w' hw => ref28_Length_ok w' i.sz) <| s_y y_mv <| s_y y_ext <| s_y y_ext <| s_y y_as <| s_y y_as <| s_nil <| q_then <| c_seq <| c_reg <| s_y y_fa <| s_y (y_ld (b := b1) (v := I i.fo) (hv := it_fo)) <| s_y y_fa <| s_y (y_ld (b := b1) (v := I i.dv) (hv := it_dv hc)) <| s_y y_fa <| s_y (y_ld (b := b1) (v := I i.ct) (hv := it_ct hc)) <| s_y y_fa <| s_y (y_ld (b := b1) (v := I i.kd) (hv := it_kd hc)) <| s_pure (fun w' hw => (by have h9 := r_numbers_ok w' i.fo i.dv i.ct i.kd; rw [hn] at h9; exact h9)) <| s_y y_mv <| s_no <| s_no <| s_y y_pk <| s_y y_mv <| s_no <| s_no <| s_no <| s_no <| s_y y_pk <| s_y y_mv <| s_no <| s_no <| s_no <| s_no <| s_no <| s_no <| s_y y_pk <| s_y y_as <| s_nil <| q_then <| c_ret <| ?_
  exact ret1 Tryz.results58 rv_t fun w' hw => ⟨by rw [It.vld, hn, Bool.false_and], hw.sub (List.nil_sublist _)⟩
theorem Formed_B (w : World) (i : It) (a : Option Addr) (c : Nat) (hc : i.cm.length = 32) (hp : i.pd.length = 32) (hn : numB i.fo i.dv i.ct i.kd = true) (hl : ¬ lnE i.sz = 0) : Pure Tryz.prog 58 [itV i (.slice a i.bd.length c)] w (.bool i.vld) := by
  have hbd := lnV_bd i.sz
  refine enter Tryz.func58 Tryz.ntmps58 ?_
  refine c_seq <| c_reg <| s_box rfl fun b1 => s_y y_as <| s_nil <| q_then <| c_seq <| c_reg <| s_y y_fa <| s_y (y_ld (b := b1) (v := I i.sz) (hv := it_sz hc)) <| s_pure (fun w' hw => ref28_Length_ok w' i.sz) <| s_y y_mv <| s_y y_ext <| s_y y_ext <| s_y y_as <| s_y y_as <| s_nil <| q_then <| c_seq <| c_reg <| s_y y_fa <| s_y (y_ld (b := b1) (v := I i.fo) (hv := it_fo)) <| s_y y_fa <| s_y (y_ld (b := b1) (v := I i.dv) (hv := it_dv hc)) <| s_y y_fa <| s_y (y_ld (b := b1) (v := I i.ct) (hv := it_ct hc)) <| s_y y_fa <| s_y (y_ld (b := b1) (v := I i.kd) (hv := it_kd hc)) <| s_pure (fun w' hw => (by have h9 := r_numbers_ok w' i.fo i.dv i.ct i.kd; rw [hn] at h9; exact h9)) <| s_y y_mv <| s_y y_mv <| s_kf (y_eql (p := lnE i.sz) (q := 0)) hl <| s_y y_pk <| s_y y_mv <| s_no <| s_no <| s_no <| s_no <| s_y y_pk <| s_y y_mv <| s_no <| s_no <| s_no <| s_no <| s_no <| s_no <| s_y y_pk <| s_y y_as <| s_nil <| q_then <| c_ret <| ?_
  exact ret1 Tryz.results58 rv_t fun w' hw => ⟨by rw [It.vld, hn, decide_eq_false hl, Bool.false_and]; rfl, hw.sub (List.nil_sublist _)⟩
theorem Formed_C (w : World) (i : It) (a : Option Addr) (c : Nat) (hc : i.cm.length = 32) (hp : i.pd.length = 32) (hn : numB i.fo i.dv i.ct i.kd = true) (hl : lnE i.sz = 0) (hk : ¬ ckE i.cA i.cB = 0) : Pure Tryz.prog 58 [itV i (.slice a i.bd.length c)] w (.bool i.vld) := by
  have hbd := lnV_bd i.sz
  refine enter Tryz.func58 Tryz.ntmps58 ?_
  refine c_seq <| c_reg <| s_box rfl fun b1 => s_y y_as <| s_nil <| q_then <| c_seq <| c_reg <| s_y y_fa <| s_y (y_ld (b := b1) (v := I i.sz) (hv := it_sz hc)) <| s_pure (fun w' hw => ref28_Length_ok w' i.sz) <| s_y y_mv <| s_y y_ext <| s_y y_ext <| s_y y_as <| s_y y_as <| s_nil <| q_then <| c_seq <| c_reg <| s_y y_fa <| s_y (y_ld (b := b1) (v := I i.fo) (hv := it_fo)) <| s_y y_fa <| s_y (y_ld (b := b1) (v := I i.dv) (hv := it_dv hc)) <| s_y y_fa <| s_y (y_ld (b := b1) (v := I i.ct) (hv := it_ct hc)) <| s_y y_fa <| s_y (y_ld (b := b1) (v := I i.kd) (hv := it_kd hc)) <| s_pure (fun w' hw => (by have h9 := r_numbers_ok w' i.fo i.dv i.ct i.kd; rw [hn] at h9; exact h9)) <| s_y y_mv <| s_y y_mv <| s_kt (y_eql (p := lnE i.sz) (q := 0)) hl <| s_y y_pk <| s_y y_mv <| s_y y_fa <| s_y (y_ldin (b := b1) (off := 37) (cs := (itC i (.slice a i.bd.length c)).toArray) (ys := (I i.cA :: I i.cB :: bs i.pd)) (hl := (by simp [bs_length, hp])) (hv := it_cap hc)) <| s_pure (fun w' hw => r11_Check_ok w' i.cA i.cB i.pd hp) <| s_kf (y_eql (p := ckE i.cA i.cB) (q := 0)) hk <| s_y y_pk <| s_y y_mv <| s_no <| s_no <| s_no <| s_no <| s_no <| s_no <| s_y y_pk <| s_y y_as <| s_nil <| q_then <| c_ret <| ?_
  exact ret1 Tryz.results58 rv_t fun w' hw => ⟨by rw [It.vld, hn, decide_eq_true hl, decide_eq_false hk, Bool.false_and]; rfl, hw.sub (List.nil_sublist _)⟩
theorem Formed_D (w : World) (i : It) (a : Option Addr) (c : Nat) (hc : i.cm.length = 32) (hp : i.pd.length = 32) (hn : numB i.fo i.dv i.ct i.kd = true) (hl : lnE i.sz = 0) (hk : ckE i.cA i.cB = 0) (hb : i.bd.length ≤ 70000) : Pure Tryz.prog 58 [itV i (.slice a i.bd.length c)] w (.bool i.vld) := by
  have hbd := lnV_bd i.sz
  refine enter Tryz.func58 Tryz.ntmps58 ?_
  refine c_seq <| c_reg <| s_box rfl fun b1 => s_y y_as <| s_nil <| q_then <| c_seq <| c_reg <| s_y y_fa <| s_y (y_ld (b := b1) (v := I i.sz) (hv := it_sz hc)) <| s_pure (fun w' hw => ref28_Length_ok w' i.sz) <| s_y y_mv <| s_y y_ext <| s_y y_ext <| s_y y_as <| s_y y_as <| s_nil <| q_then <| c_seq <| c_reg <| s_y y_fa <| s_y (y_ld (b := b1) (v := I i.fo) (hv := it_fo)) <| s_y y_fa <| s_y (y_ld (b := b1) (v := I i.dv) (hv := it_dv hc)) <| s_y y_fa <| s_y (y_ld (b := b1) (v := I i.ct) (hv := it_ct hc)) <| s_y y_fa <| s_y (y_ld (b := b1) (v := I i.kd) (hv := it_kd hc)) <| s_pure (fun w' hw => (by have h9 := r_numbers_ok w' i.fo i.dv i.ct i.kd; rw [hn] at h9; exact h9)) <| s_y y_mv <| s_y y_mv <| s_kt (y_eql (p := lnE i.sz) (q := 0)) hl <| s_y y_pk <| s_y y_mv <| s_y y_fa <| s_y (y_ldin (b := b1) (off := 37) (cs := (itC i (.slice a i.bd.length c)).toArray) (ys := (I i.cA :: I i.cB :: bs i.pd)) (hl := (by simp [bs_length, hp])) (hv := it_cap hc)) <| s_pure (fun w' hw => r11_Check_ok w' i.cA i.cB i.pd hp) <| s_kt (y_eql (p := ckE i.cA i.cB) (q := 0)) hk <| s_y y_pk <| s_y y_mv <| s_y y_fa <| s_y (y_ld (b := b1) (v := .slice a i.bd.length c) (hv := it_bd hc hp)) <| s_y y_len <| s_y y_mv <| s_y (y_add (p := lnV i.sz) (q := 16)) <| s_y (y_eql (p := i.bd.length) (q := (lnV i.sz) + 16)) <| s_y y_pk <| s_y y_as <| s_nil <| q_then <| c_ret <| ?_
  exact ret1 Tryz.results58 rv_t fun w' hw => ⟨by rw [It.vld, hn, decide_eq_true hl, decide_eq_true hk]; rfl, hw.sub (List.nil_sublist _)⟩
theorem Formed_ok (w : World) (i : It) (a : Option Addr) (c : Nat) (hc : i.cm.length = 32) (hp : i.pd.length = 32) (hb : i.bd.length ≤ 70000) : Pure Tryz.prog 58 [itV i (.slice a i.bd.length c)] w (.bool i.vld) := by
  cases hn : numB i.fo i.dv i.ct i.kd with
  | false => exact Formed_A w i a c hc hp hn
  | true =>
    by_cases hl : lnE i.sz = 0
    · by_cases hk : ckE i.cA i.cB = 0
      · exact Formed_D w i a c hc hp hn hl hk hb
      · exact Formed_C w i a c hc hp hn hl hk
    · exact Formed_B w i a c hc hp hn hl
theorem r_fields_ok (w : World) (i : It) (a : Option Addr) (c : Nat) (hc : i.cm.length = 32) (hp : i.pd.length = 32) : Gives Tryz.prog 122 [itV i (.slice a i.bd.length c)] w [] (fun y : Option Addr × Nat => .agg #[I 3, I 0, .string (sb []), .slice y.1 9 y.2]) (fun y => [.row y.1 y.2 76 4 9 (fcells i.hl)]) (fun _ => True) := by
  refine enter Tryz.func122 Tryz.ntmps122 ?_
  refine c_seq <| c_reg <| s_box rfl fun b1 => s_alloc fun b2 => s_nil <| q_then <| c_seq <| c_regL [.blk b1 (.cells (itC i (.slice a i.bd.length c)).toArray 36 (0, 0))] <| r_y 0 rfl y_fa <| r_y 1 rfl (y_ld (b := b1) (v := I i.fo) (hv := it_fo)) <| r_y 3 rfl y_fa <| r_y 4 rfl (y_ld (b := b1) (v := I i.dv) (hv := it_dv hc)) <| r_y 6 rfl y_fa <| r_y 7 rfl (y_ld (b := b1) (v := I i.ct) (hv := it_ct hc)) <| r_y 9 rfl y_fa <| r_y 10 rfl (y_ld (b := b1) (v := I i.kd) (hv := it_kd hc)) <| r_y 12 rfl y_fa <| r_y 13 rfl (y_ld (b := b1) (v := I i.sz) (hv := it_sz hc)) <| r_y 15 rfl y_fa <| r_y 16 rfl y_sla <| r_y 17 rfl (y_b2s (q := i.cm) (hr := rdB (by repeat (first | exact .head _ | apply List.Mem.tail)) (it_cm)) (hm := hc)) <| r_y 19 rfl y_fa <| r_y 20 rfl y_fa <| r_y 21 rfl (y_ld (b := b1) (v := I i.cA) (hv := it_cA hc)) <| r_y 23 rfl y_fa <| r_y 24 rfl y_fa <| r_y 25 rfl (y_ld (b := b1) (v := I i.cB) (hv := it_cB hc)) <| r_y 27 rfl y_fa <| r_y 28 rfl y_fa <| r_y 29 rfl y_sla <| r_y 30 rfl (y_b2s (q := i.pd) (hr := rdB (by repeat (first | exact .head _ | apply List.Mem.tail)) (it_pd hc)) (hm := hp)) <| r_W 2 rfl <| s_pure (fun w' hw => r1_Int_ok w' i.fo) <| r_K <| r_W 5 rfl <| s_pure (fun w' hw => r1_Int_ok w' i.dv) <| r_K <| r_W 8 rfl <| s_pure (fun w' hw => r1_Int_ok w' i.ct) <| r_K <| r_W 11 rfl <| s_pure (fun w' hw => r1_Int_ok w' i.kd) <| r_K <| r_W 14 rfl <| s_pure (fun w' hw => r1_Int_ok w' i.sz) <| r_K <| r_W 18 rfl <| s_pure (fun w' hw => r1_Text_ok w' i.cm) <| r_K <| r_W 22 rfl <| s_pure (fun w' hw => r1_Int_ok w' i.cA) <| r_K <| r_W 26 rfl <| s_pure (fun w' hw => r1_Int_ok w' i.cB) <| r_K <| r_W 31 rfl <| s_pure (fun w' hw => r1_Text_ok w' i.pd) <| r_K <| r_W 32 rfl <| s_bslr (cs := fcells i.hl) (hf := by kernel_rfl) fun b35 => r_K <| r_W 33 rfl <| s_pure (fun w' hw => r1_List_ok w' (some ⟨b35, 0, none⟩) 9 9) <| r_K <| r_W 34 rfl <| s_sta (b := b2) (vs := #[I 3, I 0, .string (sb []), .slice (some ⟨b35, 0, none⟩) 9 9]) (cs := #[I 0, I 0, .string .empty, .slice none 0 0]) (h1 := by intro u hu; simp at hu; rcases hu with rfl | rfl | rfl | rfl <;> rfl) (hl := rfl) (hs1 := rfl) ?_
  refine r_K <| r_E <| q_then <| c_ret <| ?_
  exact ret1 Tryz.results122 (rv_ca (b := b2) (cs := #[I 3, I 0, .string (sb []), .slice (some ⟨b35, 0, none⟩) 9 9]) (hl := rfl)) fun w' hw => ⟨(some ⟨b35, 0, none⟩, 9), trivial, rfl, hw.sub (.cons_cons _ (List.nil_sublist _))⟩
theorem r_enc_ok (w : World) (i : It) (a : Option Addr) (c : Nat) (h : i.Wf) (hr : Rd w a (bs i.bd)) (hb : i.bd.length ≤ 70000) : GivesB Tryz.prog 67 [itV i (.slice a i.bd.length c)] w i.all := by
  obtain ⟨hc, hp⟩ : i.cm.length = 32 ∧ i.pd.length = 32 := ⟨h.cm, h.pd⟩
  have hhl := head_len h
  refine enter Tryz.func67 Tryz.ntmps67 ?_
  refine c_seq <| c_reg <| s_box rfl fun b1 => s_y y_as <| s_nil <| q_then <| c_seq <| c_reg <| s_y (y_lda (b := b1) (cs := (itC i (.slice a i.bd.length c)).toArray) (hl := it_size hc hp)) <| s_gives (fun w' hw => r_fields_ok w' i a c hc hp) fun x7 _ => s_alloc fun b3 => s_sta (b := b3) (vs := #[I 3, I 0, .string (sb []), .slice x7.1 9 x7.2]) (cs := #[I 0, I 0, .string .empty, .slice none 0 0]) (h1 := by intro u hu; simp at hu; rcases hu with rfl | rfl | rfl | rfl <;> rfl) (hl := rfl) (hs1 := rfl) ?_
  refine s_nil <| q_then <| c_seq <| c_regG [.blk b3 (.cells #[I 3, I 0, .string (sb []), .slice x7.1 9 x7.2] 76 (0, 0)), .blk b1 (.cells (itC i (.slice a i.bd.length c)).toArray 36 (0, 0))] (.cons_cons _ (.cons _ (.cons_cons _ (List.nil_sublist _)))) 17 <| f_y 0 rfl y_fa <| f_y 1 rfl (y_ld (b := b3) (v := .slice x7.1 9 x7.2)) <| f_y 2 rfl y_fa <| f_y 3 rfl (y_ld (b := b1) (v := .slice a i.bd.length c) (hv := it_bd hc hp)) <| f_y 4 rfl (y_b2s (q := i.bd) (hr := rdW0 hr)) <| f_y 6 rfl y_fa <| f_y 7 rfl y_fa <| f_y 8 rfl (y_ld (b := b1) (v := I i.sR) (hv := it_sR hc hp)) <| f_y 10 rfl y_fa <| f_y 11 rfl y_fa <| f_y 12 rfl (y_ld (b := b1) (v := I i.sS) (hv := it_sS hc hp)) <| f_w 5 rfl (hsub := by repeat (first | exact List.nil_sublist _ | exact List.Sublist.refl _ | apply List.Sublist.cons_cons | apply List.Sublist.cons)) <| s_pure (fun w' hw => r1_Text_ok w' i.bd) <| f_kk <| f_w 9 rfl (hsub := by repeat (first | exact List.nil_sublist _ | exact List.Sublist.refl _ | apply List.Sublist.cons_cons | apply List.Sublist.cons)) <| s_pure (fun w' hw => r1_Int_ok w' i.sR) <| f_kk <| f_w 13 rfl (hsub := by repeat (first | exact List.nil_sublist _ | exact List.Sublist.refl _ | apply List.Sublist.cons_cons | apply List.Sublist.cons)) <| s_pure (fun w' hw => r1_Int_ok w' i.sS) <| f_kk <| f_w 14 rfl (hsub := by repeat (first | exact List.nil_sublist _ | exact List.Sublist.refl _ | apply List.Sublist.cons_cons | apply List.Sublist.cons)) <| s_bslr (cs := fcells [vT i.bd, vI i.sR, vI i.sS]) (hf := by kernel_rfl) fun b22 => f_kk <| f_w 15 rfl (hsub := by repeat (first | exact List.nil_sublist _ | exact List.Sublist.refl _ | apply List.Sublist.cons_cons | apply List.Sublist.cons)) <| s_app (m := 3) (fun w' hw => Src.slice (rdR (.head _) w' hw) rfl) (h1 := fcells_one1 _) (hm := .tail _ (.tail _ (.head _))) (hrep := fun _ _ => .tail _ (.tail _ (.head _))) fun a23 c23 h23 => ?_
  rw [show fcells i.hl ++ fcells [vT i.bd, vI i.sR, vI i.sS] = fcells i.al by rw [← fcells_append]; rfl]
  refine f_kk <| f_y 16 rfl y_fa <| f_w 17 rfl (hsub := by repeat (first | exact List.nil_sublist _ | exact List.Sublist.refl _ | apply List.Sublist.cons_cons | apply List.Sublist.cons)) <| s_st (b := b3) (v := .slice a23 (9 + 3) c23) (cs := #[I 3, I 0, .string (sb []), .slice x7.1 9 x7.2]) (hl := by simp) ?_
  refine f_z <| q_then <| c_seq <| c_reg <| s_y (y_lda (b := b3) (cs := #[I 3, I 0, .string (sb []), .slice a23 (9 + 3) c23]) (hl := rfl)) <| s_gives (fun w' hw => ref01_Encode_ok w' (vL i.al) (.agg #[I 3, I 0, .string (sb []), .slice a23 (9 + 3) c23]) (vL_vv (rdR (.tail _ (.tail _ (.head _))) w' hw) (al_flat h hb) (show ((9 + 3) : Nat) < 1152921504606846976 by decide)) (by rw [vL_dep (al_k i)]; decide) (Nat.le_trans (all_len h hb) (by decide))) fun x27 _ => ?_
  rw [vL_encd (al_k i), vL_chk (al_k i), show (vL i.al).enc = i.all from rfl]
  refine s_y y_mv <| s_y y_ext <| s_y y_ext <| s_y y_as <| s_y y_as <| s_nil <| q_then <| c_seq <| c_reg <| s_y y_mv <| s_y y_as <| s_nil <| q_then <| c_ret <| ?_
  exact ret1 Tryz.results67 rv_t fun w' hw => ⟨x27, trivial, rfl, hw.sub (.cons_cons _ (List.nil_sublist _))⟩
theorem r_Encode_n (w : World) (i : It) (a : Option Addr) (c : Nat) (h : i.Wf) (hr : Rd w a (bs i.bd)) (hb : i.bd.length ≤ 70000) (hv : i.vld = false) : Gives Tryz.prog 24 [itV i (.slice a i.bd.length c)] w [] (fun x : Option Addr × Nat => .tuple #[.slice x.1 ([] : List UInt8).length x.2, I 290]) (fun x => [.row x.1 x.2 5 1 ([] : List UInt8).length (bs ([] : List UInt8))]) (fun _ => True) := by
  obtain ⟨hc, hp⟩ : i.cm.length = 32 ∧ i.pd.length = 32 := ⟨h.cm, h.pd⟩
  have hhl := head_len h
  refine enter Tryz.func24 Tryz.ntmps24 ?_
  refine c_seq <| c_reg <| s_box rfl fun b1 => s_y y_as <| s_y y_as <| s_nil <| q_then <| c_seq <| c_seq <| c_reg <| s_y (y_lda (b := b1) (cs := (itC i (.slice a i.bd.length c)).toArray) (hl := it_size hc hp)) <| s_pure (fun w' hw => (by have h9 := Formed_ok w' i a c hc hp hb; rw [hv] at h9; exact h9)) <| s_y (v := .bool true) (y_not (b := false)) <| s_nil <| q_then <| c_t <| c_seq <| c_reg <| s_y y_as <| s_y y_as <| s_nil <| q_then <| c_ret <| q_ret <| ?_
  exact ret2 Tryz.results24 rv_t rv_t fun w' hw => ⟨(none, 0), trivial, rfl, (hw.nilRow _ _).sub (.cons_cons _ (List.nil_sublist _))⟩
theorem r_Encode_y (w : World) (i : It) (a : Option Addr) (c : Nat) (h : i.Wf) (hr : Rd w a (bs i.bd)) (hb : i.bd.length ≤ 70000) (hv : i.vld = true) : Gives Tryz.prog 24 [itV i (.slice a i.bd.length c)] w [] (fun x : Option Addr × Nat => .tuple #[.slice x.1 i.all.length x.2, I 0]) (fun x => [.row x.1 x.2 5 1 i.all.length (bs i.all)]) (fun _ => True) := by
  obtain ⟨hc, hp⟩ : i.cm.length = 32 ∧ i.pd.length = 32 := ⟨h.cm, h.pd⟩
  have hhl := head_len h
  refine enter Tryz.func24 Tryz.ntmps24 ?_
  refine c_seq <| c_reg <| s_box rfl fun b1 => s_y y_as <| s_y y_as <| s_nil <| q_then <| c_seq <| c_seq <| c_reg <| s_y (y_lda (b := b1) (cs := (itC i (.slice a i.bd.length c)).toArray) (hl := it_size hc hp)) <| s_pure (fun w' hw => (by have h9 := Formed_ok w' i a c hc hp hb; rw [hv] at h9; exact h9)) <| s_y (v := .bool false) (y_not (b := true)) <| s_nil <| q_then <| c_f <| c_skip <| q_then <| c_seq <| c_reg <| s_y (y_lda (b := b1) (cs := (itC i (.slice a i.bd.length c)).toArray) (hl := it_size hc hp)) <| s_gives (fun w' hw => r_enc_ok w' i a c h (hr.st hw) hb) fun x8 _ => s_y y_as <| s_y y_as <| s_nil <| q_then <| c_ret <| ?_
  exact ret2 Tryz.results24 rv_t rv_t fun w' hw => ⟨x8, trivial, rfl, hw.sub (.cons_cons _ (List.nil_sublist _))⟩
theorem r_Encode_ok (w : World) (i : It) (a : Option Addr) (c : Nat) (h : i.Wf) (hr : Rd w a (bs i.bd)) (hb : i.bd.length ≤ 70000) : Gives Tryz.prog 24 [itV i (.slice a i.bd.length c)] w [] (fun x : Option Addr × Nat => .tuple #[.slice x.1 i.encB.length x.2, I i.encE]) (fun x => [.row x.1 x.2 5 1 i.encB.length (bs i.encB)]) (fun _ => True) := by
  unfold It.encB It.encE
  cases hv : i.vld with
  | false => exact r_Encode_n w i a c h hr hb hv
  | true => exact r_Encode_y w i a c h hr hb hv
theorem r_ID_ok (w : World) (i : It) (a : Option Addr) (c : Nat) (h : i.Wf) (hr : Rd w a (bs i.bd)) (hb : i.bd.length ≤ 70000) : Pure Tryz.prog 26 [itV i (.slice a i.bd.length c)] w (.agg (bs (tagged lbItem i.encB)).toArray) := by
  obtain ⟨hc, hp⟩ : i.cm.length = 32 ∧ i.pd.length = 32 := ⟨h.cm, h.pd⟩
  have hhl := head_len h
  have hel := encB_len h hb
  refine enter Tryz.func26 Tryz.ntmps26 ?_
  refine c_seq <| c_reg <| s_box rfl fun b1 => s_alloc fun b2 => s_nil <| q_then <| c_seq <| c_reg <| s_y (y_lda (b := b1) (cs := (itC i (.slice a i.bd.length c)).toArray) (hl := it_size hc hp)) <| s_gives (fun w' hw => r_Encode_ok w' i a c h (hr.st hw) hb) fun x7 _ => s_y y_mv <| s_y y_ext <| s_y y_ext <| s_y y_as <| s_y y_as <| s_nil <| q_then <| c_seq <| c_reg <| s_y y_mv <| s_pure (fun w' hw => ref02_Tagged_ok w' lbItem x7.1 x7.2 i.encB (by decide) (rdR (.head _) w' hw) (by omega)) <| s_sta (b := b2) (vs := (bs (tagged lbItem i.encB)).toArray) (cs := (bs (List.replicate 32 0)).toArray) (h1 := fun v hv => bs_one (by simpa using hv)) (hl := ((hz32 (tagged_length _ _))).trans ((hz32 List.length_replicate)).symm) (hs1 := (hz32 (tagged_length _ _))) ?_
  refine s_nil <| q_then <| c_ret <| ?_
  exact ret1 Tryz.results26 (rv_ca (b := b2) (cs := (bs (tagged lbItem i.encB)).toArray) (hl := (hz32 (tagged_length _ _)))) fun w' hw => ⟨rfl, hw.sub (List.nil_sublist _)⟩
theorem r_Few_ok (w : World) (i : It) (a : Option Addr) (c : Nat) (hc : i.cm.length = 32) (hp : i.pd.length = 32) : Pure Tryz.prog 16 [itV i (.slice a i.bd.length c)] w (.bool (decide ((i.bd.length : Int) ≤ 1200))) := by
  refine enter Tryz.func16 Tryz.ntmps16 ?_
  refine c_seq <| c_reg <| s_box rfl fun b1 => s_y y_as <| s_nil <| q_then <| c_seq <| c_reg <| s_y y_fa <| s_y (y_ld (b := b1) (v := .slice a i.bd.length c) (hv := it_bd hc hp)) <| s_y y_len <| s_y (y_leq (p := i.bd.length) (q := 1200)) <| s_y y_as <| s_nil <| q_then <| c_ret <| ?_
  exact ret1 Tryz.results16 rv_t fun w' hw => ⟨rfl, hw.sub (List.nil_sublist _)⟩
end Go.Proofs.YtejdjnkilikehaaGreatDoor
end
section
namespace Itm
open Go Eng Cod Gf Sha Cha Sig Wr Go.Proofs.YtejdjnkilikehaaGreatDoor
end Itm
namespace Go.Proofs.YtejdjnkilikehaaGreatDoor
open Go Eng Gf Sha Sig Wr Cod Cha Itm
set_option maxRecDepth 100000
theorem r_Same_ok (w : World) (i : It) (a a' : Option Addr) (c c' : Nat) (hc : i.cm.length = 32) (hp : i.pd.length = 32) (hr : Rd w a (bs i.bd)) (hr' : Rd w a' (bs i.bd)) : Pure Tryz.prog 15 [itV i (.slice a i.bd.length c), itV i (.slice a' i.bd.length c')] w (.bool true) := by
  refine enter Tryz.func15 Tryz.ntmps15 ?_
  refine c_seq <| c_reg <| s_box rfl fun b2 => s_box rfl fun b3 => s_y y_as <| s_nil <| q_then <| c_seq <| c_reg <| s_y y_fa <| s_y (y_ld (b := b2) (v := I i.fo) (hv := it_fo)) <| s_y y_fa <| s_y (y_ld (b := b3) (v := I i.fo) (hv := it_fo)) <| s_kt (y_eql (p := i.fo) (q := i.fo)) (by trivial) <| s_y y_mv <| s_y y_fa <| s_y (y_ldin (b := b2) (off := 1) (cs := (itC i (.slice a i.bd.length c)).toArray) (ys := bs i.cm) (hl := (by rw [bs_length, hc])) (hv := it_cm)) <| s_y y_fa <| s_y (y_ldin (b := b3) (off := 1) (cs := (itC i (.slice a' i.bd.length c')).toArray) (ys := bs i.cm) (hl := (by rw [bs_length, hc])) (hv := it_cm)) <| s_kt (y_eqla (p := i.cm) (q := i.cm) hc hc hgd) rfl <| s_y y_pk <| s_y y_mv <| s_y y_fa <| s_y (y_ld (b := b2) (v := I i.dv) (hv := it_dv hc)) <| s_y y_fa <| s_y (y_ld (b := b3) (v := I i.dv) (hv := it_dv hc)) <| s_kt (y_eql (p := i.dv) (q := i.dv)) (by trivial) <| s_y y_pk <| s_y y_mv <| s_y y_fa <| s_y (y_ld (b := b2) (v := I i.ct) (hv := it_ct hc)) <| s_y y_fa <| s_y (y_ld (b := b3) (v := I i.ct) (hv := it_ct hc)) <| s_kt (y_eql (p := i.ct) (q := i.ct)) (by trivial) <| s_y y_pk <| s_y y_mv <| s_y y_fa <| s_y (y_ld (b := b2) (v := I i.kd) (hv := it_kd hc)) <| s_y y_fa <| s_y (y_ld (b := b3) (v := I i.kd) (hv := it_kd hc)) <| s_kt (y_eql (p := i.kd) (q := i.kd)) (by trivial) <| s_y y_pk <| s_y y_mv <| s_y y_fa <| s_y (y_ld (b := b2) (v := I i.sz) (hv := it_sz hc)) <| s_y y_fa <| s_y (y_ld (b := b3) (v := I i.sz) (hv := it_sz hc)) <| s_kt (y_eql (p := i.sz) (q := i.sz)) (by trivial) <| s_y y_pk <| s_y y_mv <| s_y y_fa <| s_y (y_ldin (b := b2) (off := 37) (cs := (itC i (.slice a i.bd.length c)).toArray) (ys := (I i.cA :: I i.cB :: bs i.pd)) (hl := (by simp [bs_length, hp])) (hv := it_cap hc)) <| s_y y_fa <| s_y (y_ldin (b := b3) (off := 37) (cs := (itC i (.slice a' i.bd.length c')).toArray) (ys := (I i.cA :: I i.cB :: bs i.pd)) (hl := (by simp [bs_length, hp])) (hv := it_cap hc)) <| s_y (y_eqlCap hp) <| s_y y_pk <| s_y y_mv <| s_y y_fa <| s_y (y_ld (b := b2) (v := .slice a i.bd.length c) (hv := it_bd hc hp)) <| s_y (y_b2s (q := i.bd) (hr := rdW0 hr)) <| s_y y_fa <| s_y (y_ld (b := b3) (v := .slice a' i.bd.length c') (hv := it_bd hc hp)) <| s_y (y_b2s (q := i.bd) (hr := rdW0 hr')) <| s_kt (y_eqls (a := sb i.bd) (b := sb i.bd)) (by trivial) <| s_y y_pk <| s_y y_mv <| s_y y_fa <| s_y (y_ldin (b := b2) (off := 72) (cs := (itC i (.slice a i.bd.length c)).toArray) (ys := [I i.sR, I i.sS]) (hl := rfl) (hv := it_sig hc hp)) <| s_y y_fa <| s_y (y_ldin (b := b3) (off := 72) (cs := (itC i (.slice a' i.bd.length c')).toArray) (ys := [I i.sR, I i.sS]) (hl := rfl) (hv := it_sig hc hp)) <| s_y y_eqlSig <| s_y y_pk <| s_y y_as <| s_nil <| q_then <| c_ret <| ?_
  exact ret1 Tryz.results15 rv_t fun w' hw => ⟨rfl, hw.sub (List.nil_sublist _)⟩
end Go.Proofs.YtejdjnkilikehaaGreatDoor
end
section
namespace Itm
open Go Eng Cod Gf Sha Cha Sig Wr Go.Proofs.YtejdjnkilikehaaGreatDoor
def dg (s : List UInt8) (k : Nat) : List UInt8 := s.take k ++ List.replicate (32 - k) 0
theorem dg_set {s : List UInt8} {k : Nat} (hk : k < s.length) (h32 : k < 32) : (bs (dg s k)).set k (B (s.getD k 0)) = bs (dg s (k + 1)) := by
  unfold dg
  have hl : (s.take k).length = k := by rw [List.length_take]; omega
  have e1 : (B (s.getD k 0)) = B s[k] := by rw [List.getD_eq_getElem?_getD, List.getElem?_eq_getElem hk]; rfl
  rw [bs_append, List.set_append_right k _ (by rw [bs_length, hl]; exact Nat.le_refl _), bs_length, hl, Nat.sub_self, List.take_succ_eq_append_getElem hk, bs_append, bs_append, List.append_assoc, e1]
  congr 1
  obtain ⟨m, hm⟩ : ∃ m, 32 - k = m + 1 := ⟨31 - k, by omega⟩
  rw [hm, show 32 - (k + 1) = m by omega, List.replicate_succ]
  rfl
theorem dg_dig {s : List UInt8} {k : Nat} (h : k = s.length ∧ k ≤ 32 ∨ k = 32 ∧ k ≤ s.length) : dg s k = dig s := by
  unfold dg dig
  rcases h with ⟨rfl, h⟩ | ⟨rfl, h⟩
  · rw [List.take_of_length_le (Nat.le_refl _), List.take_of_length_le h]
  · rw [show 32 - 32 = 0 from rfl, show 32 - s.length = 0 by omega]
theorem sb_data {s : List UInt8} {k : Nat} (h : k < s.length) : (sb s).data[k]? = some (s.getD k 0) := by
  show s.toArray[k]? = _
  rw [List.getElem?_toArray, List.getElem?_eq_getElem h, List.getD_eq_getElem?_getD, List.getElem?_eq_getElem h]; rfl
theorem dg_length {s : List UInt8} {k : Nat} (h : k ≤ s.length) (h2 : k ≤ 32) : (dg s k).length = 32 := by unfold dg; rw [List.length_append, List.length_take, List.length_replicate]; omega
theorem fill9 (f d c k z a b r s : Int) {cm p q : List UInt8} (ad : Option Addr) (m cc : Nat) (hcm : cm.length = 32) (hp : p.length = 32) : fillL (fun k => itPl[k]?) (itC it0 (.slice none 0 0)) [(0, I f), (2, I d), (3, I c), (4, I k), (5, I z), (1, .agg (bs cm).toArray), (6, .agg (I a :: I b :: bs p).toArray), (7, .slice ad m cc), (8, .agg #[I r, I s])] = some (itC ⟨f, cm, d, c, k, z, a, b, p, q, r, s⟩ (.slice ad m cc)) :=
  (fI0 rfl rfl f).trans <| (fI2 rfl rfl d).trans <| (fI3 rfl rfl c).trans <| (fI4 rfl rfl k).trans <| (fI5 rfl rfl z).trans <| (fI1 rfl rfl hcm).trans <| (fI6 hcm rfl a b hp).trans <| (fI7 hcm hp q ad m cc).trans <| (fI8 hcm hp r s).trans rfl
end Itm
namespace Go.Proofs.YtejdjnkilikehaaGreatDoor
open Go Eng Gf Sha Sig Wr Cod Cha Itm
set_option maxRecDepth 100000
theorem r_w3 {P : Program} {n : Nat} {D : List Deferred} {W : World} {Bo : List Nat} {F : List (Nat × Value)} {l lp : SH} {ops : Array Oper} {Q : Exit → Act → World → Prop} {fuel : Nat} {listed : Array Bool}
    {o o2 o3 : Oper} (i j k : Nat) (hi : ops[i]? = some o) (hj : ops[j]? = some o2) (hk : ops[k]? = some o3) (h : LP none P n D W Bo ops (QK P W Bo ops Q lp fuel (listed.setIfInBounds i true)) [o] F l)
    (h2 : LP none P n D W Bo ops (QK P W Bo ops Q lp fuel (listed.setIfInBounds j true)) [o2] F l) (h3 : LP none P n D W Bo ops (QK P W Bo ops Q lp fuel (listed.setIfInBounds k true)) [o3] F l)
    (hr : Region.ready .any ops listed = [i, j, k] := by kernel_rfl) (hsub : lp.Sublist l := by repeat (first | exact List.nil_sublist _ | exact List.Sublist.refl _ | apply List.Sublist.cons_cons | apply List.Sublist.cons)) :
    DC P n D W Bo ops Q lp (fuel + 1) listed F l := by
  intro hs a w ha hw
  unfold AnyC
  refine ⟨hw.sub hsub, fun h0 => absurd (hr ▸ h0) (by simp), fun m hm => ?_⟩
  rw [hr] at hm
  rcases List.mem_cons.1 hm with rfl | hm
  · exact r_op hi (h a w ha hw)
  rcases List.mem_cons.1 hm with rfl | hm
  · exact r_op hj (h2 a w ha hw)
  · rw [List.mem_singleton] at hm
    subst hm
    exact r_op hk (h3 a w ha hw)
theorem r_digest_ok (w : World) (s : List UInt8) (hl : s.length ≤ 100000) : Pure Tryz.prog 73 [.string (sb s)] w (.agg (bs (dig s)).toArray) := by
  refine enter Tryz.func73 Tryz.ntmps73 ?_
  refine c_seq <| c_reg <| s_allocC (cs := (bs (dg s 0)).toArray) (by show _ = (bs (s.take 0 ++ List.replicate 32 0)).toArray; rw [List.take_zero, List.nil_append]; kernel_rfl) fun b2 => s_nil <| q_then <| c_seq <| c_reg <| s_allocC (cs := (bs (dg s 0)).toArray) (by show _ = (bs (s.take 0 ++ List.replicate 32 0)).toArray; rw [List.take_zero, List.nil_append]; kernel_rfl) fun b3 => s_nil <| q_then <| c_seq <| c_seq <| c_reg <| s_y y_as <| s_nil <| q_then <| c_block <| ?_
  refine c_loop (σ := Nat) (fun k => [(0, .string (sb s)), (2, .pointer (some ⟨b2, 0, none⟩)), (3, .pointer (some ⟨b3, 0, none⟩)), (4, I k)]) (fun k => [.blk b3 (.cells (bs (dg s k)).toArray 23 (0, 0)), .blk b2 (.cells (bs (dg s 0)).toArray 23 (0, 0))]) (fun k => k ≤ s.length ∧ k ≤ 32) (fun k => 32 - k) 0 ⟨Nat.zero_le _, Nat.zero_le _⟩ ⟨rfl, rfl, rfl, rfl, trivial⟩ (.refl _) ?_
  rintro k ⟨h1, h2⟩
  refine c_seq <| c_seq <| c_reg <| s_y y_mv <| s_y y_mv <| s_y y_lens <| ?_
  rw [sb_size]
  by_cases h3 : k < s.length
  · by_cases h4 : k < 32
    · refine s_kt (y_lss (p := ((k : Nat) : Int)) (q := ((s.length : Nat) : Int))) (by omega) <| s_y y_mv <| s_y y_mv <| s_kt (y_lss (p := ((k : Nat) : Int)) (q := 32)) (by omega) <| s_y y_pk <| s_nil <| q_then <| c_t <| c_skip <| q_then <| c_seq <| c_block <| c_reg <| s_y y_mv <| s_y y_mv <| s_y y_mv <| s_y (y_ixst k (s := sb s) (b := s.getD k 0) (sb_data h3)) <| s_y (y_ixa1 (i := ((k : Nat) : Int))) <| s_st1 (b := b3) (off := 0 + k) (cs := bs (dg s k)) (cs' := bs (dg s (k + 1))) (v := B (s.getD k 0)) (hcs := by rw [Nat.zero_add]; exact dg_set h3 h4) (hl := by rw [bs_length, dg_length h1 h2]; omega) ?_
      refine s_nil <| q_nb <| q_then <| c_reg <| s_y y_mv <| s_y (y_add (p := ((k : Nat) : Int)) (q := 1)) <| s_y y_as <| s_nil <| ?_
      rw [show ((k : Nat) : Int) + 1 = ((k + 1 : Nat) : Int) by omega]
      exact q_round (k + 1) ⟨h3, h4⟩ (by show 32 - (k + 1) < 32 - k; omega) ⟨rfl, rfl, rfl, rfl, trivial⟩ (.refl _)
    · refine s_kt (y_lss (p := ((k : Nat) : Int)) (q := ((s.length : Nat) : Int))) (by omega) <| s_y y_mv <| s_y y_mv <| s_kf (y_lss (p := ((k : Nat) : Int)) (q := 32)) (by omega) <| s_y y_pk <| s_nil <| q_then <| ?_
      rw [dg_dig (s := s) (k := k) (.inr ⟨by omega, h1⟩)]
      refine c_f <| c_exit <| q_ex <| q_ex <| q_exb <| q_then <| c_seq <| c_reg <| s_y (y_lda (b := b3) (cs := (bs (dig s)).toArray) (hl := (hz32 (dig_length s)))) <| s_sta (b := b2) (vs := (bs (dig s)).toArray) (cs := (bs (dg s 0)).toArray) (h1 := fun v hv => bs_one (by simpa using hv)) (hl := (hz32 (dig_length s)).trans (hz32 (dg_length (Nat.zero_le _) (Nat.zero_le _))).symm) (hs1 := (hz32 (dig_length s))) ?_
      refine s_nil <| q_then <| c_ret <| ?_
      exact ret1 Tryz.results73 (rv_ca (b := b2) (cs := (bs (dig s)).toArray) (hl := (hz32 (dig_length s)))) fun w' hw => ⟨rfl, hw.sub (List.nil_sublist _)⟩
  · refine s_kf (y_lss (p := ((k : Nat) : Int)) (q := ((s.length : Nat) : Int))) (by omega) <| s_y y_mv <| s_no <| s_no <| s_y y_pk <| s_nil <| q_then <| ?_
    rw [dg_dig (s := s) (k := k) (.inl ⟨by omega, h2⟩)]
    refine c_f <| c_exit <| q_ex <| q_ex <| q_exb <| q_then <| c_seq <| c_reg <| s_y (y_lda (b := b3) (cs := (bs (dig s)).toArray) (hl := (hz32 (dig_length s)))) <| s_sta (b := b2) (vs := (bs (dig s)).toArray) (cs := (bs (dg s 0)).toArray) (h1 := fun v hv => bs_one (by simpa using hv)) (hl := (hz32 (dig_length s)).trans (hz32 (dg_length (Nat.zero_le _) (Nat.zero_le _))).symm) (hs1 := (hz32 (dig_length s))) ?_
    refine s_nil <| q_then <| c_ret <| ?_
    exact ret1 Tryz.results73 (rv_ca (b := b2) (cs := (bs (dig s)).toArray) (hl := (hz32 (dig_length s)))) fun w' hw => ⟨rfl, hw.sub (List.nil_sublist _)⟩
theorem r_Decode_n1 (w : World) (a : Option Addr) (c : Nat) (q : List UInt8) (hr : Rd w a (bs q)) (hc : q.length ≤ c) (hm : c ≤ 9223372036854775807) (hq : q.length ≤ 70000) (h : ∀ v, rdVal 16 q ≠ some (v, [])) :
    GivesI 28 [.slice a q.length c] w it0 10 := by
  refine enter Tryz.func28 Tryz.ntmps28 ?_
  refine c_seq <| c_reg <| s_allocC (cs := (itC it0 (.slice none 0 0)).toArray) (by kernel_rfl) fun b2 => s_y y_as <| s_nil <| q_then <| c_seq <| c_reg <| s_y y_mv <| s_pure (fun w' hw => r1_Decode_no w' a c q (hr.st hw) hc hm (by omega) h) <| s_y y_mv <| s_y y_ext <| s_y y_ext <| s_alloc fun b4 => s_sta (b := b4) (vs := #[I 0, I 0, .string (sb []), .slice none 0 0]) (cs := #[I 0, I 0, .string (sb []), .slice none 0 0]) (h1 := by intro u hu; simp at hu; rcases hu with rfl | rfl | rfl | rfl <;> rfl) (hl := rfl) (hs1 := rfl) ?_
  refine s_y y_as <| s_nil <| q_then <| c_seq <| c_seq <| c_reg <| s_y y_mv <| s_nt (y_neq (p := 10) (q := 0)) (by decide) <| s_nil <| q_then <| c_t <| c_seq <| c_reg <| s_y (y_bitem (vs := []) (i := it0) (s := .slice none 0 0) rfl) <| s_y y_mv <| s_sta (b := b2) (vs := (itC it0 (.slice none 0 0)).toArray) (cs := (itC it0 (.slice none 0 0)).toArray) (h1 := it_one) (hl := rfl) (hs1 := it_size rfl rfl) ?_
  refine s_y y_as <| s_nil <| q_then <| c_ret <| q_ret <| ?_
  exact ret2 Tryz.results28 (rv_ca (b := b2) (cs := (itC it0 (.slice none 0 0)).toArray) (hl := it_size rfl rfl)) rv_t fun w' hw => ⟨IX.nil, IX.nil_ok rfl, rfl, St.nilO hw⟩
theorem r_Decode_n2 (w : World) (a : Option Addr) (c : Nat) (q : List UInt8) (v : V) (hr : Rd w a (bs q)) (hc : q.length ≤ c) (hm : c ≤ 9223372036854775807) (hq : q.length ≤ 70000) (h : rdVal 16 q = some (v, [])) (hl : v.l.length ≠ 12) :
    GivesI 28 [.slice a q.length c] w it0 290 := by
  refine enter Tryz.func28 Tryz.ntmps28 ?_
  refine c_seq <| c_reg <| s_allocC (cs := (itC it0 (.slice none 0 0)).toArray) (by kernel_rfl) fun b2 => s_y y_as <| s_nil <| q_then <| c_seq <| c_reg <| s_y y_mv <| s_gives (fun w' hw => r1_Decode_ok w' a c q (hr.st hw) hc hm (by omega) v h) fun z hz => s_perm List.perm_append_comm ?_
  obtain ⟨va, vc, rs⟩ := z
  simp only at hz
  refine s_y y_mv <| s_y y_ext <| s_y y_ext <| s_alloc fun b4 => s_sta (b := b4) (vs := #[I v.k, I v.n, .string (sb v.s), .slice va v.l.length vc]) (cs := #[I 0, I 0, .string (sb []), .slice none 0 0]) (h1 := by intro u hu; simp at hu; rcases hu with rfl | rfl | rfl | rfl <;> rfl) (hl := rfl) (hs1 := rfl) ?_
  refine s_y y_as <| s_nil <| q_then <| c_seq <| c_seq <| c_reg <| s_y y_mv <| s_nf (y_neq (p := 0) (q := 0)) rfl <| s_nil <| q_then <| c_f <| c_skip <| q_then <| c_seq <| c_seq <| c_reg <| s_y y_fa <| s_y (y_ld (b := b4) (v := .slice va v.l.length vc)) <| s_y y_len <| s_nt (y_neq (p := ((v.l.length : Nat) : Int)) (q := 12)) (by omega) <| s_nil <| q_then <| c_t <| c_seq <| c_reg <| s_y (y_bitem (vs := []) (i := it0) (s := .slice none 0 0) rfl) <| s_sta (b := b2) (vs := (itC it0 (.slice none 0 0)).toArray) (cs := (itC it0 (.slice none 0 0)).toArray) (h1 := it_one) (hl := rfl) (hs1 := it_size rfl rfl) ?_
  refine s_y y_as <| s_nil <| q_then <| c_ret <| q_ret <| ?_
  exact ret2 Tryz.results28 (rv_ca (b := b2) (cs := (itC it0 (.slice none 0 0)).toArray) (hl := it_size rfl rfl)) rv_t fun w' hw => ⟨IX.nil, IX.nil_ok rfl, rfl, St.nilO hw⟩
theorem r_Decode_y (w : World) (a : Option Addr) (c : Nat) (q : List UInt8) (v : V) (hr : Rd w a (bs q)) (hc : q.length ≤ c) (hm : c ≤ 9223372036854775807) (hq : q.length ≤ 70000) (h : rdVal 16 q = some (v, [])) (hl : v.l.length = 12) : GivesI 28 [.slice a q.length c] w (dcV v q).1 (dcV v q).2 := by
  refine enter Tryz.func28 Tryz.ntmps28 ?_
  refine c_seq <| c_reg <| s_allocC (cs := (itC it0 (.slice none 0 0)).toArray) (by kernel_rfl) fun b2 => s_y y_as <| s_nil <| q_then <| c_seq <| c_reg <| s_y y_mv <| s_gives (fun w' hw => r1_Decode_ok w' a c q (hr.st hw) hc hm (by omega) v h) fun z hz => s_perm List.perm_append_comm ?_
  obtain ⟨va, vc, rs⟩ := z
  simp only at hz
  refine s_wd fun w0 hw0 => ?_
  have hrs0 : ∀ p ∈ rs, p.holds w0 := fun p hp => (hw0.own p (.tail _ hp)).1
  have hva := (hz.cell (i := 0) (by omega) hrs0).1
  have hwf := dcI_wf hz hrs0 hl
  have hbl := rd_body h 9
  have hn : ∀ k, k < 12 → ∀ w', (∀ p ∈ rs, p.holds w') → w'.cell? (ad va (k * 4 + 1)) = some (I (nn v.l k)) := fun k hk w' hw' => by
    rw [show nn v.l k = v.l[k].n by unfold nn; rw [List.getD_eq_getElem?_getD, List.getElem?_eq_getElem (by omega)]; rfl]
    exact (hz.cell (i := k) (by omega) hw').2.1
  have hs : ∀ k, k < 12 → ∀ w', (∀ p ∈ rs, p.holds w') → w'.cell? (ad va (k * 4 + 2)) = some (.string (sb (ss v.l k))) := fun k hk w' hw' => by
    rw [show ss v.l k = v.l[k].s by unfold ss; rw [List.getD_eq_getElem?_getD, List.getElem?_eq_getElem (by omega)]; rfl]
    exact (hz.cell (i := k) (by omega) hw').2.2.1
  have h5 := rd_body h 5
  have h8 := rd_body h 8
  refine s_y y_mv <| s_y y_ext <| s_y y_ext <| s_alloc fun b4 => s_sta (b := b4) (vs := #[I v.k, I v.n, .string (sb v.s), .slice va v.l.length vc]) (cs := #[I 0, I 0, .string (sb []), .slice none 0 0]) (h1 := by intro u hu; simp at hu; rcases hu with rfl | rfl | rfl | rfl <;> rfl) (hl := rfl) (hs1 := rfl) ?_
  refine s_y y_as <| s_nil <| q_then <| c_seq <| c_seq <| c_reg <| s_y y_mv <| s_nf (y_neq (p := 0) (q := 0)) rfl <| s_nil <| q_then <| c_f <| c_skip <| q_then <| c_seq <| c_seq <| c_reg <| s_y y_fa <| s_y (y_ld (b := b4) (v := .slice va v.l.length vc)) <| s_y y_len <| s_nf (y_neq (p := ((v.l.length : Nat) : Int)) (q := 12)) (by omega) <| s_nil <| q_then <| c_f <| c_skip <| q_then <| ?_
  have hrs : ∀ w', St w [] w' (rVl b4 v va vc :: rs) → ∀ p ∈ rs, p.holds w' := fun w' hw p hp => (hw.own p (.tail _ hp)).1
  refine c_seq <| c_cut (R := fun a' w' => ∃ b6, Fr 102 [(0, .slice a q.length c), (2, .pointer (some ⟨b2, 0, none⟩)), (3, I 0), (4, .pointer (some ⟨b4, 0, none⟩)), (6, .pointer (some ⟨b6, 0, none⟩))] [] a' ∧ St w [] w' (.blk b6 (.cells (I (nn v.l 6) :: I (nn v.l 7) :: bs (dig (ss v.l 8))).toArray 32 (0, 0)) :: rVl b4 v va vc :: rI b2 it0 (.slice none 0 0) :: rs)) ?_ ?_
  · refine c_regL (rVl b4 v va vc :: rs) <| r_y 0 rfl y_fa <| r_y 1 rfl (y_ld (b := b4) (v := .slice va v.l.length vc)) <| r_y 2 rfl (y_ixz (i := 6) hva) <| r_y 3 rfl y_far <| r_y 4 rfl (y_ldc (a := ad va (6 * 4 + 1)) (v := I (nn v.l 6)) (fun w' hw => hn 6 (by decide) w' (hrs w' hw))) <| r_y 5 rfl y_fa <| r_y 6 rfl (y_ld (b := b4) (v := .slice va v.l.length vc)) <| r_y 7 rfl (y_ixz (i := 7) hva) <| r_y 8 rfl y_far <| r_y 9 rfl (y_ldc (a := ad va (7 * 4 + 1)) (v := I (nn v.l 7)) (fun w' hw => hn 7 (by decide) w' (hrs w' hw))) <| r_y 10 rfl y_fa <| r_y 11 rfl (y_ld (b := b4) (v := .slice va v.l.length vc)) <| r_y 12 rfl (y_ixz (i := 8) hva) <| r_y 13 rfl y_far <| r_y 14 rfl (y_ldc (a := ad va (8 * 4 + 2)) (v := .string (sb (ss v.l 8))) (fun w' hw => hs 8 (by decide) w' (hrs w' hw))) <| r_w2 15 17 rfl rfl ?_ ?_ (hsub := by repeat (first | exact List.nil_sublist _ | exact List.Sublist.refl _ | apply List.Sublist.cons_cons | apply List.Sublist.cons))
    · refine s_pure (fun w' hw => r_digest_ok w' (ss v.l 8) (by omega)) <| r_K <| r_y 16 rfl (y_bcap (hf := fillC (dig_length _))) <| r_W 17 rfl <| s_alloc fun b6 => r_K <| r_W 18 rfl <| s_sta (b := b6) (vs := (I (nn v.l 6) :: I (nn v.l 7) :: bs (dig (ss v.l 8))).toArray) (cs := (I 0 :: I 0 :: bs (List.replicate 32 0)).toArray) (h1 := one_cap) (hl := by simp [bs_length, dig_length]) (hs1 := by simp [bs_length, dig_length]) ?_
      exact r_K <| r_E <| fun a' w' ha hw => ⟨rfl, b6, ha.weaken ⟨rfl, rfl, rfl, rfl, rfl, trivial⟩, hw⟩
    · refine s_alloc fun b6 => r_K <| r_W 15 rfl <| s_pure (fun w' hw => r_digest_ok w' (ss v.l 8) (by omega)) <| r_K <| r_y 16 rfl (y_bcap (hf := fillC (dig_length _))) <| r_W 18 rfl <| s_sta (b := b6) (vs := (I (nn v.l 6) :: I (nn v.l 7) :: bs (dig (ss v.l 8))).toArray) (cs := (I 0 :: I 0 :: bs (List.replicate 32 0)).toArray) (h1 := one_cap) (hl := by simp [bs_length, dig_length]) (hs1 := by simp [bs_length, dig_length]) ?_
      exact r_K <| r_E <| fun a' w' ha hw => ⟨rfl, b6, ha.weaken ⟨rfl, rfl, rfl, rfl, rfl, trivial⟩, hw⟩
  rintro a6 w6 ⟨b6, ha6, hw6⟩
  refine (show CP none Tryz.prog 102 [] w [] _ _ [(0, .slice a q.length c), (2, .pointer (some ⟨b2, 0, none⟩)), (3, I 0), (4, .pointer (some ⟨b4, 0, none⟩)), (6, .pointer (some ⟨b6, 0, none⟩))] (.blk b6 (.cells (I (nn v.l 6) :: I (nn v.l 7) :: bs (dig (ss v.l 8))).toArray 32 (0, 0)) :: rVl b4 v va vc :: rI b2 it0 (.slice none 0 0) :: rs) from ?_) a6 w6 ha6 hw6
  clear ha6 hw6
  have hrs : ∀ w', St w [] w' (.blk b6 (.cells (I (nn v.l 6) :: I (nn v.l 7) :: bs (dig (ss v.l 8))).toArray 32 (0, 0)) :: rVl b4 v va vc :: rs) → ∀ p ∈ rs, p.holds w' := fun w' hw p hp => (hw.own p (.tail _ (.tail _ hp))).1
  refine c_seq <| c_cut (R := fun a' w' => ∃ (b7 bb cap : Nat) (cs : Array Value) (fz : Nat × Nat), (∀ (i : Nat) (v' : Value), (bs (ss v.l 9))[i]? = some v' → cs[i]? = some v') ∧ (ss v.l 9).length ≤ cap ∧ Fr 102 [(0, .slice a q.length c), (2, .pointer (some ⟨b2, 0, none⟩)), (3, I 0), (4, .pointer (some ⟨b4, 0, none⟩)), (7, .pointer (some ⟨b7, 0, none⟩))] [] a' ∧ St w [] w' (rI b7 (dcI v.l) (.slice (some ⟨bb, 0, none⟩) (ss v.l 9).length cap) :: .blk bb (.cells cs 5 fz) :: rVl b4 v va vc :: rI b2 it0 (.slice none 0 0) :: rs)) ?_ ?_
  · refine c_regL (.blk b6 (.cells (I (nn v.l 6) :: I (nn v.l 7) :: bs (dig (ss v.l 8))).toArray 32 (0, 0)) :: rVl b4 v va vc :: rs) <| r_y 0 rfl y_fa <| r_y 1 rfl (y_ld (b := b4) (v := .slice va v.l.length vc)) <| r_y 2 rfl (y_ixz (i := 0) hva) <| r_y 3 rfl y_far <| r_y 4 rfl (y_ldc (a := ad va (0 * 4 + 1)) (v := I (nn v.l 0)) (fun w' hw => hn 0 (by decide) w' (hrs w' hw))) <| r_y 5 rfl y_fa <| r_y 6 rfl (y_ld (b := b4) (v := .slice va v.l.length vc)) <| r_y 7 rfl (y_ixz (i := 1) hva) <| r_y 8 rfl y_far <| r_y 9 rfl (y_ldc (a := ad va (1 * 4 + 1)) (v := I (nn v.l 1)) (fun w' hw => hn 1 (by decide) w' (hrs w' hw))) <| r_y 10 rfl y_fa <| r_y 11 rfl (y_ld (b := b4) (v := .slice va v.l.length vc)) <| r_y 12 rfl (y_ixz (i := 2) hva) <| r_y 13 rfl y_far <| r_y 14 rfl (y_ldc (a := ad va (2 * 4 + 1)) (v := I (nn v.l 2)) (fun w' hw => hn 2 (by decide) w' (hrs w' hw))) <| r_y 15 rfl y_fa <| r_y 16 rfl (y_ld (b := b4) (v := .slice va v.l.length vc)) <| r_y 17 rfl (y_ixz (i := 3) hva) <| r_y 18 rfl y_far <| r_y 19 rfl (y_ldc (a := ad va (3 * 4 + 1)) (v := I (nn v.l 3)) (fun w' hw => hn 3 (by decide) w' (hrs w' hw))) <| r_y 20 rfl y_fa <| r_y 21 rfl (y_ld (b := b4) (v := .slice va v.l.length vc)) <| r_y 22 rfl (y_ixz (i := 4) hva) <| r_y 23 rfl y_far <| r_y 24 rfl (y_ldc (a := ad va (4 * 4 + 1)) (v := I (nn v.l 4)) (fun w' hw => hn 4 (by decide) w' (hrs w' hw))) <| r_y 25 rfl y_fa <| r_y 26 rfl (y_ld (b := b4) (v := .slice va v.l.length vc)) <| r_y 27 rfl (y_ixz (i := 5) hva) <| r_y 28 rfl y_far <| r_y 29 rfl (y_ldc (a := ad va (5 * 4 + 2)) (v := .string (sb (ss v.l 5))) (fun w' hw => hs 5 (by decide) w' (hrs w' hw))) <| r_y 31 rfl (y_lda (b := b6) (cs := (I (nn v.l 6) :: I (nn v.l 7) :: bs (dig (ss v.l 8))).toArray) (hl := by simp [bs_length, dig_length])) <| r_y 32 rfl y_fa <| r_y 33 rfl (y_ld (b := b4) (v := .slice va v.l.length vc)) <| r_y 34 rfl (y_ixz (i := 9) hva) <| r_y 35 rfl y_far <| r_y 36 rfl (y_ldc (a := ad va (9 * 4 + 2)) (v := .string (sb (ss v.l 9))) (fun w' hw => hs 9 (by decide) w' (hrs w' hw))) <| r_y 38 rfl y_fa <| r_y 39 rfl (y_ld (b := b4) (v := .slice va v.l.length vc)) <| r_y 40 rfl (y_ixz (i := 10) hva) <| r_y 41 rfl y_far <| r_y 42 rfl (y_ldc (a := ad va (10 * 4 + 1)) (v := I (nn v.l 10)) (fun w' hw => hn 10 (by decide) w' (hrs w' hw))) <| r_y 43 rfl y_fa <| r_y 44 rfl (y_ld (b := b4) (v := .slice va v.l.length vc)) <| r_y 45 rfl (y_ixz (i := 11) hva) <| r_y 46 rfl y_far <| r_y 47 rfl (y_ldc (a := ad va (11 * 4 + 1)) (v := I (nn v.l 11)) (fun w' hw => hn 11 (by decide) w' (hrs w' hw))) <| r_y 48 rfl (y_bsig (cs := [I (nn v.l 10), I (nn v.l 11)])) <| ?_
    refine r_w3 30 37 50 rfl rfl rfl ?_ ?_ ?_ (hsub := by repeat (first | exact List.nil_sublist _ | exact List.Sublist.refl _ | apply List.Sublist.cons_cons | apply List.Sublist.cons))
    · refine s_pure (fun w' hw => r_digest_ok w' (ss v.l 5) (by omega)) <| r_K <| r_w2 37 50 rfl rfl ?_ ?_ (hsub := by repeat (first | exact List.nil_sublist _ | exact List.Sublist.refl _ | apply List.Sublist.cons_cons | apply List.Sublist.cons))
      · refine s_s2b fun bb cap cs fz hcs hcap => r_K <| r_y 49 rfl (y_bitem (fill9 (nn v.l 0) (nn v.l 1) (nn v.l 2) (nn v.l 3) (nn v.l 4) (nn v.l 6) (nn v.l 7) (nn v.l 10) (nn v.l 11) (q := ss v.l 9) _ _ _ (dig_length _) (dig_length _))) <| r_W 50 rfl <| s_allocC (cs := (itC it0 (.slice none 0 0)).toArray) (by kernel_rfl) fun b7 => r_K <| r_W 51 rfl <| s_sta (b := b7) (vs := (itC (dcI v.l) (.slice (some ⟨bb, 0, none⟩) (ss v.l 9).length cap)).toArray) (cs := (itC it0 (.slice none 0 0)).toArray) (h1 := it_one) (hl := (it_size (dig_length _) (dig_length _)).trans (it_size rfl rfl).symm) (hs1 := it_size (dig_length _) (dig_length _)) ?_
        exact r_K <| r_E <| fun a' w' ha hw => ⟨rfl, b7, bb, cap, cs, fz, hcs, hcap, ha.weaken ⟨rfl, rfl, rfl, rfl, rfl, trivial⟩, (hw.sub (.cons_cons _ (.cons_cons _ (.cons _ (.refl _)))))⟩
      · refine s_allocC (cs := (itC it0 (.slice none 0 0)).toArray) (by kernel_rfl) fun b7 => r_K <| r_W 37 rfl <| s_s2b fun bb cap cs fz hcs hcap => r_K <| r_y 49 rfl (y_bitem (fill9 (nn v.l 0) (nn v.l 1) (nn v.l 2) (nn v.l 3) (nn v.l 4) (nn v.l 6) (nn v.l 7) (nn v.l 10) (nn v.l 11) (q := ss v.l 9) _ _ _ (dig_length _) (dig_length _))) <| r_W 51 rfl <| s_sta (b := b7) (vs := (itC (dcI v.l) (.slice (some ⟨bb, 0, none⟩) (ss v.l 9).length cap)).toArray) (cs := (itC it0 (.slice none 0 0)).toArray) (h1 := it_one) (hl := (it_size (dig_length _) (dig_length _)).trans (it_size rfl rfl).symm) (hs1 := it_size (dig_length _) (dig_length _)) ?_
        exact r_K <| r_E <| fun a' w' ha hw => ⟨rfl, b7, bb, cap, cs, fz, hcs, hcap, ha.weaken ⟨rfl, rfl, rfl, rfl, rfl, trivial⟩, (hw.sub (.cons_cons _ (.cons_cons _ (.cons _ (.refl _))))).perm (.swap _ _ _)⟩
    · refine s_s2b fun bb cap cs fz hcs hcap => r_K <| r_w2 30 50 rfl rfl ?_ ?_ (hsub := by repeat (first | exact List.nil_sublist _ | exact List.Sublist.refl _ | apply List.Sublist.cons_cons | apply List.Sublist.cons))
      · refine s_pure (fun w' hw => r_digest_ok w' (ss v.l 5) (by omega)) <| r_K <| r_y 49 rfl (y_bitem (fill9 (nn v.l 0) (nn v.l 1) (nn v.l 2) (nn v.l 3) (nn v.l 4) (nn v.l 6) (nn v.l 7) (nn v.l 10) (nn v.l 11) (q := ss v.l 9) _ _ _ (dig_length _) (dig_length _))) <| r_W 50 rfl <| s_allocC (cs := (itC it0 (.slice none 0 0)).toArray) (by kernel_rfl) fun b7 => r_K <| r_W 51 rfl <| s_sta (b := b7) (vs := (itC (dcI v.l) (.slice (some ⟨bb, 0, none⟩) (ss v.l 9).length cap)).toArray) (cs := (itC it0 (.slice none 0 0)).toArray) (h1 := it_one) (hl := (it_size (dig_length _) (dig_length _)).trans (it_size rfl rfl).symm) (hs1 := it_size (dig_length _) (dig_length _)) ?_
        exact r_K <| r_E <| fun a' w' ha hw => ⟨rfl, b7, bb, cap, cs, fz, hcs, hcap, ha.weaken ⟨rfl, rfl, rfl, rfl, rfl, trivial⟩, (hw.sub (.cons_cons _ (.cons_cons _ (.cons _ (.refl _)))))⟩
      · refine s_allocC (cs := (itC it0 (.slice none 0 0)).toArray) (by kernel_rfl) fun b7 => r_K <| r_W 30 rfl <| s_pure (fun w' hw => r_digest_ok w' (ss v.l 5) (by omega)) <| r_K <| r_y 49 rfl (y_bitem (fill9 (nn v.l 0) (nn v.l 1) (nn v.l 2) (nn v.l 3) (nn v.l 4) (nn v.l 6) (nn v.l 7) (nn v.l 10) (nn v.l 11) (q := ss v.l 9) _ _ _ (dig_length _) (dig_length _))) <| r_W 51 rfl <| s_sta (b := b7) (vs := (itC (dcI v.l) (.slice (some ⟨bb, 0, none⟩) (ss v.l 9).length cap)).toArray) (cs := (itC it0 (.slice none 0 0)).toArray) (h1 := it_one) (hl := (it_size (dig_length _) (dig_length _)).trans (it_size rfl rfl).symm) (hs1 := it_size (dig_length _) (dig_length _)) ?_
        exact r_K <| r_E <| fun a' w' ha hw => ⟨rfl, b7, bb, cap, cs, fz, hcs, hcap, ha.weaken ⟨rfl, rfl, rfl, rfl, rfl, trivial⟩, (hw.sub (.cons_cons _ (.cons_cons _ (.cons _ (.refl _)))))⟩
    · refine s_allocC (cs := (itC it0 (.slice none 0 0)).toArray) (by kernel_rfl) fun b7 => r_K <| r_w2 30 37 rfl rfl ?_ ?_ (hsub := by repeat (first | exact List.nil_sublist _ | exact List.Sublist.refl _ | apply List.Sublist.cons_cons | apply List.Sublist.cons))
      · refine s_pure (fun w' hw => r_digest_ok w' (ss v.l 5) (by omega)) <| r_K <| r_W 37 rfl <| s_s2b fun bb cap cs fz hcs hcap => r_K <| r_y 49 rfl (y_bitem (fill9 (nn v.l 0) (nn v.l 1) (nn v.l 2) (nn v.l 3) (nn v.l 4) (nn v.l 6) (nn v.l 7) (nn v.l 10) (nn v.l 11) (q := ss v.l 9) _ _ _ (dig_length _) (dig_length _))) <| r_W 51 rfl <| s_sta (b := b7) (vs := (itC (dcI v.l) (.slice (some ⟨bb, 0, none⟩) (ss v.l 9).length cap)).toArray) (cs := (itC it0 (.slice none 0 0)).toArray) (h1 := it_one) (hl := (it_size (dig_length _) (dig_length _)).trans (it_size rfl rfl).symm) (hs1 := it_size (dig_length _) (dig_length _)) ?_
        exact r_K <| r_E <| fun a' w' ha hw => ⟨rfl, b7, bb, cap, cs, fz, hcs, hcap, ha.weaken ⟨rfl, rfl, rfl, rfl, rfl, trivial⟩, (hw.sub (.cons_cons _ (.cons_cons _ (.cons _ (.refl _))))).perm (.swap _ _ _)⟩
      · refine s_s2b fun bb cap cs fz hcs hcap => r_K <| r_W 30 rfl <| s_pure (fun w' hw => r_digest_ok w' (ss v.l 5) (by omega)) <| r_K <| r_y 49 rfl (y_bitem (fill9 (nn v.l 0) (nn v.l 1) (nn v.l 2) (nn v.l 3) (nn v.l 4) (nn v.l 6) (nn v.l 7) (nn v.l 10) (nn v.l 11) (q := ss v.l 9) _ _ _ (dig_length _) (dig_length _))) <| r_W 51 rfl <| s_sta (b := b7) (vs := (itC (dcI v.l) (.slice (some ⟨bb, 0, none⟩) (ss v.l 9).length cap)).toArray) (cs := (itC it0 (.slice none 0 0)).toArray) (h1 := it_one) (hl := (it_size (dig_length _) (dig_length _)).trans (it_size rfl rfl).symm) (hs1 := it_size (dig_length _) (dig_length _)) ?_
        exact r_K <| r_E <| fun a' w' ha hw => ⟨rfl, b7, bb, cap, cs, fz, hcs, hcap, ha.weaken ⟨rfl, rfl, rfl, rfl, rfl, trivial⟩, (hw.sub (.cons_cons _ (.cons_cons _ (.cons _ (.refl _))))).perm (.swap _ _ _)⟩
  rintro a7 w7 ⟨b7, bb, cap, cs, fz, hcs, hcap, ha7, hw7⟩
  refine (show CP none Tryz.prog 102 [] w [] _ _ [(0, .slice a q.length c), (2, .pointer (some ⟨b2, 0, none⟩)), (3, I 0), (4, .pointer (some ⟨b4, 0, none⟩)), (7, .pointer (some ⟨b7, 0, none⟩))] (rI b7 (dcI v.l) (.slice (some ⟨bb, 0, none⟩) (ss v.l 9).length cap) :: .blk bb (.cells cs 5 fz) :: rVl b4 v va vc :: rI b2 it0 (.slice none 0 0) :: rs) from ?_) a7 w7 ha7 hw7
  clear ha7 hw7
  have hrb : ∀ w', (Res.blk bb (.cells cs 5 fz)).holds w' → Rd w' (some ⟨bb, 0, none⟩) (bs (ss v.l 9)) := fun w' hb => .inr ⟨bb, 0, cs, _, fz, rfl, hb, fun i v hv => by rw [Nat.zero_add]; exact hcs i v hv⟩
  have hb7 : (dcI v.l).bd.length ≤ 70000 := Nat.le_trans hbl hq
  have hcl := all_len hwf hb7
  refine c_seq <| c_seq <| c_regL (rI b7 (dcI v.l) (.slice (some ⟨bb, 0, none⟩) (ss v.l 9).length cap) :: .blk bb (.cells cs 5 fz) :: rVl b4 v va vc :: rI b2 it0 (.slice none 0 0) :: rs) <| r_y 0 rfl (y_lda (b := b7) (cs := (itC (dcI v.l) (.slice (some ⟨bb, 0, none⟩) (ss v.l 9).length cap)).toArray) (hl := it_size (dig_length _) (dig_length _))) <| r_W 1 rfl <| s_pure (fun w' hw => Formed_ok w' (dcI v.l) (some ⟨bb, 0, none⟩) cap (dig_length _) (dig_length _) hb7) <| ?_
  cases hv : (dcI v.l).vld with
  | false =>
    have hR : dcV v q = (it0, 290) := if_neg (fun e => by rw [hv] at e; cases e.2.1)
    rw [hR]
    refine r_K <| r_y 2 rfl (v := .bool true) (y_not (b := false)) <| r_y 3 rfl y_mv <| r_no 4 rfl <| r_no 5 rfl <| r_no 6 rfl <| r_no 7 rfl <| r_no 8 rfl <| r_no 9 rfl <| r_y 10 rfl y_pk <| r_E <| q_then <| c_t <| ?_
    refine c_seq <| c_reg <| s_y (y_bitem (vs := []) (i := it0) (s := .slice none 0 0) rfl) <| s_sta (b := b2) (vs := (itC it0 (.slice none 0 0)).toArray) (cs := (itC it0 (.slice none 0 0)).toArray) (h1 := it_one) (hl := rfl) (hs1 := it_size rfl rfl) ?_
    refine s_y y_as <| s_nil <| q_then <| c_ret <| q_ret <| ?_
    exact ret2 Tryz.results28 (rv_ca (b := b2) (cs := (itC it0 (.slice none 0 0)).toArray) (hl := it_size rfl rfl)) rv_t fun w' hw => ⟨IX.nil, IX.nil_ok rfl, rfl, St.nilO hw⟩
  | true =>
    refine r_K <| r_y 2 rfl (v := .bool false) (y_not (b := true)) <| r_y 3 rfl y_mv <| r_y 4 rfl (y_lda (b := b7) (cs := (itC (dcI v.l) (.slice (some ⟨bb, 0, none⟩) (ss v.l 9).length cap)).toArray) (hl := it_size (dig_length _) (dig_length _))) <| r_y 7 rfl y_mv <| r_y 8 rfl (y_b2s (q := q) (hr := rdW0 hr)) <| r_W 5 rfl <| s_gives (fun w' hw => r_enc_ok w' (dcI v.l) (some ⟨bb, 0, none⟩) cap hwf (hrb w' (hw.own _ (.tail _ (.head _))).1) hb7) fun x _ => r_kl <| r_y 6 rfl (y_b2s (q := (dcI v.l).all) (hr := rdR (.head _))) <| ?_
    by_cases he : (dcI v.l).all = q
    · have hR : dcV v q = (dcI v.l, 0) := if_pos ⟨hl, hv, he⟩
      rw [hR]
      refine r_nf 9 rfl (y_neqs (a := sb (dcI v.l).all) (b := sb q)) (by rw [he]) <| r_y 10 rfl y_pk <| r_E <| q_then <| c_f <| c_skip <| q_then <| c_seq <| c_reg <| s_y (y_lda (b := b7) (cs := (itC (dcI v.l) (.slice (some ⟨bb, 0, none⟩) (ss v.l 9).length cap)).toArray) (hl := it_size (dig_length _) (dig_length _))) <| s_sta (b := b2) (vs := (itC (dcI v.l) (.slice (some ⟨bb, 0, none⟩) (ss v.l 9).length cap)).toArray) (cs := (itC it0 (.slice none 0 0)).toArray) (h1 := it_one) (hl := (it_size (dig_length _) (dig_length _)).trans (it_size rfl rfl).symm) (hs1 := it_size (dig_length _) (dig_length _)) ?_
      refine s_y y_as <| s_nil <| q_then <| c_ret <| ?_
      exact ret2 Tryz.results28 (rv_ca (b := b2) (cs := (itC (dcI v.l) (.slice (some ⟨bb, 0, none⟩) (ss v.l 9).length cap)).toArray) (hl := it_size (dig_length _) (dig_length _))) rv_t fun w' hw => ⟨⟨some ⟨bb, 0, none⟩, cap, .blk bb (.cells cs 5 fz)⟩, fun w2 h2 => ⟨hrb w2 h2, hcap⟩, rfl, hw.sub (.cons _ (.cons _ (.cons_cons _ (List.nil_sublist _))))⟩
    · have hR : dcV v q = (it0, 290) := if_neg (fun e => he e.2.2)
      rw [hR]
      refine r_nt 9 rfl (y_neqs (a := sb (dcI v.l).all) (b := sb q)) (fun e => he (sb_inj.1 e)) <| r_y 10 rfl y_pk <| r_E <| q_then <| c_t <| ?_
      refine c_seq <| c_reg <| s_y (y_bitem (vs := []) (i := it0) (s := .slice none 0 0) rfl) <| s_sta (b := b2) (vs := (itC it0 (.slice none 0 0)).toArray) (cs := (itC it0 (.slice none 0 0)).toArray) (h1 := it_one) (hl := rfl) (hs1 := it_size rfl rfl) ?_
      refine s_y y_as <| s_nil <| q_then <| c_ret <| q_ret <| ?_
      exact ret2 Tryz.results28 (rv_ca (b := b2) (cs := (itC it0 (.slice none 0 0)).toArray) (hl := it_size rfl rfl)) rv_t fun w' hw => ⟨IX.nil, IX.nil_ok rfl, rfl, St.nilO hw⟩
theorem r_Decode_ok (w : World) (a : Option Addr) (c : Nat) (q : List UInt8) (hr : Rd w a (bs q)) (hc : q.length ≤ c) (hm : c ≤ 9223372036854775807) (hq : q.length ≤ 70000) :
    GivesI 28 [.slice a q.length c] w (dcd q).1 (dcd q).2 := by
  unfold dcd
  cases h : rdVal 16 q with
  | none => exact r_Decode_n1 w a c q hr hc hm hq (fun v e => by rw [h] at e; cases e)
  | some p =>
    obtain ⟨v, q'⟩ := p
    cases q' with
    | cons x q' => exact r_Decode_n1 w a c q hr hc hm hq (fun v e => by rw [h] at e; simp at e)
    | nil =>
      by_cases hl : v.l.length = 12
      · exact r_Decode_y w a c q v hr hc hm hq h hl
      · have hR : dcV v q = (it0, 290) := if_neg (fun e => hl e.1)
        simp only [hR]
        exact r_Decode_n2 w a c q v hr hc hm hq h hl
end Go.Proofs.YtejdjnkilikehaaGreatDoor
end
section
namespace Itm
open Go Eng Cod Gf Sha Cha Sig Wr Go.Proofs.YtejdjnkilikehaaGreatDoor
theorem padE_0 {q : List UInt8} : padE q = 0 ↔ q.length ≤ 65532 := by
  unfold padE
  split
  · exact ⟨fun h => absurd h (by decide), fun h => by omega⟩
  · exact ⟨fun _ => by omega, fun _ => rfl⟩
theorem clV_pcl {q : List UInt8} (h : q.length ≤ 65532) : clV q.length = pcl q.length := by unfold clV; rw [if_neg (by omega)]
theorem ln_pcl (n : Int) : lnE (pcl n) = 0 ∧ lnV (pcl n) = plen (pcl n) := by
  have := pcl_bd n
  unfold lnE lnV
  rw [if_neg (by omega), if_neg (by omega)]
  exact ⟨rfl, rfl⟩
section
variable {f d c k : Int} {cm ks q s : List UInt8} {x : Nat}
theorem sl_bd : (sl f cm ks d c k x q s).bd.length = (pad q).length + 16 := sl1_bd
theorem lnk_el (ks : List UInt8) : El (pp 4 (lnk ks)) := El.four.pow _
theorem lk_vals (ks s : List UInt8) : lkA (pp 4 (lnk ks) : Nat) s = (pp (pp 4 (lnk ks)) (dscal s lbLock) : Nat) ∧ lkB (pp 4 (lnk ks) : Nat) s = (pp 4 (dscal s lbMask) * pp 4 (dscal s lbLock) % 4611686018427377339 : Nat) ∧ ∀ k, lkP (pp 4 (lnk ks) : Nat) k s = xr k (msk (pp 4 (dscal s lbMask) : Nat)) := by
  unfold lkA lkB lkP
  rw [(lnk_el ks).el]
  exact ⟨by rw [Int.toNat_natCast]; rfl, rfl, fun _ => rfl⟩
theorem sl_ck : ckE (sl f cm ks d c k x q s).cA (sl f cm ks d c k x q s).cB = 0 := by
  show ckE (lkA (pp 4 (lnk ks) : Nat) s) (lkB (pp 4 (lnk ks) : Nat) s) = 0
  rw [(lk_vals ks s).1, (lk_vals ks s).2.1]
  unfold ckE
  rw [((lnk_el ks).pow _).el, ((El.four.pow _).mul (El.four.pow _)).el]
  rfl
theorem sl_vld (hn : numB f d c k = true) (hq : q.length ≤ 65532) : (sl f cm ks d c k x q s).vld = true := by
  unfold It.vld
  have e1 : (sl f cm ks d c k x q s).sz = pcl q.length := clV_pcl hq
  have e2 := sl_ck (f := f) (d := d) (c := c) (k := k) (cm := cm) (ks := ks) (q := q) (s := s) (x := x)
  have e3 := sl_bd (f := f) (d := d) (c := c) (k := k) (cm := cm) (ks := ks) (q := q) (s := s) (x := x)
  have e4 := pad_length hq
  rw [e1, e2, (ln_pcl q.length).1, (ln_pcl q.length).2, e3]
  rw [show (sl f cm ks d c k x q s).fo = f from rfl, show (sl f cm ks d c k x q s).dv = d from rfl, show (sl f cm ks d c k x q s).ct = c from rfl, show (sl f cm ks d c k x q s).kd = k from rfl, hn]
  simp; omega
theorem unpE_pad (hq : q.length ≤ 65532) : unpE (pad q) = 0 ∧ unpad (pad q) = q := by
  obtain ⟨h1, _, h3⟩ := unpOK_pad hq
  exact ⟨by unfold unpE; rw [h1]; rfl, h3⟩
theorem sl_opn (hq : q.length ≤ 65532) : (sl f cm ks d c k x q s).opnB (ckey ks d c) = q ∧ (sl f cm ks d c k x q s).opnE (ckey ks d c) = 0 := by
  obtain ⟨h1, h2⟩ := sealB_open (k := ckey ks d c) (n := z12) (h := (sl0 f cm ks d c k q s).head) (b := pad q) (pad_le q)
  have e : (sl f cm ks d c k x q s).head = (sl0 f cm ks d c k q s).head := rfl
  have e2 : (sl f cm ks d c k x q s).bd = sealB (ckey ks d c) z12 (sl0 f cm ks d c k q s).head (pad q) := rfl
  unfold It.opnB It.opnE
  rw [e, e2, h1, h2, if_pos rfl, if_pos rfl]
  exact ⟨(unpE_pad hq).2, (unpE_pad hq).1⟩
theorem sl_open (hn : numB f d c k = true) (hq : q.length ≤ 65532) : (sl f cm ks d c k x q s).openB cm ks = q ∧ (sl f cm ks d c k x q s).openE cm ks = 0 := by
  unfold It.openB It.openE
  rw [if_pos ⟨sl_vld hn hq, rfl⟩, if_pos ⟨sl_vld hn hq, rfl⟩]
  exact sl_opn hq
theorem via_yes {i : It} {x a b : Int} {p : List UInt8} (hv : i.vld = true) (hb : b = i.cB) (hp : p = i.pd) (he : Go.Proofs.YtejdjnkilikehaaGreatDoor.opE x a b = 0) : i.viaB x a b p = i.opnB (opK x a b p) ∧ i.viaE x a b p = i.opnE (opK x a b p) := by
  unfold It.viaB It.viaE
  rw [if_pos (show i.vld = true ∧ b = i.cB ∧ p = i.pd from ⟨hv, hb, hp⟩), if_pos (show i.vld = true ∧ b = i.cB ∧ p = i.pd from ⟨hv, hb, hp⟩), if_pos he, if_pos he]
  exact ⟨rfl, rfl⟩
theorem opK_lk (y : Nat) (h0 : 0 < y) (hy : y < 2305843009213688669) (r : Nat) {kk : List UInt8} (hk : kk.length = 32) :
    opK (y : Nat) (pp (pp 4 y) r : Nat) (pp 4 (dscal s lbMask) * pp 4 r % 4611686018427377339 : Nat) (xr kk (msk (pp 4 (dscal s lbMask) : Nat))) = kk ∧ Go.Proofs.YtejdjnkilikehaaGreatDoor.opE (y : Nat) (pp (pp 4 y) r : Nat) (pp 4 (dscal s lbMask) * pp 4 r % 4611686018427377339 : Nat) = 0 := by
  unfold opK Go.Proofs.YtejdjnkilikehaaGreatDoor.opE
  rw [prv_of h0 hy, ((El.four.pow y).pow _).el, ((El.four.pow _).mul (El.four.pow _)).el, Int.toNat_natCast, Int.toNat_natCast, Int.toNat_natCast, opM_own h0 hy (El.four.pow _)]
  exact ⟨xr_xr (by rw [hk, msk_length]), rfl⟩
theorem sl_via (hn : numB f d c k = true) (hq : q.length ≤ 65532) : (sl f cm ks d c k x q s).viaB (lnk ks : Nat) (sl f cm ks d c k x q s).cA (sl f cm ks d c k x q s).cB (sl f cm ks d c k x q s).pd = q ∧ (sl f cm ks d c k x q s).viaE (lnk ks : Nat) (sl f cm ks d c k x q s).cA (sl f cm ks d c k x q s).cB (sl f cm ks d c k x q s).pd = 0 := by
  have h1 := opK_lk (s := s) (lnk ks) (scal_lt _ _).1 (scal_lt _ _).2 (dscal s lbLock) (ckey_length ks d c)
  rw [show (sl f cm ks d c k x q s).cA = lkA (pp 4 (lnk ks) : Nat) s from rfl, show (sl f cm ks d c k x q s).cB = lkB (pp 4 (lnk ks) : Nat) s from rfl, show (sl f cm ks d c k x q s).pd = lkP (pp 4 (lnk ks) : Nat) (ckey ks d c) s from rfl]
  have h2 := lk_vals ks s
  have h3 := via_yes (i := sl f cm ks d c k x q s) (x := (lnk ks : Nat)) (a := lkA (pp 4 (lnk ks) : Nat) s) (b := lkB (pp 4 (lnk ks) : Nat) s) (p := lkP (pp 4 (lnk ks) : Nat) (ckey ks d c) s) (sl_vld hn hq) rfl rfl (by rw [h2.1, h2.2.1]; exact h1.2)
  rw [h3.1, h3.2, h2.1, h2.2.1, h2.2.2, h1.1]
  exact sl_opn hq
theorem sl_chk (hn : numB f d c k = true) (hq : q.length ≤ 65532) : (sl f cm ks d c k x q s).chk (pp 4 x : Nat) = 0 := by
  unfold It.chk
  rw [if_pos (sl_vld hn hq)]
  rw [show (sl f cm ks d c k x q s).sg = (sl1 f cm ks d c k q s).sg from rfl, show (sl f cm ks d c k x q s).sR = (sgR x (sl1 f cm ks d c k q s).sg : Nat) from rfl, show (sl f cm ks d c k x q s).sS = (sgS x (sl1 f cm ks d c k q s).sg : Nat) from rfl, vrf_sign, if_pos rfl]
end
theorem dig_id {l : List UInt8} (h : l.length = 32) : dig l = l := by
  unfold dig
  rw [List.take_of_length_le (by omega), h]; simp
theorem dcI_al {i : It} (h : i.Wf) : dcI i.al = i := by
  obtain ⟨fo, cm, dv, ct, kd, sz, cA, cB, pd, bd, sR, sS⟩ := i
  have h1 : dig cm = cm := dig_id h.cm
  have h2 : dig pd = pd := dig_id h.pd
  show It.mk fo (dig cm) dv ct kd sz cA cB (dig pd) bd sR sS = _
  rw [h1, h2]
theorem rdNum_n {n : Int} (h : R64 n) (q : List UInt8) : rdNum 0 0 (num (uns n) ++ q) = some (uns n, q) := rdNum_enc (uns_lt h) q
theorem rd_flat {v : V} (hv : Flat v) (hok : v.ok = true) (hk : v.k ≠ 3) (f : Nat) (q : List UInt8) : rdVal f (v.enc ++ q) = some (v, q) := by
  obtain ⟨k, n, s, l⟩ := v
  obtain rfl : l = [] := hv.nil
  have h1 : R64 n := hv.r
  have h2 := hv.s
  rw [V.ok] at hok
  simp only [Bool.or_eq_true, Bool.and_eq_true, beq_iff_eq] at hok
  rcases hok with (⟨rfl, rfl, _⟩ | ⟨rfl, rfl, _⟩) | ⟨⟨h, _⟩, _⟩
  · rw [V.enc, if_pos rfl]
    cases f with
    | zero => simp only [List.cons_append, rdVal]; rw [if_pos (by decide), rdNum_n h1]; simp only [sgn_uns]
    | succ f => simp only [List.cons_append, rdVal]; rw [if_pos (by decide), rdNum_n h1]; simp only [sgn_uns]
  · rw [V.enc, if_neg (by decide), if_pos rfl]
    have h2 : s.length < 1152921504606846976 := h2
    have e := rdLen_enc (x := s.length) (by omega) (q := s ++ q) (by rw [List.length_append]; omega)
    cases f with
    | zero => simp only [List.cons_append, List.append_assoc, rdVal]; rw [if_neg (by decide), if_pos (by decide), e]; simp
    | succ f => simp only [List.cons_append, List.append_assoc, rdVal]; rw [if_neg (by decide), if_pos (by decide), e]; simp
  · exact absurd h hk
theorem rd_list {l : List V} (hf : ∀ v ∈ l, Flat v) (hk : ∀ v ∈ l, v.ok = true ∧ v.k ≠ 3) (hl : l.length < 18446744073709551616) (f : Nat) : rdVal (f + 1) (vL l).enc = some (vL l, []) := by
  rw [V.enc, if_neg (by decide), if_neg (by decide)]
  have e := rdLen_enc (x := l.length) hl (q := encL l) (encL_long l)
  have key : ∀ (m : List V), (∀ v ∈ m, Flat v) → (∀ v ∈ m, v.ok = true ∧ v.k ≠ 3) → rdL (rdVal f) m.length (encL m) = some (m, []) := by
    intro m
    induction m with
    | nil => intro _ _; rfl
    | cons v r ih =>
      intro h1 h2
      rw [List.length_cons, rdL, encL, rd_flat (h1 v (.head _)) (h2 v (.head _)).1 (h2 v (.head _)).2]
      simp only []
      rw [ih (fun x hx => h1 x (.tail _ hx)) fun x hx => h2 x (.tail _ hx)]
  simp only [rdVal]
  rw [if_neg (by decide), if_neg (by decide), if_pos (by decide), e]
  simp only [key l hf hk]
theorem dcd_all {i : It} (h : i.Wf) (hb : i.bd.length ≤ 70000) (hv : i.vld = true) : dcd i.all = (i, 0) := by
  have h1 : rdVal 16 i.all = some (vL i.al, []) := rd_list (al_flat h hb) (al_k i) (by show 12 < _; decide) 15
  unfold dcd
  rw [h1]
  simp only []
  unfold dcV
  rw [show (vL i.al).l = i.al from rfl, dcI_al h]
  exact if_pos ⟨rfl, hv, rfl⟩
theorem dcd_enc {q : List UInt8} (h : (dcd q).2 = 0) : (dcd q).1.vld = true ∧ (dcd q).1.all = q := by
  unfold dcd at h ⊢
  cases h1 : rdVal 16 q with
  | none => rw [h1] at h; exact absurd h (show ¬ (10 : Int) = 0 by decide)
  | some p =>
    obtain ⟨v, q'⟩ := p
    cases q' with
    | cons x q' => rw [h1] at h; exact absurd h (show ¬ (10 : Int) = 0 by decide)
    | nil =>
      rw [h1] at h
      simp only at h ⊢
      unfold dcV at h ⊢
      by_cases hc : v.l.length = 12 ∧ (dcI v.l).vld = true ∧ (dcI v.l).all = q
      · rw [if_pos hc]; exact hc.2
      · rw [if_neg hc] at h; exact absurd h (show ¬ (290 : Int) = 0 by decide)
theorem dcd_no {q : List UInt8} (h : (dcd q).2 ≠ 0) : (dcd q).1 = it0 := by
  unfold dcd at h ⊢
  cases h1 : rdVal 16 q with
  | none => rfl
  | some p =>
    obtain ⟨v, q'⟩ := p
    cases q' with
    | cons x q' => rfl
    | nil =>
      rw [h1] at h
      simp only at h ⊢
      unfold dcV at h ⊢
      by_cases hc : v.l.length = 12 ∧ (dcI v.l).vld = true ∧ (dcI v.l).all = q
      · rw [if_pos hc] at h; exact absurd rfl h
      · rw [if_neg hc]
end Itm
end
section
namespace Eng
open Go Go.RowKit
section
variable {P : Program} {n : Nat} {D : List Deferred} {W : World} {Bo : List Nat} {F : List (Nat × Value)} {l lp : SH}
  {d : Option Tmp} {dd : Nat} {ty : TypeId} {ps : String} {af : Array Edge} {g : Option (Nat × Bool)} {x y z : Operand} {v u : Value} {ta tb t e : TypeId}
  {Q : Exit → Act → World → Prop} {ops : Array Oper} {f fuel : Nat} {listed : Array Bool}
end
end Eng
namespace Itm
open Go Eng Cod Gf Sha Cha Sig Wr Go.Proofs.YtejdjnkilikehaaGreatDoor
noncomputable def slR (f : Int) (cm ks : List UInt8) (d c k x : Int) (q s : List UInt8) : It × Int :=
  if numB f d c k = true then (if pvB x = true then (if padE q = 0 then (sl f cm ks d c k x.toNat q s, 0) else (it0, padE q)) else (it0, 50)) else (it0, 290)
theorem it0_wf : it0.Wf := ⟨R64_0, rfl, R64_0, R64_0, R64_0, R64_0, R64_0, R64_0, rfl, R64_0, R64_0⟩
def inT (d c k x : Int) (S : Value) (sd : List UInt8) : List Value := I d :: I c :: I k :: I x :: S :: bs sd
def inC (f : Int) (cm ks : List UInt8) (d c k x : Int) (S : Value) (sd : List UInt8) : List Value := I f :: (bs (cm ++ ks) ++ inT d c k x S sd)
section
variable {f d c k x : Int} {cm ks sd : List UInt8} {S : Value} (hcm : cm.length = 32) (hks : ks.length = 32)
include hcm hks
end
end Itm
namespace Go.Proofs.YtejdjnkilikehaaGreatDoor
open Go Eng Gf Sha Sig Wr Cod Cha Itm
set_option maxRecDepth 100000
theorem giI {k : FuncId} {args : List Value} {w : World} {i : It} {e : Int} (h : Gives Tryz.prog k args w [] (fun y : Option Addr × Nat => .tuple #[itV i (.slice y.1 i.bd.length y.2), I e]) (fun y => [.row y.1 y.2 5 1 i.bd.length (bs i.bd)]) (fun _ => True)) : GivesI k args w i e :=
  h.mono fun _ _ ⟨y, _, he, hw⟩ => ⟨⟨y.1, y.2, .row y.1 y.2 5 1 i.bd.length (bs i.bd)⟩, fun w2 h2 => ⟨Res.rd h2, h2.2.1⟩, he, hw⟩
abbrev SealA (f : Int) (cm ks : List UInt8) (d c k x : Int) (pa : Option Addr) (pc : Nat) (q s : List UInt8) : List Value := [I f, .agg (bs (cm ++ ks)).toArray, I d, I c, I k, I x, .slice pa q.length pc, .agg (bs s).toArray]
section
variable (w : World) (f : Int) (cm ks : List UInt8) (d c k x : Int) (q s : List UInt8) (pa : Option Addr) (pc : Nat) (hg : LG w) (hf : R64 f) (hcm : cm.length = 32) (hks : ks.length = 32) (hd : R64 d) (hc : R64 c) (hk : R64 k) (hs : s.length = 32) (hrp : Rd w pa (bs q)) (hq : q.length < 9223372036854775807)
include hg hf hcm hks hd hc hk hs hrp hq
theorem Seal_ok : GivesI 41 (SealA f cm ks d c k x pa pc q s) w (slR f cm ks d c k x q s).1 (slR f cm ks d c k x q s).2 := by
  unfold slR SealA
  rw [bs_append]
  cases hn : numB f d c k with
  | false => exact giI (Seal_n w f cm ks d c k q s pa pc x hg hf hcm hks hd hc hk hs hrp hq hn)
  | true =>
    rw [if_pos rfl]
    cases hx : pvB x with
    | false => exact giI (Seal_p w f cm ks d c k q s pa pc x hg hf hcm hks hd hc hk hs hrp hq hn hx)
    | true =>
      rw [if_pos rfl]
      unfold pvB at hx
      simp only [Bool.and_eq_true, decide_eq_true_eq] at hx
      obtain ⟨z, rfl⟩ : ∃ z : Nat, x = (z : Int) := ⟨x.toNat, by omega⟩
      rw [Int.toNat_natCast]
      by_cases he : padE q = 0
      · rw [if_pos he]; exact giI (Seal_y w f cm ks d c k q s pa pc z hg hf hcm hks hd hc hk hs hrp hq hn (by omega) (by omega) he)
      · rw [if_neg he]; exact giI (Seal_b w f cm ks d c k q s pa pc z hg hf hcm hks hd hc hk hs hrp hq hn (by omega) (by omega) he)
end
end Go.Proofs.YtejdjnkilikehaaGreatDoor
end
section
namespace Itm
open Go Eng Cod Gf Sha Cha Sig Wr Go.Proofs.YtejdjnkilikehaaGreatDoor
end Itm
namespace Go.Proofs.YtejdjnkilikehaaGreatDoor
open Go Eng Gf Sha Sig Wr Cod Cha Itm
set_option maxRecDepth 100000
abbrev InV (f : Int) (cm ks : List UInt8) (d c k x : Int) (pa : Option Addr) (pc : Nat) (q s : List UInt8) : Value := .agg (inC f cm ks d c k x (.slice pa q.length pc) s).toArray
section
variable (w : World) (f : Int) (cm ks : List UInt8) (d c k x : Int) (q s : List UInt8) (pa : Option Addr) (pc : Nat) (hg : LG w) (hf : R64 f) (hcm : cm.length = 32) (hks : ks.length = 32) (hd : R64 d) (hc : R64 c) (hk : R64 k) (hs : s.length = 32) (hrp : Rd w pa (bs q)) (hq : q.length < 9223372036854775807)
include hg hcm hks hs hrp hq
end
end Go.Proofs.YtejdjnkilikehaaGreatDoor
end
section
namespace Go.Proofs.YtejdjnkilikehaaGreatDoor
open Go Eng Gf Sha Sig Wr Cod Cha Itm
set_option maxRecDepth 100000
theorem l_num_ok (w : World) (z : Int) : Pure Tryz.prog 43 [I z] w (.agg #[I 1, I z, .string (sb []), .slice none 0 0]) := by
  refine enter Tryz.func43 Tryz.ntmps43 ?_
  refine c_seq <| c_reg <| s_alloc fun b2 => s_nil <| q_then <| c_seq <| c_reg <| s_y y_mv <| s_y (y_bval (cs := [I 1, I z, .string .empty, .slice none 0 0])) <| s_sta (b := b2) (vs := #[I 1, I z, .string .empty, .slice none 0 0]) (cs := #[I 0, I 0, .string .empty, .slice none 0 0]) (h1 := by intro u hu; simp at hu; rcases hu with rfl | rfl | rfl | rfl <;> rfl) (hl := rfl) (hs1 := rfl) ?_
  refine s_nil <| q_then <| c_ret <| ?_
  exact ret1 Tryz.results43 (rv_ca (b := b2) (cs := #[I 1, I z, .string .empty, .slice none 0 0]) (hl := rfl)) fun w' hw => ⟨rfl, hw.sub (List.nil_sublist _)⟩
end Go.Proofs.YtejdjnkilikehaaGreatDoor
end
section
namespace Eng
open Go Go.RowKit
section
variable {r : Option Nat} {P : Program} {n : Nat} {D : List Deferred} {W : World} {Bo : List Nat} {F : List (Nat × Value)} {l : SH} {ops : Array Oper} {rest : List Oper} {Q : Exit → Act → World → Prop}
  {dd : Nat} {ty : TypeId} {ps : String} {af : Array Edge} {g : Option (Nat × Bool)} {x : Operand} {ta e : TypeId}
theorem s_mark [ht : HU P ta (.slice e)] [he : HU P e (.int .u8)] {b m : Nat} {xs : List Value} (hl : xs.length = m)
    (h : LP r P n D W Bo ops Q rest ((dd, .slice (some ⟨b, 0, none⟩) m m) :: F) (.blk b (.cells xs.toArray e (m, m + 1)) :: l))
    (hx : evO F x = some (.slice (some ⟨b, 0, none⟩) m m) := by rfl) (hn : Nat.blt dd n = true := by rfl) (hg : Wn ops F g := by first | exact .none | exact .some rfl rfl) :
    LP r P n D W Bo ops Q (⟨some dd, .convert ta ta x, ty, ps, af, g⟩ :: rest) F (.row (some ⟨b, 0, none⟩) m e 1 m xs :: l) := by
  refine s_new (σ := Unit) (fun _ => .slice (some ⟨b, 0, none⟩) m m) (fun _ => .blk b (.cells xs.toArray e (m, m + 1)) :: l) (fun _ => True) (by simp) ?_ (hn := hn) (hg := hg) (h := fun _ _ => h)
  intro ac w ha hw
  obtain ⟨h1, h2, h3⟩ := (hw.own _ (.head _)).1
  rcases h3 with ⟨h3, _⟩ | ⟨g', cur, hg', hgo, hcm, hcs, htk⟩
  · cases h3
  · cases hg'
    have hcur : cur = xs.toArray := by
      apply Array.ext'
      rw [List.toList_toArray, ← htk, List.take_of_length_le (by rw [Array.length_toList, hcs]; exact Nat.le_refl _)]
    subst hcur
    have hsz : xs.toArray.size = m := by rw [List.size_toArray, hl]
    have hsh : w.shape? b = some (e, m) := by unfold World.shape?; rw [hgo]; show some (e, xs.toArray.size) = _; rw [hsz]
    have hb : b < w.heap.size := (Array.getElem?_eq_some_iff.1 hgo).1
    have hfz : (w.freeze ⟨b, m, none⟩ 1).heap[b]? = some (.cells xs.toArray e (m, m + 1)) := by
      unfold World.freeze
      rw [if_neg (by decide)]
      show (w.heap.modify b _)[b]? = _
      rw [Array.getElem?_modify, if_pos rfl, hgo]
      rfl
    have hfo : ∀ k, k ≠ b → (w.freeze ⟨b, m, none⟩ 1).heap[k]? = w.heap[k]? := by
      intro k hk
      unfold World.freeze
      rw [if_neg (by decide)]
      show (w.heap.modify b _)[k]? = _
      rw [Array.getElem?_modify, if_neg (fun e => hk e.symm)]
    have hfs : (w.freeze ⟨b, m, none⟩ 1).heap.size = w.heap.size := by
      unfold World.freeze
      rw [if_neg (by decide)]
      show (w.heap.modify b _).size = _
      rw [Array.size_modify]
    have ho : (w.freeze ⟨b, m, none⟩ 1).os = w.os ∧ (w.freeze ⟨b, m, none⟩ 1).tape = w.tape ∧ (w.freeze ⟨b, m, none⟩ 1).output = w.output := by
      unfold World.freeze
      rw [if_neg (by decide)]
      exact ⟨rfl, rfl, rfl⟩
    refine ⟨(), w.freeze ⟨b, m, none⟩ 1, trivial, ?_, hw.change (Rep.head _) ho.1 ho.2.1 ho.2.2 (by rw [hfs]; exact Nat.le_refl _) (fun k _ hk => hfo k (fun e => hk (by rw [e]; rfl))) hfz (fun k hk => .inl hk)⟩
    simp [execOp, ha.eval hx, convert, run_underlying ht.h, run_underlying he.h, markStringish, hsh]
end
end Eng
namespace Itm
open Go Eng Cod Gf Sha Cha Sig Wr Go.Proofs.YtejdjnkilikehaaGreatDoor
section
variable {f d c k x : Int} {cm ks sd : List UInt8} {S : Value}
end
theorem fillE {cm ks : List UInt8} (hcm : cm.length = 32) (hks : ks.length = 32) : fillL (fun i => (#[(0, 32), (32, 32)] : Array (Nat × Nat))[i]?) (bs (List.replicate 64 0)) [(0, .agg (bs cm).toArray), (1, .agg (bs ks).toArray)] = some (bs cm ++ bs ks) := by
  rw [fillL_st (off := 0) (m := 32) rfl (by show (bs cm).toArray.toList.length = 32; rw [List.toList_toArray, bs_length, hcm]) (by rw [bs_length, List.length_replicate]; decide) rfl]
  rw [fillL_st (off := 32) (m := 32) (z' := bs cm ++ bs ks) rfl (by show (bs ks).toArray.toList.length = 32; rw [List.toList_toArray, bs_length, hks]) (by show _ ≤ (_ ++ (bs cm).toArray.toList ++ _ : List Value).length; simp [bs_length, hcm]) ?_]
  · rfl
  · have e1 : (Value.agg (bs cm).toArray).cells.toList = bs cm := List.toList_toArray
    have e2 : (Value.agg (bs ks).toArray).cells.toList = bs ks := List.toList_toArray
    rw [e1, e2, List.take_zero, List.nil_append, List.take_left' (by rw [bs_length, hcm]), List.drop_eq_nil_of_le (by simp [bs_length, hcm]), List.append_nil]
def e1 : List UInt8 := 1 :: List.replicate 31 0
def e2 : List UInt8 := 2 :: List.replicate 31 0
def e3 : List UInt8 := 3 :: List.replicate 31 0
def pln : List UInt8 := [112, 108, 97, 105, 110]
noncomputable def sI : It := sl 3 e1 e2 5 7 1 11 pln e3
theorem R64_s (z : Nat) (h : z < 100) : R64 (z : Int) := by unfold R64; omega
theorem n_357 : numB 3 5 7 1 = true := by decide
theorem sI_wf : sI.Wf := sl_wf (R64_s 3 (by decide)) rfl (R64_s 5 (by decide)) (R64_s 7 (by decide)) (R64_s 1 (by decide))
theorem pln_le : pln.length ≤ 65532 := by decide
theorem sI_len : sI.bd.length = 80 := by
  have h : sI.bd.length = (pad pln).length + 16 := sl_bd
  have h2 := pad_length pln_le
  have h3 : plen (pcl ((pln.length : Nat) : Int)) = 64 := by decide
  omega
theorem sI_open : sI.openB e1 e2 = pln ∧ sI.openE e1 e2 = 0 := sl_open n_357 pln_le
theorem sI_via : sI.viaB (lnk e2 : Nat) sI.cA sI.cB sI.pd = pln ∧ sI.viaE (lnk e2 : Nat) sI.cA sI.cB sI.pd = 0 := sl_via n_357 pln_le
theorem sI_chk : sI.chk (pp 4 11 : Nat) = 0 := sl_chk n_357 pln_le
theorem sI_vld : sI.vld = true := sl_vld n_357 pln_le
theorem n_no (f d k : Int) : numB f d 0 k = false := by unfold numB; simp
theorem it0_vld (f : Int) : ({ it0 with fo := f } : It).vld = false := by
  unfold It.vld
  rw [show numB ({ it0 with fo := f } : It).fo ({ it0 with fo := f } : It).dv ({ it0 with fo := f } : It).ct ({ it0 with fo := f } : It).kd = false from n_no f 0 0, Bool.false_and]
theorem it0_vld' : it0.vld = false := it0_vld 0
theorem it0_open (a b : List UInt8) : it0.openB a b = [] ∧ it0.openE a b = 290 := by
  unfold It.openB It.openE
  rw [it0_vld', if_neg (by simp), if_neg (by simp)]; exact ⟨rfl, rfl⟩
theorem it0_chk (v : Int) : it0.chk v = 290 := by unfold It.chk; rw [it0_vld', if_neg (by simp)]
theorem it0_enc (f : Int) : ({ it0 with fo := f } : It).encB = [] := by unfold It.encB; rw [it0_vld, if_neg (by simp)]
theorem sI_enc : sI.encB = sI.all ∧ sI.encE = 0 := by
  unfold It.encB It.encE
  rw [sI_vld, if_pos rfl, if_pos rfl]; exact ⟨rfl, rfl⟩
theorem sI_dcd : dcd sI.encB = (sI, 0) := by
  rw [sI_enc.1]
  exact dcd_all sI_wf (by rw [sI_len]; decide) sI_vld
theorem vI_vv (w : World) (n : Int) (h : R64 n) : Vv w (vI n) (.agg #[I 1, I n, .string (sb []), .slice none 0 0]) := (flat_I h).vv w
theorem vI_dep (n : Int) : (vI n).dep = 0 := by rw [V.dep, if_neg (by decide)]
theorem vI_chk (n : Int) : (vI n).chk = 0 := by rw [V.chk, if_pos (vI_ok n), vI_dep]; rfl
theorem vI_encd (n : Int) : (vI n).encd = (vI n).enc := by rw [V.encd, if_pos (vI_chk n)]
theorem n5_dcd : dcd (vI 5).encd = (it0, 290) := by
  rw [vI_encd]
  have h := rd_flat (flat_I (R64_s 5 (by decide))) (vI_ok 5) (by show (1 : Int) ≠ 3; decide) 16 []
  rw [List.append_nil] at h
  unfold dcd
  have h' : rdVal 16 (vI 5).enc = some (vI 5, []) := h
  rw [h']
  exact if_neg (fun e => absurd e.1 (by show (0 : Nat) ≠ 12; decide))
end Itm
namespace Go.Proofs.YtejdjnkilikehaaGreatDoor
open Go Eng Gf Sha Sig Wr Cod Cha Itm
set_option maxRecDepth 100000
theorem y_bek {n : Nat} {D : List Deferred} {W : World} {Bo : List Nat} {F : List (Nat × Value)} {l : SH} {d : Option Tmp} {ty : TypeId} {ps : String} {af : Array Edge} {g : Option (Nat × Bool)} {parts : Array (Nat × Operand)} {vs : List (Nat × Value)} {cs : List Value}
    (hf : fillL (fun i => (#[(0, 32), (32, 32)] : Array (Nat × Nat))[i]?) (bs (List.replicate 64 0)) vs = some cs) (hp : evP F parts.toList = some vs := by rfl) :
    Y Tryz.prog n D W Bo ⟨d, .build 26 parts, ty, ps, af, g⟩ F l (.agg cs.toArray) :=
  y_blds Tryz.underlying26 (fun w => by kernel_rfl) hp (by exact hf)
end Go.Proofs.YtejdjnkilikehaaGreatDoor
end
section
namespace Itm
open Go Eng Cod Gf Sha Cha Sig Wr Go.Proofs.YtejdjnkilikehaaGreatDoor
theorem rdL_mem {g : List UInt8 → Option (V × List UInt8)} : ∀ (n : Nat) (q : List UInt8) (L : List V) (q' : List UInt8), rdL g n q = some (L, q') → ∀ v ∈ L, ∃ q1 q2, g q1 = some (v, q2)
  | 0, q, L, q', h => by
    simp only [rdL, Option.some.injEq, Prod.mk.injEq] at h
    obtain ⟨rfl, rfl⟩ := h
    simp
  | n + 1, q, L, q', h => by
    have hl := rdL_length h
    cases L with
    | nil => simp at hl
    | cons v L =>
      obtain ⟨q2, h1, h2⟩ := rdL_cons h
      intro u hu
      rcases List.mem_cons.1 hu with rfl | hu
      · exact ⟨_, _, h1⟩
      · exact rdL_mem n _ _ _ h2 u hu
theorem rd_r64 {f : Nat} {q q' : List UInt8} {v : V} (h : rdVal f q = some (v, q')) : R64 v.n := by
  cases q with
  | nil => cases f <;> simp [rdVal] at h
  | cons x q =>
    rcases rdVal_inv h with ⟨h1, u, h2, rfl⟩ | ⟨h1, N, q1, h2, rfl, rfl⟩ | ⟨h1, f', N, q1, L, rfl, h2, h3, rfl⟩
    · have := (rdNum_inv0 h2).2
      show R64 (sgn u)
      unfold R64 sgn
      split <;> omega
    · exact R64_0
    · exact R64_0
theorem dcd_wf (q : List UInt8) : (dcd q).1.Wf := by
  unfold dcd
  split
  · rename_i v h
    unfold dcV
    split
    · rename_i hc
      cases q with
      | nil => simp [rdVal] at h
      | cons x q =>
        rcases rdVal_inv h with ⟨h1, u, h2, rfl⟩ | ⟨h1, N, q1, h2, rfl, h4⟩ | ⟨h1, f', N, q1, L, hf, h2, h3, rfl⟩
        · exact absurd hc.1 (by show (0 : Nat) ≠ 12; decide)
        · exact absurd hc.1 (by show (0 : Nat) ≠ 12; decide)
        · have hL : L.length = 12 := hc.1
          have key : ∀ k, k < 12 → R64 (nn L k) := fun k hk => by
            rw [show nn L k = L[k].n by unfold nn; rw [List.getD_eq_getElem?_getD, List.getElem?_eq_getElem (by omega)]; rfl]
            obtain ⟨a, b, e⟩ := rdL_mem _ _ _ _ h3 L[k] (List.getElem_mem _)
            exact rd_r64 e
          exact ⟨key 0 (by decide), dig_length _, key 1 (by decide), key 2 (by decide), key 3 (by decide), key 4 (by decide), key 6 (by decide), key 7 (by decide), dig_length _, key 10 (by decide), key 11 (by decide)⟩
    · exact it0_wf
  · exact it0_wf
theorem vld_bd {i : It} (h : i.vld = true) : i.bd.length ≤ 65552 := by
  unfold It.vld at h
  simp only [Bool.and_eq_true, decide_eq_true_eq] at h
  have := lnV_bd i.sz
  omega
theorem dcd_bd (q : List UInt8) : (dcd q).1.bd.length ≤ 70000 := by
  by_cases h : (dcd q).2 = 0
  · have := vld_bd (dcd_enc h).1; omega
  · rw [dcd_no h]; exact Nat.zero_le _
theorem all_len2 {i : It} (h : i.Wf) (hb : i.bd.length ≤ 70000) : i.all.length ≤ i.bd.length + 2000 := by
  have h1 := h.cm
  have h2 := h.pd
  have e1 := vI_len h.fo
  have e2 := vI_len h.dv
  have e3 := vI_len h.ct
  have e4 := vI_len h.kd
  have e5 := vI_len h.sz
  have e6 := vT_len (s := i.cm) (by omega)
  have e7 := vI_len h.cA
  have e8 := vI_len h.cB
  have e9 := vT_len (s := i.pd) (by omega)
  have e11 := vT_len (s := i.bd) (by omega)
  have e12 := vI_len h.sR
  have e13 := vI_len h.sS
  have e10 := num_le (show i.al.length < 18446744073709551616 by show 12 < _; decide)
  unfold It.all
  rw [V.enc, if_neg (by decide), if_neg (by decide), List.length_cons, List.length_append]
  unfold It.al It.hl at e10 ⊢
  simp only [List.cons_append, List.nil_append] at e10
  simp only [List.cons_append, List.nil_append, encL, List.length_append, List.length_nil]
  omega
theorem enc_len2 {i : It} (h : i.Wf) (hb : i.bd.length ≤ 66000) : i.encB.length ≤ 70000 := by
  unfold It.encB
  split
  · have := all_len2 h (by omega); omega
  · exact Nat.zero_le _
theorem slR_s : slR 3 e1 e2 5 7 1 ((11 : Nat) : Int) pln e3 = (sI, 0) := by
  unfold slR
  rw [if_pos n_357, if_pos (pvB_of (by decide) (by decide)), if_pos (padE_0.2 pln_le), Int.toNat_natCast]; rfl
theorem slR_16 : slR 16 e1 e2 5 7 1 ((11 : Nat) : Int) [] e3 = (it0, 290) := by
  unfold slR
  rw [if_neg (by decide)]
end Itm
end
section
namespace Itm
open Go Eng Cod Gf Sha Cha Sig Wr Go.Proofs.YtejdjnkilikehaaGreatDoor
theorem it0_enc' : it0.encB = [] := it0_enc 0
theorem it16_wf : ({ it0 with fo := 16 } : It).Wf := ⟨R64_s 16 (by decide), rfl, R64_0, R64_0, R64_0, R64_0, R64_0, R64_0, rfl, R64_0, R64_0⟩
abbrev z32 : List UInt8 := List.replicate 32 0
theorem z32_len : z32.length = 32 := List.length_replicate
theorem e1_len : e1.length = 32 := rfl
theorem e2_len : e2.length = 32 := rfl
theorem n5_len : (vI 5).encd.length ≤ 70000 := by
  rw [vI_encd]
  exact Nat.le_trans (vI_len (R64_s 5 (by decide))) (by decide)
end Itm
namespace Go.Proofs.YtejdjnkilikehaaGreatDoor
open Go Eng Gf Sha Sig Wr Cod Cha Itm
set_option maxRecDepth 100000
theorem seal_s (w : World) (a : Option Addr) (hg : LG w) (hr : Rd w a (bs pln)) : GivesI 41 [I 3, .agg (bs e1 ++ bs e2).toArray, I 5, I 7, I 1, I 11, .slice a 5 5, .agg (bs e3).toArray] w sI 0 := by
  have h : GivesI 41 [I 3, .agg (bs (e1 ++ e2)).toArray, I 5, I 7, I 1, I ((11 : Nat) : Int), .slice a pln.length 5, .agg (bs e3).toArray] w (slR 3 e1 e2 5 7 1 ((11 : Nat) : Int) pln e3).1 (slR 3 e1 e2 5 7 1 ((11 : Nat) : Int) pln e3).2 :=
    Seal_ok w 3 e1 e2 5 7 1 ((11 : Nat) : Int) pln e3 a 5 hg (R64_s 3 (by decide)) rfl rfl (R64_s 5 (by decide)) (R64_s 7 (by decide)) (R64_s 1 (by decide)) rfl hr (by decide)
  rw [slR_s, bs_append] at h
  exact h
theorem seal_16 (w : World) (hg : LG w) : GivesI 41 [I 16, .agg (bs e1 ++ bs e2).toArray, I 5, I 7, I 1, I 11, .slice none 0 0, .agg (bs e3).toArray] w it0 290 := by
  have h : GivesI 41 [I 16, .agg (bs (e1 ++ e2)).toArray, I 5, I 7, I 1, I ((11 : Nat) : Int), .slice none ([] : List UInt8).length 0, .agg (bs e3).toArray] w (slR 16 e1 e2 5 7 1 ((11 : Nat) : Int) [] e3).1 (slR 16 e1 e2 5 7 1 ((11 : Nat) : Int) [] e3).2 :=
    Seal_ok w 16 e1 e2 5 7 1 ((11 : Nat) : Int) [] e3 none 0 hg (R64_s 16 (by decide)) rfl rfl (R64_s 5 (by decide)) (R64_s 7 (by decide)) (R64_s 1 (by decide)) rfl (Rd.nil _ _) (by decide)
  rw [slR_16, bs_append] at h
  exact h
theorem law_sane_ok (w : World) (hg : LG w) : Pure Tryz.prog 12 [] w (.bool true) := by
  refine enter Tryz.func12 Tryz.ntmps12 ?_
  refine c_seq <| c_reg <| s_y y_as <| s_nil <| q_then <| c_seq <| c_reg <| s_y (y_blda (cs := bs e1) (hf := by kernel_rfl)) <| s_y (y_blda (cs := bs e2) (hf := by kernel_rfl)) <| s_y (y_bek (fillE e1_len e2_len)) <| s_alloc fun b1 => s_sta (b := b1) (vs := (bs e1 ++ bs e2).toArray) (cs := (bs (List.replicate 64 0)).toArray) (h1 := by intro v hv; simp at hv; rcases hv with h | h <;> first | rfl | exact bs_one h) (hl := by simp [bs_length, List.length_replicate, e1_len, e2_len]) (hs1 := (by simp [bs_length, e1_len, e2_len])) ?_
  refine s_nil <| q_then <| c_seq <| c_reg <| s_y (y_lda (b := b1) (cs := (bs e1 ++ bs e2).toArray) (hl := (by simp [bs_length, e1_len, e2_len]))) <| s_bslr (cs := bs pln) (hf := by kernel_rfl) fun b27 => s_mark rfl <| s_y (y_blda (cs := bs e3) (hf := by kernel_rfl)) <| s_gives (fun w' hw => seal_s w' (some ⟨b27, 0, none⟩) (hg.st hw) (rdB (.head _) (fun i v h => by rw [Nat.zero_add, List.getElem?_toArray]; exact h) w' hw)) fun (x30 : IX) hx30 => s_y y_mv <| s_y y_ext <| s_y y_ext <| s_allocC (cs := (itC it0 (.slice none 0 0)).toArray) (by kernel_rfl) fun b2 => s_sta (b := b2) (vs := (itC sI (.slice x30.a sI.bd.length x30.c)).toArray) (cs := (itC it0 (.slice none 0 0)).toArray) (h1 := it_one) (hl := (it_size sI_wf.cm sI_wf.pd).trans (it_size rfl rfl).symm) (hs1 := it_size sI_wf.cm sI_wf.pd) ?_
  refine s_y y_as <| s_nil <| q_then <| c_seq <| c_reg <| s_y (y_lda (b := b1) (cs := (bs e1 ++ bs e2).toArray) (hl := (by simp [bs_length, e1_len, e2_len]))) <| s_y (y_blda (cs := bs e3) (hf := by kernel_rfl)) <| s_gives (fun w' hw => seal_16 w' (hg.st hw)) fun (x36 : IX) hx36 => s_y y_mv <| s_y y_ext <| s_y y_ext <| s_allocC (cs := (itC it0 (.slice none 0 0)).toArray) (by kernel_rfl) fun b4 => s_sta (b := b4) (vs := (itC it0 (.slice x36.a it0.bd.length x36.c)).toArray) (cs := (itC it0 (.slice none 0 0)).toArray) (h1 := it_one) (hl := (it_size it0_wf.cm it0_wf.pd).trans (it_size rfl rfl).symm) (hs1 := it_size it0_wf.cm it0_wf.pd) ?_
  refine s_y y_as <| s_nil <| q_then <| c_seq <| c_reg <| s_y (y_bek (vs := []) (cs := bs z32 ++ bs z32) rfl) <| s_y (y_bitem (vs := []) (i := it0) (s := .slice none 0 0) rfl) <| s_gives (fun w' hw => (by have h9 := Open_ok' w' it0 none 0 z32 z32 z32_len z32_len (Nat.le_refl _) it0_wf (hg.st hw) (Rd.nil _ _) (Nat.zero_le _); rw [(it0_open _ _).1, (it0_open _ _).2] at h9; exact h9)) fun (x42 : OX) hx42 => s_y y_mv <| s_y y_ext <| s_y y_ext <| s_y y_as <| s_y y_as <| s_nil <| q_then <| c_seq <| c_reg <| s_y (y_lda (b := b1) (cs := (bs e1 ++ bs e2).toArray) (hl := (by simp [bs_length, e1_len, e2_len]))) <| s_y (y_lda (b := b2) (cs := (itC sI (.slice x30.a sI.bd.length x30.c)).toArray) (hl := it_size sI_wf.cm sI_wf.pd)) <| s_gives (fun w' hw => (by have h9 := Open_ok' w' sI x30.a x30.c e1 e2 e1_len e2_len (hx30 w' (hw.own _ (.tail _ (.tail _ (.tail _ (.tail _ (.head _)))))).1).2 sI_wf (hg.st hw) (hx30 w' (hw.own _ (.tail _ (.tail _ (.tail _ (.tail _ (.head _)))))).1).1 (by rw [sI_len]; decide); rw [sI_open.1, sI_open.2] at h9; exact h9)) fun (x48 : OX) hx48 => s_y y_mv <| s_y y_ext <| s_y y_ext <| s_y y_as <| s_y y_as <| s_nil <| q_then <| c_seq <| c_regL [x48.row, x42.row, .blk b4 (.cells (itC it0 (.slice x36.a it0.bd.length x36.c)).toArray 36 (0, 0)), x36.r, .blk b2 (.cells (itC sI (.slice x30.a sI.bd.length x30.c)).toArray 36 (0, 0)), x30.r, .blk b27 (.cells (bs pln).toArray 5 (5, 5 + 1)), .blk b1 (.cells (bs e1 ++ bs e2).toArray 26 (0, 0))] <| r_y 0 rfl y_fa <| r_y 1 rfl (y_ldin (b := b1) (off := 0 + 32) (cs := (bs e1 ++ bs e2).toArray) (ys := bs e2) (hl := by rw [bs_length, e2_len]) (hv := (fun j v h => by rw [List.getElem?_toArray, List.getElem?_append_right (by rw [bs_length, e1_len]; omega), bs_length, e1_len, show 0 + 32 + j - 32 = j by omega]; exact h))) <| r_y 3 rfl y_fa <| r_y 4 rfl (y_ldin (b := b2) (off := 37) (cs := (itC sI (.slice x30.a sI.bd.length x30.c)).toArray) (ys := (I sI.cA :: I sI.cB :: bs sI.pd)) (hl := (by simp [bs_length, sI_wf.pd])) (hv := it_cap sI_wf.cm)) <| r_y 5 rfl (y_lda (b := b2) (cs := (itC sI (.slice x30.a sI.bd.length x30.c)).toArray) (hl := it_size sI_wf.cm sI_wf.pd)) <| r_W 2 rfl <| s_pure (fun w' hw => (show Pure Tryz.prog 31 [.agg (bs e2).toArray] w' (I ((lnk e2 : Nat) : Int)) from sch_Link_ok w' e2 (hg.ls.st hw) e2_len)) <| r_K <| r_W 6 rfl <| s_gives (fun w' hw => (by have h9 := Via_ok w' sI x30.a x30.c ((lnk e2 : Nat) : Int) sI.cA sI.cB sI.pd sI_wf.pd (hx30 w' (hw.own _ (.tail _ (.tail _ (.tail _ (.tail _ (.tail _ (.head _))))))).1).2 sI_wf (hg.st hw) (hx30 w' (hw.own _ (.tail _ (.tail _ (.tail _ (.tail _ (.tail _ (.head _))))))).1).1 (by rw [sI_len]; decide); rw [sI_via.1, sI_via.2] at h9; exact h9)) fun (x58 : OX) hx58 => r_K <| r_y 7 rfl y_mv <| r_y 8 rfl y_ext <| r_y 9 rfl y_ext <| r_y 10 rfl y_as <| r_y 11 rfl y_as <| r_E <| q_then <| c_seq <| c_reg <| s_pure (fun w' hw => sPublic_yes w' 11 (by decide) (by decide)) <| s_y y_mv <| s_y y_ext <| s_y y_ext <| s_y y_as <| s_y y_as <| s_nil <| q_then <| c_seq <| c_reg <| s_y (y_lda (b := b2) (cs := (itC sI (.slice x30.a sI.bd.length x30.c)).toArray) (hl := it_size sI_wf.cm sI_wf.pd)) <| s_gives (fun w' hw => (by have h9 := Encode_ok w' sI x30.a x30.c sI_wf (hg.st hw) (hx30 w' (hw.own _ (.tail _ (.tail _ (.tail _ (.tail _ (.tail _ (.tail _ (.head _)))))))).1).1 (by rw [sI_len]; decide); rw [sI_enc.2] at h9; exact h9)) fun (x67 : Option Addr × Nat) _ => s_y y_mv <| s_y y_ext <| s_y y_ext <| s_y y_as <| s_y y_as <| s_nil <| q_then <| c_seq <| c_reg <| s_y y_mv <| s_gives (fun w' hw => (by have h9 := Decode_ok' w' x67.1 x67.2 sI.encB (hg.st hw) (rdR (.head _) w' hw) (row_fact hw (.head _)).1 (Nat.le_trans (row_fact hw (.head _)).2 (by decide)) (enc_len2 sI_wf (by rw [sI_len]; decide)); rw [sI_dcd] at h9; exact h9)) fun (x72 : IX) hx72 => s_y y_mv <| s_y y_ext <| s_y y_ext <| s_allocC (cs := (itC it0 (.slice none 0 0)).toArray) (by kernel_rfl) fun b16 => s_sta (b := b16) (vs := (itC sI (.slice x72.a sI.bd.length x72.c)).toArray) (cs := (itC it0 (.slice none 0 0)).toArray) (h1 := it_one) (hl := (it_size sI_wf.cm sI_wf.pd).trans (it_size rfl rfl).symm) (hs1 := it_size sI_wf.cm sI_wf.pd) ?_
  refine s_y y_as <| s_nil <| q_then <| c_seq <| c_reg <| s_pure (fun w' hw => l_num_ok w' 5) <| s_gives (fun w' hw => (by have h9 := codec_Encode_ok w' (vI 5) _ (vI_vv w' 5 (R64_s 5 (by decide))) (by rw [vI_dep]; decide) (Nat.le_trans (vI_len (R64_s 5 (by decide))) (by decide)); rw [vI_chk] at h9; exact h9)) fun (x77 : Option Addr × Nat) _ => s_y y_mv <| s_y y_ext <| s_y y_ext <| s_y y_as <| s_y y_as <| s_nil <| q_then <| c_seq <| c_reg <| s_y y_mv <| s_gives (fun w' hw => (by have h9 := Decode_ok' w' x77.1 x77.2 ((vI 5).encd) (hg.st hw) (rdR (.head _) w' hw) (row_fact hw (.head _)).1 (Nat.le_trans (row_fact hw (.head _)).2 (by decide)) n5_len; rw [n5_dcd] at h9; exact h9)) fun (x82 : IX) hx82 => s_y y_mv <| s_y y_ext <| s_y y_ext <| s_allocC (cs := (itC it0 (.slice none 0 0)).toArray) (by kernel_rfl) fun b20 => s_sta (b := b20) (vs := (itC it0 (.slice x82.a it0.bd.length x82.c)).toArray) (cs := (itC it0 (.slice none 0 0)).toArray) (h1 := it_one) (hl := (it_size it0_wf.cm it0_wf.pd).trans (it_size rfl rfl).symm) (hs1 := it_size it0_wf.cm it0_wf.pd) ?_
  refine s_y y_as <| s_nil <| q_then <| c_seq <| c_seq <| c_reg <| s_y y_mv <| s_nf (y_neq (p := 0) (q := 0)) (by omega) <| s_y y_mv <| s_y y_mv <| s_nf (y_neq (p := 290) (q := 290)) (by omega) <| s_y y_pk <| s_y y_mv <| s_y y_mv <| s_nf (y_neq (p := 290) (q := 290)) (by omega) <| s_y y_pk <| s_y y_mv <| s_y y_mv <| s_nf (y_neq (p := 0) (q := 0)) (by omega) <| s_y y_pk <| s_y y_mv <| s_y y_mv <| s_nf (y_neq (p := 0) (q := 0)) (by omega) <| s_y y_pk <| s_y y_mv <| s_y y_mv <| s_nf (y_neq (p := 0) (q := 0)) (by omega) <| s_y y_pk <| s_y y_mv <| s_y y_mv <| s_nf (y_neq (p := 0) (q := 0)) (by omega) <| s_y y_pk <| s_y y_mv <| s_y y_mv <| s_nf (y_neq (p := 0) (q := 0)) (by omega) <| s_y y_pk <| s_y y_mv <| s_y y_mv <| s_nf (y_neq (p := 0) (q := 0)) (by omega) <| s_y y_pk <| s_y y_mv <| s_y y_mv <| s_nf (y_neq (p := 290) (q := 290)) (by omega) <| s_y y_pk <| s_nil <| q_then <| c_f <| c_skip <| q_then <| c_seq <| c_reg <| s_y y_mv <| s_y (y_b2s (q := pln) (hr := fun w' hw => OX.ok.rd hx48 w' (hw.own _ (.tail _ (.tail _ (.tail _ (.tail _ (.tail _ (.tail _ (.tail _ (.head _))))))))).1)) <| s_kt (y_eqls (a := sb pln) (b := sb [112, 108, 97, 105, 110])) rfl <| s_y y_mv <| s_y y_mv <| s_y (y_b2s (q := pln) (hr := fun w' hw => OX.ok.rd hx58 w' (hw.own _ (.tail _ (.tail _ (.tail _ (.tail _ (.tail _ (.tail _ (.head _)))))))).1)) <| s_kt (y_eqls (a := sb pln) (b := sb [112, 108, 97, 105, 110])) rfl <| s_y y_pk <| s_y y_mv <| s_y (y_lda (b := b2) (cs := (itC sI (.slice x30.a sI.bd.length x30.c)).toArray) (hl := it_size sI_wf.cm sI_wf.pd)) <| s_y y_mv <| s_pure (fun w' hw => (by have h9 := Check_ok w' sI x30.a x30.c (pp 4 11 : Nat) sI_wf (hg.st hw) (hx30 w' (hw.own _ (.tail _ (.tail _ (.tail _ (.tail _ (.tail _ (.tail _ (.tail _ (.tail _ (.tail _ (.tail _ (.tail _ (.tail _ (.head _)))))))))))))).1).1 (by rw [sI_len]; decide); rw [sI_chk] at h9; exact h9)) <| s_kt (y_eql (p := 0) (q := 0)) (by omega) <| s_y y_pk <| s_y y_mv <| s_y (y_bitem (vs := []) (i := it0) (s := .slice none 0 0) rfl) <| s_pure (fun w' hw => (by have h9 := Check_ok w' it0 none 0 4 it0_wf (hg.st hw) (Rd.nil _ _) (Nat.zero_le _); rw [it0_chk] at h9; exact h9)) <| s_kt (y_eql (p := 290) (q := 290)) (by omega) <| s_y y_pk <| s_y y_mv <| s_y (y_lda (b := b16) (cs := (itC sI (.slice x72.a sI.bd.length x72.c)).toArray) (hl := it_size sI_wf.cm sI_wf.pd)) <| s_y (y_lda (b := b2) (cs := (itC sI (.slice x30.a sI.bd.length x30.c)).toArray) (hl := it_size sI_wf.cm sI_wf.pd)) <| s_pure (fun w' hw => r_Same_ok w' sI x72.a x30.a x72.c x30.c sI_wf.cm sI_wf.pd (hx72 w' (hw.own _ (.tail _ (.tail _ (.tail _ (.tail _ (.head _)))))).1).1 (hx30 w' (hw.own _ (.tail _ (.tail _ (.tail _ (.tail _ (.tail _ (.tail _ (.tail _ (.tail _ (.tail _ (.tail _ (.tail _ (.tail _ (.head _)))))))))))))).1).1) <| s_y y_pk <| s_y y_mv <| s_y y_fa <| s_y (y_ld (b := b2) (v := .slice x30.a sI.bd.length x30.c) (hv := it_bd sI_wf.cm sI_wf.pd)) <| s_y y_len <| s_kt (y_eql (p := sI.bd.length) (q := 80)) (by rw [sI_len]; rfl) <| s_y y_pk <| s_y y_mv <| s_y (y_bitem (vs := []) (i := it0) (s := .slice none 0 0) rfl) <| s_pure (fun w' hw => (by have h9 := ID_ok w' it0 none 0 it0_wf (hg.st hw) (Rd.nil _ _) (Nat.zero_le _); rw [it0_enc'] at h9; exact h9)) <| s_y (y_bitem (i := { it0 with fo := 16 }) (s := .slice none 0 0) (fI0 rfl rfl 16)) <| s_pure (fun w' hw => (by have h9 := ID_ok w' ({ it0 with fo := 16 }) none 0 it16_wf (hg.st hw) (Rd.nil _ _) (Nat.zero_le _); rw [(it0_enc 16)] at h9; exact h9)) <| s_kt (y_eqla (p := tagged lbItem []) (q := tagged lbItem []) (tagged_length _ _) (tagged_length _ _) hgd) rfl <| s_y y_pk <| s_y y_as <| s_nil <| q_then <| c_ret <| ?_
  exact ret1 Tryz.results12 rv_t fun w' hw => ⟨rfl, hw.sub (List.nil_sublist _)⟩
end Go.Proofs.YtejdjnkilikehaaGreatDoor
end
section
namespace Go.Proofs.YtejdjnkilikehaaGreatDoor
open Go Eng Gf Sha Sig Wr Cod Cha Itm
set_option maxRecDepth 100000
end Go.Proofs.YtejdjnkilikehaaGreatDoor
end
section
namespace Itm
open Go Eng Cod Gf Sha Cha Sig Wr Go.Proofs.YtejdjnkilikehaaGreatDoor
section
variable {f d c k : Int} {cm ks q s : List UInt8} {x : Nat}
end
end Itm
namespace Go.Proofs.YtejdjnkilikehaaGreatDoor
open Go Eng Gf Sha Sig Wr Cod Cha Itm
set_option maxRecDepth 100000
end Go.Proofs.YtejdjnkilikehaaGreatDoor
end
section
namespace Go.Proofs.YtejdjnkilikehaaGreatDoor
open Go Eng Gf Sha Sig Wr Cod Cha Itm
set_option maxRecDepth 100000
theorem law_ItemsEncodeSpec_many (w : World) (hg : LG w) (i : It) (a : Option Addr) (c : Nat) (h : i.Wf) (hr : Rd w a (bs i.bd)) (hcc : i.bd.length ≤ c) (bq : List UInt8) (a2 : Option Addr) (c2 : Nat) (hr2 : Rd w a2 (bs bq)) (hc2 : bq.length ≤ c2) (hm2 : c2 ≤ 9223372036854775807) (h1 : 1200 < i.bd.length) : Pure Tryz.prog 5 [itV i (.slice a i.bd.length c), .slice a2 bq.length c2] w (.bool true) := by
  refine enter Tryz.func5 Tryz.ntmps5 ?_
  refine c_seq <| c_reg <| s_box rfl fun b2 => s_y y_as <| s_nil <| q_then <| c_seq <| c_seq <| c_reg <| s_pure (fun w' hw => law_sane_ok w' (hg.st hw)) <| s_y (v := .bool false) (y_not (b := true)) <| s_nil <| q_then <| c_f <| c_skip <| q_then <| c_seq <| c_seq <| c_reg <| s_y (y_lda (b := b2) (cs := (itC i (.slice a i.bd.length c)).toArray) (hl := it_size h.cm h.pd)) <| s_pure (fun w' hw => (by have h9 := r_Few_ok w' i a c h.cm h.pd; rw [decide_eq_false (show ¬ ((i.bd.length : Int) ≤ 1200) by omega)] at h9; exact h9)) <| s_y (v := .bool true) (y_not (b := false)) <| s_y y_mv <| s_no <| s_no <| s_no <| s_y y_pk <| s_nil <| q_then <| c_t <| c_seq <| c_reg <| s_y y_as <| s_nil <| q_then <| c_ret <| q_ret <| ?_
  exact ret1 Tryz.results5 rv_t fun w' hw => ⟨rfl, hw.sub (List.nil_sublist _)⟩
theorem law_ItemsEncodeSpec_long (w : World) (hg : LG w) (i : It) (a : Option Addr) (c : Nat) (h : i.Wf) (hr : Rd w a (bs i.bd)) (hcc : i.bd.length ≤ c) (bq : List UInt8) (a2 : Option Addr) (c2 : Nat) (hr2 : Rd w a2 (bs bq)) (hc2 : bq.length ≤ c2) (hm2 : c2 ≤ 9223372036854775807) (h1 : i.bd.length ≤ 1200) (h2 : 2000 < bq.length) : Pure Tryz.prog 5 [itV i (.slice a i.bd.length c), .slice a2 bq.length c2] w (.bool true) := by
  refine enter Tryz.func5 Tryz.ntmps5 ?_
  refine c_seq <| c_reg <| s_box rfl fun b2 => s_y y_as <| s_nil <| q_then <| c_seq <| c_seq <| c_reg <| s_pure (fun w' hw => law_sane_ok w' (hg.st hw)) <| s_y (v := .bool false) (y_not (b := true)) <| s_nil <| q_then <| c_f <| c_skip <| q_then <| c_seq <| c_seq <| c_reg <| s_y (y_lda (b := b2) (cs := (itC i (.slice a i.bd.length c)).toArray) (hl := it_size h.cm h.pd)) <| s_pure (fun w' hw => (by have h9 := r_Few_ok w' i a c h.cm h.pd; rw [decide_eq_true (show (i.bd.length : Int) ≤ 1200 by omega)] at h9; exact h9)) <| s_y (v := .bool false) (y_not (b := true)) <| s_y y_mv <| s_y y_mv <| s_y y_len <| s_kt (y_gtr (p := bq.length) (q := 2000)) (by omega) <| s_y y_pk <| s_nil <| q_then <| c_t <| c_seq <| c_reg <| s_y y_as <| s_nil <| q_then <| c_ret <| q_ret <| ?_
  exact ret1 Tryz.results5 rv_t fun w' hw => ⟨rfl, hw.sub (List.nil_sublist _)⟩
theorem law_ItemsEncodeSpec_ok0 (w : World) (hg : LG w) (i : It) (a : Option Addr) (c : Nat) (h : i.Wf) (hr : Rd w a (bs i.bd)) (hcc : i.bd.length ≤ c) (bq : List UInt8) (a2 : Option Addr) (c2 : Nat) (hr2 : Rd w a2 (bs bq)) (hc2 : bq.length ≤ c2) (hm2 : c2 ≤ 9223372036854775807) (h1 : i.bd.length ≤ 1200) (h2 : bq.length ≤ 2000) : Pure Tryz.prog 5 [itV i (.slice a i.bd.length c), .slice a2 bq.length c2] w (.bool true) := by
  have hhl := head_len h
  have hel := enc_len2 h (show i.bd.length ≤ 66000 by omega)
  obtain ⟨Z0, hZ0⟩ : ∃ Z, Z = (dcd bq).1 := ⟨_, rfl⟩
  obtain ⟨E0, hE0⟩ : ∃ E, E = (dcd bq).2 := ⟨_, rfl⟩
  have hZw0 : Z0.Wf := by rw [hZ0]; exact dcd_wf _
  have hZb0 : Z0.bd.length ≤ 70000 := by rw [hZ0]; exact dcd_bd _
  obtain ⟨Z1, hZ1⟩ : ∃ Z, Z = (dcd i.encB).1 := ⟨_, rfl⟩
  obtain ⟨E1, hE1⟩ : ∃ E, E = (dcd i.encB).2 := ⟨_, rfl⟩
  have hZw1 : Z1.Wf := by rw [hZ1]; exact dcd_wf _
  have hZb1 : Z1.bd.length ≤ 70000 := by rw [hZ1]; exact dcd_bd _
  refine enter Tryz.func5 Tryz.ntmps5 ?_
  refine c_seq <| c_reg <| s_box rfl fun b2 => s_y y_as <| s_nil <| q_then <| c_seq <| c_seq <| c_reg <| s_pure (fun w' hw => law_sane_ok w' (hg.st hw)) <| s_y (v := .bool false) (y_not (b := true)) <| s_nil <| q_then <| c_f <| c_skip <| q_then <| c_seq <| c_seq <| c_reg <| s_y (y_lda (b := b2) (cs := (itC i (.slice a i.bd.length c)).toArray) (hl := it_size h.cm h.pd)) <| s_pure (fun w' hw => (by have h9 := r_Few_ok w' i a c h.cm h.pd; rw [decide_eq_true (show (i.bd.length : Int) ≤ 1200 by omega)] at h9; exact h9)) <| s_y (v := .bool false) (y_not (b := true)) <| s_y y_mv <| s_y y_mv <| s_y y_len <| s_kf (y_gtr (p := bq.length) (q := 2000)) (by omega) <| s_y y_pk <| s_nil <| q_then <| c_f <| c_skip <| q_then <| c_seq <| c_reg <| s_y (y_lda (b := b2) (cs := (itC i (.slice a i.bd.length c)).toArray) (hl := it_size h.cm h.pd)) <| s_gives (fun w' hw => Encode_ok w' i a c h (hg.st hw) (hr.st hw) (by omega)) fun (x27 : Option Addr × Nat) _ => s_y y_mv <| s_y y_ext <| s_y y_ext <| s_y y_as <| s_y y_as <| s_nil <| q_then <| c_seq <| c_reg <| s_y (y_lda (b := b2) (cs := (itC i (.slice a i.bd.length c)).toArray) (hl := it_size h.cm h.pd)) <| s_gives (fun w' hw => r_Encode_ok w' i a c h (hr.st hw) (by omega)) fun (x32 : Option Addr × Nat) _ => s_y y_mv <| s_y y_ext <| s_y y_ext <| s_y y_as <| s_y y_as <| s_nil <| q_then <| c_seq <| c_seq <| c_regd <| d_y y_mv <| d_y (y_b2s (q := i.encB) (hr := rdR (by repeat (first | exact .head _ | apply List.Mem.tail)))) <| d_y y_mv <| d_y (y_b2s (q := i.encB) (hr := rdR (by repeat (first | exact .head _ | apply List.Mem.tail)))) <| d_nf (y_neqs (a := sb i.encB) (b := sb i.encB)) (by trivial) <| d_y y_mv <| d_y y_mv <| d_y y_mv <| d_nf (y_neq (p := i.encE) (q := i.encE)) (by trivial) <| d_y y_pk <| d_y y_mv <| d_y (y_lda (b := b2) (cs := (itC i (.slice a i.bd.length c)).toArray) (hl := it_size h.cm h.pd)) <| d_pure (fun w' hw => ID_ok w' i a c h (hg.st hw) (hr.st hw) (by omega)) <| d_y (y_lda (b := b2) (cs := (itC i (.slice a i.bd.length c)).toArray) (hl := it_size h.cm h.pd)) <| d_pure (fun w' hw => r_ID_ok w' i a c h (hr.st hw) (by omega)) <| d_nf (y_neqa (p := tagged lbItem i.encB) (q := tagged lbItem i.encB) (tagged_length _ _) (tagged_length _ _) hgd) rfl <| d_y y_pk <| d_nil <| q_then <| c_f <| c_skip <| q_then <| c_seq <| c_seq <| c_reg <| s_y y_mv <| s_y y_mv <| s_bslr (cs := [.slice a2 bq.length c2, .slice x32.1 i.encB.length x32.2]) fun b54 => s_y y_len <| s_y y_mv <| s_nil <| q_then <| c_block <| ?_
  refine c_loop (fun k : Nat => [(54, .slice (some ⟨b54, 0, none⟩) 2 2), (55, I 2), (56, I k)]) (fun _ => [.row (some ⟨b54, 0, none⟩) 2 27 1 2 [.slice a2 bq.length c2, .slice x32.1 i.encB.length x32.2], .row x32.1 x32.2 5 1 i.encB.length (bs i.encB)]) (fun k => k ≤ 2) (fun k => 2 - k) 0 (by omega) ⟨rfl, rfl, rfl, trivial⟩ (.cons_cons _ (.cons_cons _ (List.nil_sublist _))) ?_
  intro k hk
  rcases (show k = 0 ∨ k = 1 ∨ k = 2 by omega) with rfl | rfl | rfl
  · refine c_seq <| c_reg <| s_kt (y_lss (p := 0) (q := 2)) (by omega) <| s_nil <| q_then <| c_seq <| c_t <| c_skip <| q_then <| c_seq <| c_block <| c_seq <| c_reg <| s_y (y_ixb1 (i := 0)) <| s_y (y_ldr (a := some ⟨b54, 0, none⟩) (i := 0) (xs := [.slice a2 bq.length c2, .slice x32.1 i.encB.length x32.2]) (v := .slice a2 bq.length c2) rfl (hr := rdR (.head _))) <| s_y y_as <| s_nil <| q_then <| c_seq <| c_reg <| s_y y_mv <| s_gives (fun w' hw => (by have h9 := Decode_ok' w' a2 c2 bq (hg.st hw) (hr2.st hw) hc2 hm2 (by omega); rw [← hZ0, ← hE0] at h9; exact h9)) fun (x62 : IX) hx62 => s_y y_mv <| s_y y_ext <| s_y y_ext <| s_allocC (cs := (itC it0 (.slice none 0 0)).toArray) (by kernel_rfl) fun b11 => s_sta (b := b11) (vs := (itC Z0 (.slice x62.a Z0.bd.length x62.c)).toArray) (cs := (itC it0 (.slice none 0 0)).toArray) (h1 := it_one) (hl := (it_size hZw0.cm hZw0.pd).trans (it_size rfl rfl).symm) (hs1 := it_size hZw0.cm hZw0.pd) ?_
    refine s_y y_as <| s_nil <| q_then <| c_seq <| c_reg <| s_y y_mv <| s_gives (fun w' hw => (by have h9 := r_Decode_ok w' a2 c2 bq (hr2.st hw) hc2 hm2 (by omega); rw [← hZ0, ← hE0] at h9; exact h9)) fun (x67 : IX) hx67 => s_y y_mv <| s_y y_ext <| s_y y_ext <| s_allocC (cs := (itC it0 (.slice none 0 0)).toArray) (by kernel_rfl) fun b13 => s_sta (b := b13) (vs := (itC Z0 (.slice x67.a Z0.bd.length x67.c)).toArray) (cs := (itC it0 (.slice none 0 0)).toArray) (h1 := it_one) (hl := (it_size hZw0.cm hZw0.pd).trans (it_size rfl rfl).symm) (hs1 := it_size hZw0.cm hZw0.pd) ?_
    refine s_y y_as <| s_nil <| q_then <| c_seq <| c_reg <| s_y (y_lda (b := b11) (cs := (itC Z0 (.slice x62.a Z0.bd.length x62.c)).toArray) (hl := it_size hZw0.cm hZw0.pd)) <| s_y (y_lda (b := b13) (cs := (itC Z0 (.slice x67.a Z0.bd.length x67.c)).toArray) (hl := it_size hZw0.cm hZw0.pd)) <| s_pure (fun w' hw => r_Same_ok w' Z0 x62.a x67.a x62.c x67.c hZw0.cm hZw0.pd (hx62 w' (hw.own _ (.tail _ (.tail _ (.tail _ (.head _))))).1).1 (hx67 w' (hw.own _ (.tail _ (.head _))).1).1) <| s_y (v := .bool false) (y_not (b := true)) <| s_y y_mv <| s_y y_mv <| s_y y_mv <| s_nf (y_neq (p := E0) (q := E0)) (by trivial) <| s_y y_pk <| s_nil <| q_then <| c_f <| c_skip <| q_nb <| q_then <| c_reg <| s_y (y_add (p := 0) (q := 1)) <| s_y y_mv <| s_nil <| ?_
    exact q_round 1 (by omega) (by omega) ⟨rfl, rfl, rfl, trivial⟩ (.cons _ (.cons _ (.cons _ (.cons _ (.cons_cons _ (.cons_cons _ (List.nil_sublist _)))))))
  · refine c_seq <| c_reg <| s_kt (y_lss (p := 1) (q := 2)) (by omega) <| s_nil <| q_then <| c_seq <| c_t <| c_skip <| q_then <| c_seq <| c_block <| c_seq <| c_reg <| s_y (y_ixb1 (i := 1)) <| s_y (y_ldr (a := some ⟨b54, 0, none⟩) (i := 1) (xs := [.slice a2 bq.length c2, .slice x32.1 i.encB.length x32.2]) (v := .slice x32.1 i.encB.length x32.2) rfl (hr := rdR (.head _))) <| s_y y_as <| s_nil <| q_then <| c_seq <| c_reg <| s_y y_mv <| s_gives (fun w' hw => (by have h9 := Decode_ok' w' x32.1 x32.2 i.encB (hg.st hw) (rdR (.tail _ (.head _)) w' hw) (row_fact hw (.tail _ (.head _))).1 (Nat.le_trans (row_fact hw (.tail _ (.head _))).2 (by decide)) hel; rw [← hZ1, ← hE1] at h9; exact h9)) fun (x62 : IX) hx62 => s_y y_mv <| s_y y_ext <| s_y y_ext <| s_allocC (cs := (itC it0 (.slice none 0 0)).toArray) (by kernel_rfl) fun b11 => s_sta (b := b11) (vs := (itC Z1 (.slice x62.a Z1.bd.length x62.c)).toArray) (cs := (itC it0 (.slice none 0 0)).toArray) (h1 := it_one) (hl := (it_size hZw1.cm hZw1.pd).trans (it_size rfl rfl).symm) (hs1 := it_size hZw1.cm hZw1.pd) ?_
    refine s_y y_as <| s_nil <| q_then <| c_seq <| c_reg <| s_y y_mv <| s_gives (fun w' hw => (by have h9 := r_Decode_ok w' x32.1 x32.2 i.encB (rdR (.tail _ (.tail _ (.tail _ (.head _)))) w' hw) (row_fact hw (.tail _ (.tail _ (.tail _ (.head _))))).1 (Nat.le_trans (row_fact hw (.tail _ (.tail _ (.tail _ (.head _))))).2 (by decide)) hel; rw [← hZ1, ← hE1] at h9; exact h9)) fun (x67 : IX) hx67 => s_y y_mv <| s_y y_ext <| s_y y_ext <| s_allocC (cs := (itC it0 (.slice none 0 0)).toArray) (by kernel_rfl) fun b13 => s_sta (b := b13) (vs := (itC Z1 (.slice x67.a Z1.bd.length x67.c)).toArray) (cs := (itC it0 (.slice none 0 0)).toArray) (h1 := it_one) (hl := (it_size hZw1.cm hZw1.pd).trans (it_size rfl rfl).symm) (hs1 := it_size hZw1.cm hZw1.pd) ?_
    refine s_y y_as <| s_nil <| q_then <| c_seq <| c_reg <| s_y (y_lda (b := b11) (cs := (itC Z1 (.slice x62.a Z1.bd.length x62.c)).toArray) (hl := it_size hZw1.cm hZw1.pd)) <| s_y (y_lda (b := b13) (cs := (itC Z1 (.slice x67.a Z1.bd.length x67.c)).toArray) (hl := it_size hZw1.cm hZw1.pd)) <| s_pure (fun w' hw => r_Same_ok w' Z1 x62.a x67.a x62.c x67.c hZw1.cm hZw1.pd (hx62 w' (hw.own _ (.tail _ (.tail _ (.tail _ (.head _))))).1).1 (hx67 w' (hw.own _ (.tail _ (.head _))).1).1) <| s_y (v := .bool false) (y_not (b := true)) <| s_y y_mv <| s_y y_mv <| s_y y_mv <| s_nf (y_neq (p := E1) (q := E1)) (by trivial) <| s_y y_pk <| s_nil <| q_then <| c_f <| c_skip <| q_nb <| q_then <| c_reg <| s_y (y_add (p := 1) (q := 1)) <| s_y y_mv <| s_nil <| ?_
    exact q_round 2 (by omega) (by omega) ⟨rfl, rfl, rfl, trivial⟩ (.cons _ (.cons _ (.cons _ (.cons _ (.cons_cons _ (.cons_cons _ (List.nil_sublist _)))))))
  · refine c_seq <| c_reg <| s_kf (y_lss (p := 2) (q := 2)) (by omega) <| s_nil <| q_then <| c_seq <| c_f <| c_exit <| q_ex <| q_ex <| q_exb <| q_then <| c_seq <| c_reg <| s_y y_as <| s_nil <| q_then <| c_ret <| ?_
    exact ret1 Tryz.results5 rv_t fun w' hw => ⟨rfl, hw.sub (List.nil_sublist _)⟩
theorem law_ItemsEncodeSpec_ok (w : World) (hg : LG w) (i : It) (a : Option Addr) (c : Nat) (h : i.Wf) (hr : Rd w a (bs i.bd)) (hcc : i.bd.length ≤ c) (bq : List UInt8) (a2 : Option Addr) (c2 : Nat) (hr2 : Rd w a2 (bs bq)) (hc2 : bq.length ≤ c2) (hm2 : c2 ≤ 9223372036854775807) : Pure Tryz.prog 5 [itV i (.slice a i.bd.length c), .slice a2 bq.length c2] w (.bool true) := by
  by_cases h1 : i.bd.length ≤ 1200
  · by_cases h2 : bq.length ≤ 2000
    · exact law_ItemsEncodeSpec_ok0 w hg i a c h hr hcc bq a2 c2 hr2 hc2 hm2 h1 h2
    · exact law_ItemsEncodeSpec_long w hg i a c h hr hcc bq a2 c2 hr2 hc2 hm2 h1 (by omega)
  · exact law_ItemsEncodeSpec_many w hg i a c h hr hcc bq a2 c2 hr2 hc2 hm2 (by omega)
end Go.Proofs.YtejdjnkilikehaaGreatDoor
end
section
namespace Eng
open Go Go.RowKit Go.ChangeShapes Go.WideShapes Go.ChangeAt
theorem St.kept {W w : World} (h : St W [] w []) (may : MemPlace → Prop) : W.keptBut w may := by
  refine ⟨h.os, h.output, fun i hi => ?_⟩
  rw [h.old i hi (by simp)]
  cases ho : W.heap[i]? with
  | none => rfl
  | some o => cases o <;> simp
theorem trodAll_below {H : Type} {enc : TypeId × Value → H} {P : Program} (hl : laidOutB P = true) {W w : World} (hb : Below W.heap.size W w) :
    ∀ {ts : List TypeId} {vs : List Value} {ds : List (DataW H)} {ps : List MemPlace}, (ts.all fun t => P.readableRec t && decide (t < P.types.size)) = true → (∀ x ∈ ps, x.block < W.heap.size) →
      DataW.TrodAll enc P W 0 (fun _ => true) true ts vs ds ps → DataW.TrodAll enc P w 0 (fun b => decide (b < W.heap.size)) true ts vs ds ps
  | [], [], [], _, _, _, h => h
  | t :: ts, v :: vs, d :: ds, ps, ht, hlt, h => by
    obtain ⟨p, q, h1, h2, rfl⟩ := h
    simp only [List.all_cons, Bool.and_eq_true, decide_eq_true_eq] at ht
    exact ⟨p, q, Below.trod hl ht.1.1 ht.1.2 h1 hb (fun x hx => hlt x (List.mem_append_left _ hx)), trodAll_below hl hb (by simpa using ht.2) (fun x hx => hlt x (List.mem_append_right _ hx)) h2, rfl⟩
  | [], _ :: _, _, _, _, _, h => h.elim
  | _ :: _, [], _, _, _, _, h => h.elim
  | [], [], _ :: _, _, _, _, h => h.elim
  | _ :: _, _ :: _, [], _, _, _, h => h.elim
theorem post_true {H : Type} {enc : TypeId × Value → H} {P : Program} {f : Func} {s : ChangeSpec} {W w : World} {args : Array Value} {ds gs : List (DataW H)} {before : List MemPlace} {tb : TypeId}
    (hl : laidOutB P = true) (ht : (f.params.toList.all fun t => P.readableRec t && decide (t < P.types.size)) = true) (hr : f.resultTypes = #[tb]) (hb : P.underlying tb = some .bool) (hv : s.vars = [])
    (hfn : s.fn H (ds ++ gs) = { results := [.lit (.bool true)], args := ds })
    (hW : DataW.Whole enc P f.params.toList s.vars false W args.toList ds gs before) (hs : St W [] w []) : s.post enc P f false true false false W args (.bool true) w := by
  have hlt : ∀ x ∈ before, x.block < W.heap.size := fun x hx => hW.lt x hx
  have hW' := hW
  obtain ⟨p, q, hA, hV, rfl, hfz, hnd⟩ := hW
  rw [hv] at hV
  obtain ⟨rfl, rfl⟩ := trodVars_none hV
  refine ⟨ds, [], p ++ [], [], p, [], hW', ?_, ?_, ?_, hs.kept _, fun h => by cases h⟩
  · rw [hfn, hr]
    exact trodAll_cons_mk (shut_bool hb _) trodAll_mk0
  · rw [hfn]
    exact trodAll_below hl hs.below ht (fun x hx => hlt x (List.mem_append_left _ hx)) hA
  · rw [hfn, hv]
    exact rfl
theorem law_lifted {H : Type} {enc : TypeId × Value → H} {C : Checked} {os : Os} {f : FuncId} {fn : Func} {s : ChangeSpec} {X : World → Array Value → Prop} {tb : TypeId}
    (hX : ∀ (w w' : World) (args : Array Value), w.heap = w'.heap → X w args → X w' args)
    (own : ownKnob C.prog.godebug = none) (started : os.Started) (noInit : C.prog.inits.idxOf? f = none) (hfn : C.prog.funcs[f]? = some fn)
    (witness : ∃ (w : World) (tape : Tape) (i : Input), w.os = os ∧ (w.forCall tape i).Shaped C.prog ∧ i.vars = [] ∧ Input.okWide C.prog (w.forCall tape i) .any w.heap.size f i ∧
      ((s.pre enc C.prog fn [] false (w.forCall tape i).memory i.args ∧ X (w.forCall tape i).memory i.args) ∧ sizedMet enc C.prog fn (OpenSpec.ofChange s) false (w.forCall tape i).memory i.args) ∧ ({} : Assume).holds C.prog (lone (Frame.enter C.prog f i.args .normal) [] (w.forCall tape i)))
    (hl : laidOutB C.prog = true) (ht : (fn.params.toList.all fun t => C.prog.readableRec t && decide (t < C.prog.types.size)) = true) (hr : fn.resultTypes = #[tb]) (hb : C.prog.underlying tb = some .bool) (hv : s.vars = [])
    (hsp : ∀ ds : List (DataW H), ds.length = fn.params.size → s.fn H ds = { results := [.lit (.bool true)], args := ds })
    (walk : ∀ (W : World) (base : Nat) (args : Array Value) (ds : List (DataW H)) (p : List MemPlace),
      (∀ (j : Nat) t v, fn.params[j]? = some t → args[j]? = some v → Value.okWide C.prog W .any base t v) →
      DataW.TrodAll enc C.prog W 0 (fun _ => true) true fn.params.toList args.toList ds p →
      (DataW.weightsEach C.prog fn.params.toList ds).all (· ≤ reachBytes) = true → X W args →
      Calls C.prog f args W fun e w => e = .returned (.bool true) ∧ St W [] w []) :
    ReturnsInHanded {} C os f .any (fun w args => (s.pre enc C.prog fn [] false w args ∧ X w args) ∧ sizedMet enc C.prog fn (OpenSpec.ofChange s) false w args) (s.post enc C.prog fn false true false false) := by
  refine returnsInHanded_of_change_and (C := C) (X := X) hX own started noInit hfn witness ?_
  intro W base args ds gs before hval hW _ hsz hx _
  have hW' := hW
  obtain ⟨p, q, hA, hV, hpq, hfz, hnd⟩ := hW
  have hV' := hV
  rw [hv] at hV'
  obtain ⟨rfl, rfl⟩ := trodVars_none hV'
  have hvt : s.plain.varTypes C.prog = [] := by unfold DataSpec.varTypes ChangeSpec.plain; rw [hv]; rfl
  rw [hvt, List.append_nil, List.append_nil] at hsz
  refine (walk W base args ds p hval hA hsz hx).mono fun e w ⟨he, hs⟩ => ⟨_, he, ?_⟩
  have hlen : ds.length = fn.params.size := by
    have key : ∀ {ts : List TypeId} {vs : List Value} {ds : List (DataW H)} {ps : List MemPlace}, DataW.TrodAll enc C.prog W 0 (fun _ => true) true ts vs ds ps → ds.length = ts.length := by
      intro ts
      induction ts with
      | nil => intro vs ds ps h; cases vs <;> cases ds <;> first | rfl | exact h.elim
      | cons t ts ih =>
        intro vs ds ps h
        cases vs with
        | nil => exact h.elim
        | cons v vs =>
          cases ds with
          | nil => exact h.elim
          | cons d ds =>
            obtain ⟨_, _, _, h2, _⟩ := h
            simp [ih h2]
    have := key hA
    simpa using this
  exact post_true hl ht hr hb hv (by rw [List.append_nil]; exact hsp ds hlen) hW' hs
theorem open_bytes {H : Type} {enc : TypeId × Value → H} {P : Program} {W : World} {r : Reach} {b0 t e : Nat} {v : Value} {d : DataW H} {ps : List MemPlace} (ht : P.underlying t = some (.slice e)) (he : P.underlying e = some (.int .u8)) (hc : P.cellsOf e = 1)
    (hval : Value.okWide P W r b0 t v) (hd : DataW.Trod enc P W 0 (fun _ => true) true t v d ps) : ∃ a c q, v = .slice a (List.length q) c ∧ Rd W a (bs q) ∧ q.length ≤ c ∧ c ≤ maxLen := by
  obtain ⟨a0, len, cap, rfl⟩ := okWide_slice ht hval
  obtain ⟨fuel, hf⟩ := hd
  rcases open_ints ht he hc hf with ⟨hcs, hx⟩ | ⟨a, len', cap', zs, hcs, _, hl, hm, hz, hx, hcell, hwz⟩
  · simp only [Value.cells, List.cons.injEq, Value.slice.injEq, and_true] at hcs
    obtain ⟨rfl, rfl, rfl⟩ := hcs
    exact ⟨none, 0, [], rfl, Rd.nil _ _, by simp, by simp⟩
  · simp only [Value.cells, List.cons.injEq, Value.slice.injEq, and_true] at hcs
    obtain ⟨rfl, rfl, rfl⟩ := hcs
    simp only [if_true] at hz
    have hlen : ((zs.take len).map fun z => UInt8.ofNat z.toNat).length = len := by simp [hz, hl]
    refine ⟨some a, cap, (zs.take len).map fun z => UInt8.ofNat z.toNat, by rw [hlen], ?_, by omega, hm⟩
    rcases Nat.eq_zero_or_pos len with h0 | h0
    · subst h0; exact Rd.nil _ _
    · obtain ⟨b, off, rfl, hc2⟩ := ints_at hcell (by omega)
      have key : ∃ cs t fz, W.heap[b]? = some (.cells cs t fz) := by
        have h1 := hc2 0 (by omega)
        unfold World.cell? at h1
        cases hh : W.heap[b]? with
        | none => simp [hh] at h1
        | some o =>
          cases o with
          | cells cs t fz => exact ⟨cs, t, fz, rfl⟩
          | _ => simp [hh] at h1
      obtain ⟨cs, t, fz, hh⟩ := key
      refine .inr ⟨b, off, cs, t, fz, rfl, hh, fun i v hv => ?_⟩
      simp only [bs, List.map_map, List.getElem?_map, Option.map_eq_some_iff] at hv
      obtain ⟨z, hz1, rfl⟩ := hv
      rw [List.getElem?_take] at hz1
      split at hz1
      · rename_i hi
        have h1 := hc2 i (by omega)
        rw [cell_of_row W b (off + i) cs t fz hh] at h1
        rw [h1, List.getD_eq_getElem?_getD, hz1, Option.getD_some]
        have h2 := bounds_u8 (hwz z (List.mem_of_getElem? hz1))
        congr 2
        simp
        omega
      · cases hz1
theorem var_heap {P : Program} {w : World} {n : String} {g : Nat} {cs : Array Value} (hg : P.globalNamed n = some g) (h : w.var? P n = some cs) : ∃ t fz, w.heap[g]? = some (.cells cs t fz) := by
  simp only [World.var?, hg, Option.bind_some] at h
  split at h
  · rename_i c t fz hh
    cases h
    exact ⟨t, fz, hh⟩
  · cases h
theorem rd_listed {P : Program} {w : World} {nm : String} {g t e n fuel : Nat} {cs : Array Value} {l : List Int} {p : List MemPlace} (hg : P.globalNamed nm = some g) (hv : w.var? P nm = some cs)
    (ht : P.underlying t = some (.array n e)) (he : P.underlying e = some (.int .i64)) (hce : P.cellsOf e = 1)
    (hd : DataW.trod (fun _ => ()) P w 0 (fun _ => true) false fuel t cs.toList = some (.agg (l.map fun z => .lit (.int .i64 z)), p)) : Rd w (some ⟨g, 0, none⟩) (is l) := by
  obtain ⟨tt, fz, hh⟩ := var_heap hg hv
  obtain ⟨xs, m, rfl, hx, hlen, hn, hel⟩ := DataW.trod_array ht hd
  refine .inr ⟨g, 0, cs, tt, fz, rfl, hh, fun i v hiv => ?_⟩
  simp only [Prod.mk.injEq, DataW.agg.injEq] at hx
  obtain ⟨z, hz, rfl⟩ : ∃ z, l[i]? = some z ∧ I z = v := by simpa [is, List.getElem?_map] using hiv
  have hi : i < n := by
    have h1 : i < l.length := (List.getElem?_eq_some_iff.1 hz).1
    have h2 : l.length = xs.length := by have := congrArg List.length hx.1; simpa using this
    omega
  have h1 := hel i hi
  have h2 : (xs.map (·.1))[i]? = some (.lit (.int .i64 z)) := by rw [← hx.1]; simp [hz]
  rw [List.getElem?_map] at h2
  cases hxi : xs[i]? with
  | none => rw [hxi] at h2; cases h2
  | some y =>
    rw [hxi] at h2 h1
    obtain ⟨z', e1, e2, _⟩ := DataW.trod_int he h1
    have : z' = z := by
      rw [e2] at h2
      simpa using h2
    subst this
    rw [hce, Nat.mul_one] at e1
    have h3 : (cs.toList.drop i)[0]? = some (I z') := by
      have : ((cs.toList.drop i).take 1)[0]? = some (I z') := by rw [e1]; rfl
      simpa [List.getElem?_take] using this
    rw [List.getElem?_drop] at h3
    simpa using h3
end Eng
namespace Eng
open Go Go.RowKit Go.ChangeShapes Go.WideShapes Go.ChangeAt
section
variable {H : Type} {enc : TypeId × Value → H} {P : Program} {W : World} {r : Reach} {b0 t e : Nat} {v : Value} {d : DataW H} {ps : List MemPlace}
theorem op_bytes (ht : P.underlying t = some (.slice e)) (he : P.underlying e = some (.int .u8)) (hc : P.cellsOf e = 1) (hb : P.bytesOf e = 1)
    (hval : Value.okWide P W r b0 t v) (hd : DataW.Trod enc P W 0 (fun _ => true) true t v d ps) (hw : ∀ n ∈ d.weights P t, n ≤ reachBytes) : ∃ a c q, v = .slice a (List.length q) c ∧ Rd W a (bs q) ∧ q.length ≤ c ∧ c ≤ 140737488351232 := by
  obtain ⟨a, c, q, h1, h2, h3, _⟩ := open_bytes ht he hc hval hd
  refine ⟨a, c, q, h1, h2, h3, ?_⟩
  obtain ⟨fuel, hf⟩ := hd
  rcases open_ints ht he hc hf with ⟨hcs, hx⟩ | ⟨a', len', cap', zs, hcs, _, hl, hm, hz, hx, _, _⟩
  · rw [h1] at hcs
    simp only [Value.cells, List.cons.injEq, Value.slice.injEq, and_true] at hcs
    omega
  · rw [h1] at hcs
    simp only [Value.cells, List.cons.injEq, Value.slice.injEq, and_true] at hcs
    simp only [if_true] at hz
    simp only [Prod.mk.injEq] at hx
    have := hw ((zs.take len').length + (zs.drop len').length) (by
      rw [hx.1]
      simp [DataW.weights, ht, hb, lits])
    rw [← List.length_append, List.take_append_drop] at this
    unfold reachBytes at this
    omega
end
end Eng
namespace Eng
open Go Go.RowKit Go.ChangeShapes Go.WideShapes Go.ChangeAt
section
variable {H : Type} {enc : TypeId × Value → H} {P : Program} {W : World} {r : Reach} {b0 t e : Nat} {v : Value} {d : DataW H} {ps : List MemPlace}
end
theorem rd_listedW {P : Program} {w : World} {nm : String} {g t e n fuel : Nat} {cs : Array Value} {l : List UInt32} {p : List MemPlace} (hg : P.globalNamed nm = some g) (hv : w.var? P nm = some cs)
    (ht : P.underlying t = some (.array n e)) (he : P.underlying e = some (.int .u32)) (hce : P.cellsOf e = 1)
    (hd : DataW.trod (fun _ => ()) P w 0 (fun _ => true) false fuel t cs.toList = some (.agg (l.map fun z => .lit (.int .u32 z.toNat)), p)) : Rd w (some ⟨g, 0, none⟩) (ws l) := by
  obtain ⟨tt, fz, hh⟩ := var_heap hg hv
  obtain ⟨xs, m, rfl, hx, hlen, hn, hel⟩ := DataW.trod_array ht hd
  refine .inr ⟨g, 0, cs, tt, fz, rfl, hh, fun i v hiv => ?_⟩
  simp only [Prod.mk.injEq, DataW.agg.injEq] at hx
  obtain ⟨z, hz, rfl⟩ : ∃ z, l[i]? = some z ∧ W32 z = v := by simpa [ws, List.getElem?_map] using hiv
  have hi : i < n := by
    have h1 : i < l.length := (List.getElem?_eq_some_iff.1 hz).1
    have h2 : l.length = xs.length := by have := congrArg List.length hx.1; simpa using this
    omega
  have h1 := hel i hi
  have h2 : (xs.map (·.1))[i]? = some (.lit (.int .u32 z.toNat)) := by rw [← hx.1]; simp [hz]
  rw [List.getElem?_map] at h2
  cases hxi : xs[i]? with
  | none => rw [hxi] at h2; cases h2
  | some y =>
    rw [hxi] at h2 h1
    obtain ⟨z', e1, e2, _⟩ := DataW.trod_int he h1
    have : z' = (z.toNat : Int) := by
      rw [e2] at h2
      simpa using h2
    subst this
    rw [hce, Nat.mul_one] at e1
    have h3 : (cs.toList.drop i)[0]? = some (W32 z) := by
      have : ((cs.toList.drop i).take 1)[0]? = some (W32 z) := by rw [e1]; rfl
      simpa [List.getElem?_take] using this
    rw [List.getElem?_drop] at h3
    simpa using h3
end Eng
namespace Eng
open Go Go.RowKit Go.ChangeShapes Go.WideShapes Go.ChangeAt
theorem mapM_len {α β : Type} {f : α → Option β} : ∀ {l : List α} {r : List β}, l.mapM f = some r → r.length = l.length
  | [], r, h => by simp at h; subst h; rfl
  | a :: l, r, h => by
    rw [List.mapM_cons] at h
    cases h1 : f a with
    | none => simp [h1] at h
    | some b =>
      cases h2 : l.mapM f with
      | none => simp [h1, h2] at h
      | some r2 => simp [h1, h2] at h; subst h; simp [mapM_len h2]
theorem mapM_at {α β : Type} {f : α → Option β} : ∀ {l : List α} {r : List β}, l.mapM f = some r → ∀ (i : Nat) (a : α), l[i]? = some a → f a = r[i]?
  | [], r, h, i, a, ha => by simp at ha
  | b :: l, r, h, i, a, ha => by
    rw [List.mapM_cons] at h
    cases h1 : f b with
    | none => simp [h1] at h
    | some c =>
      cases h2 : l.mapM f with
      | none => simp [h1, h2] at h
      | some r2 =>
        simp [h1, h2] at h
        subst h
        cases i with
        | zero => simp at ha; subst ha; simpa using h1
        | succ i => simp at ha; simpa using mapM_at h2 i a ha
theorem cells_at {w : World} {base : Nat} {a : Addr} {n : Nat} {cs : List Value} (h : w.cells? base a n = some cs) : cs.length = n ∧ ∀ i v, cs[i]? = some v → w.cell? (a.add i) = some v := by
  unfold World.cells? at h
  split at h
  · have hl := mapM_len h
    rw [List.length_range] at hl
    refine ⟨hl, fun i v hv => ?_⟩
    have hi : i < n := by rw [← hl]; exact (List.getElem?_eq_some_iff.1 hv).1
    rw [← hv]
    exact mapM_at h i i (List.getElem?_range hi)
  · cases h
theorem flat_at {α : Type} {s : Nat} : ∀ {L : List (List α)}, (∀ y ∈ L, y.length = s) → ∀ (j : Nat) (v : α), L.flatten[j]? = some v → ∃ i k, i < L.length ∧ j = i * s + k ∧ (L.getD i [])[k]? = some v
  | [], _, j, v, h => by simp at h
  | y :: L, hL, j, v, h => by
    have hy := hL y (.head _)
    rw [List.flatten_cons] at h
    rcases Nat.lt_or_ge j y.length with h1 | h1
    · rw [List.getElem?_append_left h1] at h
      exact ⟨0, j, by simp, by omega, by simpa using h⟩
    · rw [List.getElem?_append_right h1] at h
      obtain ⟨i, k, h2, h3, h4⟩ := flat_at (fun z hz => hL z (.tail _ hz)) _ v h
      refine ⟨i + 1, k, by simp; omega, ?_, by simpa using h4⟩
      rw [Nat.add_mul]; omega
theorem map_of {α β : Type} {f : β → α} {p : β → Prop} : ∀ {L : List α}, (∀ x ∈ L, ∃ q, x = f q ∧ p q) → ∃ qs : List β, L = qs.map f ∧ ∀ q ∈ qs, p q
  | [], _ => ⟨[], rfl, fun _ h => by cases h⟩
  | x :: L, h => by
    obtain ⟨q, rfl, hq⟩ := h x (.head _)
    obtain ⟨qs, rfl, hqs⟩ := map_of fun y hy => h y (.tail _ hy)
    exact ⟨q :: qs, rfl, fun z hz => (List.mem_cons.1 hz).elim (fun h => by rw [h]; exact hq) (hqs z)⟩
section
variable {H : Type} {enc : TypeId × Value → H} {P : Program} {W : World} {b0 : Nat} {t e fuel : Nat} {cs : List Value} {x : DataW H × List MemPlace}
theorem td_int (ht : P.underlying t = some (.int .i64)) (h : DataW.trod enc P W b0 (fun _ => true) true fuel t cs = some x) : ∃ n, cs = [I n] ∧ R64 n := by
  obtain ⟨n, h1, _, h3⟩ := DataW.trod_int ht h
  exact ⟨n, h1, bounds_i64 h3⟩
theorem td_u8 (ht : P.underlying t = some (.int .u8)) (h : DataW.trod enc P W b0 (fun _ => true) true fuel t cs = some x) : ∃ z : UInt8, cs = [B z] := by
  obtain ⟨n, h1, _, h3⟩ := DataW.trod_int ht h
  have h4 := bounds_u8 h3
  refine ⟨UInt8.ofNat n.toNat, ?_⟩
  rw [h1, B, UInt8.toNat_ofNat']
  congr 2; omega
theorem td_key {m : Nat} (ht : P.underlying t = some (.array m e)) (he : P.underlying e = some (.int .u8)) (hce : P.cellsOf e = 1) (hct : P.cellsOf t = m)
    (h : DataW.trod enc P W b0 (fun _ => true) true fuel t cs = some x) : ∃ q : List UInt8, cs = bs q ∧ q.length = m := by
  obtain ⟨xs, n, _, _, hsz, hn, hel⟩ := DataW.trod_array ht h
  rw [hct] at hsz
  have key : ∀ y ∈ cs, ∃ z : UInt8, y = B z ∧ True := fun y hy => by
    obtain ⟨i, hi, rfl⟩ := List.getElem_of_mem hy
    have h1 := hel i (by omega)
    rw [List.getElem?_eq_getElem (by omega), hce, Nat.mul_one] at h1
    obtain ⟨z, e1⟩ := td_u8 he h1
    refine ⟨z, ?_, trivial⟩
    have h4 : ((cs.drop i).take 1)[0]? = some (B z) := by rw [e1]; rfl
    rw [List.getElem?_take, if_pos (by decide), List.getElem?_drop, Nat.add_zero, List.getElem?_eq_getElem hi] at h4
    exact Option.some.inj h4
  obtain ⟨q, hq, _⟩ := map_of key
  exact ⟨q, hq, by rw [← hsz, hq, List.length_map]⟩
theorem td_slice (ht : P.underlying t = some (.slice e)) (h : DataW.trod enc P W b0 (fun _ => true) true fuel t cs = some x) :
    ∃ a L c, cs = [.slice a (List.length L) c] ∧ Rd W a (List.flatten L) ∧ L.length ≤ c ∧ c ≤ maxLen ∧ ∀ y ∈ L, y.length = P.cellsOf e ∧ ∃ n z, DataW.trod enc P W b0 (fun _ => true) true n e y = some z := by
  rcases Go.Deep.open_slice ht h with ⟨rfl, _⟩ | ⟨a, len, cap, m, n, D, Pl, rfl, hb, hl, hm, hmm, _, hx⟩
  · exact ⟨none, [], 0, rfl, Rd.nil _ _, by simp, by simp, fun y hy => by cases hy⟩
  simp only [if_true] at hmm
  rw [hmm] at hx
  let L : List (List Value) := (List.range len).map fun i => (W.cells? b0 (a.add (i * P.cellsOf e)) (P.cellsOf e)).getD []
  have hLl : L.length = len := by simp [L]
  have hLi : ∀ i, i < len → ∃ cs', L.getD i [] = cs' ∧ W.cells? b0 (a.add (i * P.cellsOf e)) (P.cellsOf e) = some cs' ∧ ∃ z, DataW.trod enc P W b0 (fun _ => true) true n e cs' = some z := fun i hi => by
    obtain ⟨cs', h1, h2⟩ := hx i (by omega)
    refine ⟨cs', ?_, h1, _, h2⟩
    simp only [L]
    rw [List.getD_eq_getElem?_getD, List.getElem?_map, List.getElem?_range hi, Option.map_some, h1]; rfl
  have hLe : ∀ y ∈ L, y.length = P.cellsOf e ∧ ∃ n z, DataW.trod enc P W b0 (fun _ => true) true n e y = some z := fun y hy => by
    obtain ⟨i, hi, rfl⟩ := List.getElem_of_mem hy
    obtain ⟨cs', h1, h2, h3⟩ := hLi i (by omega)
    rw [List.getD_eq_getElem?_getD, List.getElem?_eq_getElem hi, Option.getD_some] at h1
    rw [h1]
    exact ⟨(cells_at h2).1, n, h3⟩
  refine ⟨some a, L, cap, by rw [hLl], ?_, by omega, hm, hLe⟩
  have hcell : ∀ j v, L.flatten[j]? = some v → W.cell? (a.add j) = some v := fun j v hv => by
    obtain ⟨i, k, hi, rfl, hk⟩ := flat_at (fun y hy => (hLe y hy).1) j v hv
    obtain ⟨cs', h1, h2, _⟩ := hLi i (by omega)
    rw [h1] at hk
    have := (cells_at h2).2 k v hk
    rwa [Go.Deep.add_add] at this
  rcases Nat.eq_zero_or_pos L.flatten.length with h0 | h0
  · rw [List.eq_nil_of_length_eq_zero h0]; exact Rd.nil _ _
  obtain ⟨v0, hv0⟩ : ∃ v, L.flatten[0]? = some v := ⟨L.flatten[0], List.getElem?_eq_getElem h0⟩
  have hc0 := hcell 0 v0 hv0
  obtain ⟨b, off, spot⟩ := a
  have hspot : spot = none := by simpa [Addr.add] using World.cell?_spot hc0
  subst hspot
  have key : ∃ cs t fz, W.heap[b]? = some (.cells cs t fz) := by
    rw [addr_add] at hc0
    unfold World.cell? at hc0
    cases hh : W.heap[b]? with
    | none => simp [hh] at hc0
    | some o =>
      cases o with
      | cells cs t fz => exact ⟨cs, t, fz, rfl⟩
      | _ => simp [hh] at hc0
  obtain ⟨cs, t, fz, hh⟩ := key
  refine .inr ⟨b, off, cs, t, fz, rfl, hh, fun i v hv => ?_⟩
  have h1 := hcell i v hv
  rw [addr_add, cell_of_row W b (off + i) cs t fz hh] at h1
  exact h1
end
section
variable {H : Type} {enc : TypeId × Value → H} {P : Program} {W : World} {r : Reach} {b0 t e : Nat} {v : Value} {d : DataW H} {ps : List MemPlace}
end
end Eng
end
section
namespace Go.Proofs.YtejdjnkilikehaaGreatDoor
open Go Eng Sha Cha Itm Go.ChangeShapes Go.WideShapes Go.ChangeAt Go.RowKit
theorem own29 : ownKnob Tryz.prog.godebug = none := by kernel_rfl
theorem gStart : Tryz.prog.globalNamed "chartroom/digest.start" = some 1 := by kernel_rfl
theorem tStart : (Tryz.prog.globals[1]?).map (·.type) = some 186 := by kernel_rfl
theorem gNums : Tryz.prog.globalNamed "chartroom/digest.numbers" = some 2 := by kernel_rfl
theorem tNums : (Tryz.prog.globals[2]?).map (·.type) = some 219 := by kernel_rfl
theorem gLens : Tryz.prog.globalNamed "chartroom/padding.lengths" = some 0 := by kernel_rfl
theorem tLens : (Tryz.prog.globals[0]?).map (·.type) = some 102 := by kernel_rfl
theorem gCons : Tryz.prog.globalNamed "chartroom/cipher.constants" = some 5 := by kernel_rfl
theorem tCons : (Tryz.prog.globals[5]?).map (·.type) = some 227 := by kernel_rfl
abbrev laid29 : List (String × DataW Unit) := [("chartroom/digest.start", Rows.laid_chartroom_digest_start), ("chartroom/digest.numbers", Rows.laid_chartroom_digest_numbers), ("chartroom/padding.lengths", Rows.laid_chartroom_padding_lengths), ("bytes.ErrTooLarge", Rows.laid_bytes_ErrTooLarge), ("chartroom/cipher.constants", Rows.laid_chartroom_cipher_constants)]
theorem eStart : (Rows.laid_chartroom_digest_start : DataW Unit) = .agg (init.l.map fun z => .lit (.int .u32 z.toNat)) := by kernel_rfl
theorem eNums : (Rows.laid_chartroom_digest_numbers : DataW Unit) = .agg (K.map fun z => .lit (.int .u32 z.toNat)) := by kernel_rfl
theorem eCons : (Rows.laid_chartroom_cipher_constants : DataW Unit) = .agg (cst.map fun z => .lit (.int .u32 z.toNat)) := by kernel_rfl
theorem door29 (os : Os) (args : Array Value) : laidMetH Tryz.prog laid29 ((World.doorLaid Tryz.prog 400 os).forCall (fun _ _ => 0) ⟨#[], args, []⟩).memory :=
  laidMetH_of_parts3 (fuel := 8) (laidMet_of_run' 8 (by kernel_rfl) (by kernel_rfl)) (by kernel_rfl) (by kernel_rfl)
theorem lg_of_laid {W : World} (h : laidMetH Tryz.prog laid29 W) : LG W := by
  rw [MakeChecks.laidMetH_plain _ _ _ (by kernel_rfl)] at h
  obtain ⟨ps, ⟨g0, t0, cs0, f0, p0, q0, hg0, ht0, hv0, hd0, ⟨g1, t1, cs1, f1, p1, q1, hg1, ht1, hv1, hd1, ⟨g2, t2, cs2, f2, p2, q2, hg2, ht2, hv2, hd2, ⟨g3, t3, cs3, f3, p3, q3, hg3, ht3, hv3, hd3, ⟨g4, t4, cs4, f4, p4, q4, hg4, ht4, hv4, hd4, _⟩, _⟩, _⟩, _⟩, _⟩, _⟩ := h
  obtain rfl := Option.some.inj (gStart.symm.trans hg0)
  obtain rfl := Option.some.inj (tStart.symm.trans ht0)
  obtain rfl := Option.some.inj (gNums.symm.trans hg1)
  obtain rfl := Option.some.inj (tNums.symm.trans ht1)
  obtain rfl := Option.some.inj (gLens.symm.trans hg2)
  obtain rfl := Option.some.inj (tLens.symm.trans ht2)
  obtain rfl := Option.some.inj (gCons.symm.trans hg4)
  obtain rfl := Option.some.inj (tCons.symm.trans ht4)
  rw [eStart] at hd0
  rw [eNums] at hd1
  rw [eCons] at hd4
  have hs : LS W := ⟨rd_listedW gStart hv0 Tryz.underlying186 Tryz.underlying151 (by kernel_rfl) hd0, rd_listedW gNums hv1 Tryz.underlying219 Tryz.underlying151 (by kernel_rfl) hd1⟩
  exact ⟨hs, rd_listed gLens hv2 Tryz.underlying102 Tryz.underlying3 (by kernel_rfl) (l := lens) hd2, ⟨hs, rd_listedW gCons hv4 Tryz.underlying227 Tryz.underlying151 (by kernel_rfl) hd4⟩⟩
section
variable {H : Type} {enc : TypeId × Value → H} {P : Program} {W : World} {r : Reach} {b0 t e fuel : Nat} {v : Value} {d : DataW H} {ps : List MemPlace} {cs : List Value} {x : DataW H × List MemPlace}
theorem td_bytes (ht : P.underlying t = some (.slice e)) (he : P.underlying e = some (.int .u8)) (hc : P.cellsOf e = 1) (hb : P.bytesOf e = 1)
    (h : DataW.trod enc P W 0 (fun _ => true) true fuel t cs = some x) (hw : ∀ n ∈ x.1.weights P t, n ≤ reachBytes) : ∃ a c q, cs = [.slice a (List.length q) c] ∧ Rd W a (bs q) ∧ q.length ≤ c ∧ c ≤ 140737488351232 := by
  obtain ⟨a, L, c, h1, h2, h3, h4, h5⟩ := td_slice ht h
  obtain ⟨q, rfl, _⟩ := map_of (f := fun z : UInt8 => [B z]) (p := fun _ => True) fun y hy => by
    obtain ⟨_, n, z, hz⟩ := h5 y hy
    obtain ⟨b, hb⟩ := td_u8 he hz
    exact ⟨b, hb, trivial⟩
  have ef : ∀ l : List UInt8, (l.map fun z : UInt8 => [B z]).flatten = bs l := fun l => by
    induction l with
    | nil => rfl
    | cons b l ih => rw [List.map_cons, List.flatten_cons, ih]; rfl
  rw [ef] at h2
  rw [List.length_map] at h1 h3
  refine ⟨a, c, q, h1, h2, h3, ?_⟩
  rcases open_ints ht he hc h with ⟨hcs, hx⟩ | ⟨a', len', cap', zs, hcs, _, hl, hm, hz, hx, _, _⟩
  · rw [h1] at hcs
    simp only [List.cons.injEq, Value.slice.injEq, and_true] at hcs
    omega
  · rw [h1] at hcs
    simp only [List.cons.injEq, Value.slice.injEq, and_true] at hcs
    simp only [if_true] at hz
    have := hw ((zs.take len').length + (zs.drop len').length) (by
      rw [hx]
      simp [DataW.weights, ht, hb, lits])
    rw [← List.length_append, List.take_append_drop] at this
    unfold reachBytes at this
    omega
theorem op_st {fs : Array Field} (ht : P.underlying t = some (.struct fs)) (hval : Value.okWide P W r b0 t v) (hd : DataW.Trod enc P W 0 (fun _ => true) true t v d ps) :
    ∃ (L : List Value) (fuel : Nat), v = .agg L.toArray ∧ DataW.trod enc P W 0 (fun _ => true) true fuel t L = some (d, ps) := by
  have h0 : ∃ cs, v = .agg cs := by
    simp only [Value.okWide, ht] at hval
    obtain ⟨cs, h1, _⟩ := hval
    exact ⟨cs, h1⟩
  obtain ⟨cs, rfl⟩ := h0
  obtain ⟨fuel, hf⟩ := hd
  exact ⟨cs.toList, fuel, by simp, hf⟩
theorem dcut {L s : List Value} {a n : Nat} (b : Nat) (h : (L.drop a).take n = s) (hb : a + n = b) : L.drop a = s ++ L.drop b := by
  rw [← h, ← hb, ← List.drop_drop]; exact (List.take_append_drop n _).symm
set_option maxRecDepth 100000
theorem td_ek (h : DataW.trod enc Tryz.prog W 0 (fun _ => true) true fuel 26 cs = some x) : ∃ cm ks : List UInt8, cs = bs cm ++ bs ks ∧ cm.length = 32 ∧ ks.length = 32 := by
  obtain ⟨xs, n, _, _, hl, hn, hel⟩ := DataW.trod_struct Tryz.underlying26 h
  have hn' : xs.length = 2 := hn
  rw [show (Tryz.prog).cellsOf 26 = 64 by kernel_rfl] at hl
  have h0 := hel 0 _ rfl
  have h1 := hel 1 _ rfl
  rw [List.getElem?_eq_getElem (by omega)] at h0 h1
  obtain ⟨p, e0, hp⟩ := td_key (m := 32) Tryz.underlying23 Tryz.underlying5 (by kernel_rfl) (by kernel_rfl) h0
  obtain ⟨q, e1, hq⟩ := td_key (m := 32) Tryz.underlying24 Tryz.underlying5 (by kernel_rfl) (by kernel_rfl) h1
  have c0 := dcut (L := cs) (s := bs p) (a := 0) (n := 32) 32 e0 rfl
  have c1 := dcut (L := cs) (s := bs q) (a := 32) (n := 32) 64 e1 rfl
  refine ⟨p, q, ?_, hp, hq⟩
  rw [← List.drop_zero (l := cs), c0, c1, List.drop_eq_nil_of_le (show cs.length ≤ 64 by omega), List.append_nil]
theorem td_cap (h : DataW.trod enc Tryz.prog W 0 (fun _ => true) true fuel 32 cs = some x) : ∃ (a b : Int) (p : List UInt8), cs = I a :: I b :: bs p ∧ R64 a ∧ R64 b ∧ p.length = 32 := by
  obtain ⟨xs, n, _, _, hl, hn, hel⟩ := DataW.trod_struct Tryz.underlying32 h
  have hn' : xs.length = 3 := hn
  rw [show (Tryz.prog).cellsOf 32 = 34 by kernel_rfl] at hl
  have h0 := hel 0 _ rfl
  have h1 := hel 1 _ rfl
  have h2 := hel 2 _ rfl
  rw [List.getElem?_eq_getElem (by omega)] at h0 h1 h2
  obtain ⟨a, e0, ha⟩ := td_int Tryz.underlying3 h0
  obtain ⟨b, e1, hb⟩ := td_int Tryz.underlying3 h1
  obtain ⟨p, e2, hp⟩ := td_key (m := 32) Tryz.underlying24 Tryz.underlying5 (by kernel_rfl) (by kernel_rfl) h2
  have c0 := dcut (L := cs) (s := [I a]) (a := 0) (n := 1) 1 e0 rfl
  have c1 := dcut (L := cs) (s := [I b]) (a := 1) (n := 1) 2 e1 rfl
  have c2 := dcut (L := cs) (s := bs p) (a := 2) (n := 32) 34 e2 rfl
  refine ⟨a, b, p, ?_, ha, hb, hp⟩
  rw [← List.drop_zero (l := cs), c0, c1, c2, List.drop_eq_nil_of_le (show cs.length ≤ 34 by omega), List.append_nil]; rfl
theorem td_sig (h : DataW.trod enc Tryz.prog W 0 (fun _ => true) true fuel 34 cs = some x) : ∃ a b : Int, cs = [I a, I b] ∧ R64 a ∧ R64 b := by
  obtain ⟨xs, n, _, _, hl, hn, hel⟩ := DataW.trod_struct Tryz.underlying34 h
  have hn' : xs.length = 2 := hn
  rw [show (Tryz.prog).cellsOf 34 = 2 by kernel_rfl] at hl
  have h0 := hel 0 _ rfl
  have h1 := hel 1 _ rfl
  rw [List.getElem?_eq_getElem (by omega)] at h0 h1
  obtain ⟨a, e0, ha⟩ := td_int Tryz.underlying3 h0
  obtain ⟨b, e1, hb⟩ := td_int Tryz.underlying3 h1
  have c0 := dcut (L := cs) (s := [I a]) (a := 0) (n := 1) 1 e0 rfl
  have c1 := dcut (L := cs) (s := [I b]) (a := 1) (n := 1) 2 e1 rfl
  refine ⟨a, b, ?_, ha, hb⟩
  rw [← List.drop_zero (l := cs), c0, c1, List.drop_eq_nil_of_le (show cs.length ≤ 2 by omega)]; rfl
theorem op_ek (hval : Value.okWide Tryz.prog W r b0 26 v) (hd : DataW.Trod enc Tryz.prog W 0 (fun _ => true) true 26 v d ps) :
    ∃ cm ks : List UInt8, v = .agg (bs cm ++ bs ks).toArray ∧ cm.length = 32 ∧ ks.length = 32 := by
  obtain ⟨L, fuel, rfl, hf⟩ := op_st Tryz.underlying26 hval hd
  obtain ⟨cm, ks, rfl, h1, h2⟩ := td_ek hf
  exact ⟨cm, ks, rfl, h1, h2⟩
theorem op_cap (hval : Value.okWide Tryz.prog W r b0 32 v) (hd : DataW.Trod enc Tryz.prog W 0 (fun _ => true) true 32 v d ps) :
    ∃ (a b : Int) (p : List UInt8), v = .agg (I a :: I b :: bs p).toArray ∧ p.length = 32 ∧ R64 a ∧ R64 b := by
  obtain ⟨L, fuel, rfl, hf⟩ := op_st Tryz.underlying32 hval hd
  obtain ⟨a, b, p, rfl, h1, h2, h3⟩ := td_cap hf
  exact ⟨a, b, p, rfl, h3, h1, h2⟩
theorem op_item (hval : Value.okWide Tryz.prog W r b0 36 v) (hd : DataW.Trod enc Tryz.prog W 0 (fun _ => true) true 36 v d ps) (hw : ∀ n ∈ d.weights Tryz.prog 36, n ≤ reachBytes) :
    ∃ (i : It) (a : Option Addr) (c : Nat), v = itV i (.slice a i.bd.length c) ∧ i.Wf ∧ Rd W a (bs i.bd) ∧ i.bd.length ≤ c ∧ c ≤ 140737488351232 := by
  obtain ⟨L, fuel, rfl, hf⟩ := op_st Tryz.underlying36 hval hd
  obtain ⟨xs, n, _, hx, hl, hn, hel⟩ := DataW.trod_struct Tryz.underlying36 hf
  have hn' : xs.length = 9 := hn
  have hd1 : d = .agg (xs.map (·.1)) := (Prod.mk.inj hx).1
  rw [show (Tryz.prog).cellsOf 36 = 74 by kernel_rfl] at hl
  have h0 := hel 0 _ rfl
  have h1 := hel 1 _ rfl
  have h2 := hel 2 _ rfl
  have h3 := hel 3 _ rfl
  have h4 := hel 4 _ rfl
  have h5 := hel 5 _ rfl
  have h6 := hel 6 _ rfl
  have h7 := hel 7 _ rfl
  have h8 := hel 8 _ rfl
  have hx7 : xs[7]? = some (xs[7]'(by omega)) := List.getElem?_eq_getElem (by omega)
  rw [List.getElem?_eq_getElem (by omega)] at h0 h1 h2 h3 h4 h5 h6 h7 h8
  obtain ⟨fo, e0, r0⟩ := td_int Tryz.underlying3 h0
  obtain ⟨cm, e1, r1⟩ := td_key (m := 32) Tryz.underlying23 Tryz.underlying5 (by kernel_rfl) (by kernel_rfl) h1
  obtain ⟨dv, e2, r2⟩ := td_int Tryz.underlying3 h2
  obtain ⟨ct, e3, r3⟩ := td_int Tryz.underlying3 h3
  obtain ⟨kd, e4, r4⟩ := td_int Tryz.underlying3 h4
  obtain ⟨sz, e5, r5⟩ := td_int Tryz.underlying3 h5
  obtain ⟨cA, cB, pd, e6, rA, rB, rp⟩ := td_cap h6
  obtain ⟨a, c, q, e7, hr, hqc, hcm⟩ := td_bytes Tryz.underlying27 Tryz.underlying5 (by kernel_rfl) (by kernel_rfl) h7 (fun n hn => hw n (by
    rw [hd1]
    unfold DataW.weights
    rw [Tryz.underlying36]
    exact DataW.weights_mem_each (j := 7) (t := 27) (d := (xs[7]'(by omega)).1) rfl (by rw [List.getElem?_map, hx7]; rfl) n hn))
  obtain ⟨sR, sS, e8, rR, rS⟩ := td_sig h8
  have c0 := dcut (L := L) (s := [I fo]) (a := 0) (n := 1) 1 e0 rfl
  have c1 := dcut (L := L) (s := bs cm) (a := 1) (n := 32) 33 e1 rfl
  have c2 := dcut (L := L) (s := [I dv]) (a := 33) (n := 1) 34 e2 rfl
  have c3 := dcut (L := L) (s := [I ct]) (a := 34) (n := 1) 35 e3 rfl
  have c4 := dcut (L := L) (s := [I kd]) (a := 35) (n := 1) 36 e4 rfl
  have c5 := dcut (L := L) (s := [I sz]) (a := 36) (n := 1) 37 e5 rfl
  have c6 := dcut (L := L) (s := I cA :: I cB :: bs pd) (a := 37) (n := 34) 71 e6 rfl
  have c7 := dcut (L := L) (s := [.slice a (List.length q) c]) (a := 71) (n := 1) 72 e7 rfl
  have c8 := dcut (L := L) (s := [I sR, I sS]) (a := 72) (n := 2) 74 e8 rfl
  have hL : L = itC ⟨fo, cm, dv, ct, kd, sz, cA, cB, pd, q, sR, sS⟩ (.slice a q.length c) := by
    rw [← List.drop_zero (l := L), c0, c1, c2, c3, c4, c5, c6, c7, c8, List.drop_eq_nil_of_le (show L.length ≤ 74 by omega)]
    unfold itC tl1 tl2
    simp
  exact ⟨⟨fo, cm, dv, ct, kd, sz, cA, cB, pd, q, sR, sS⟩, a, c, by rw [hL], ⟨r0, r1, r2, r3, r4, r5, rA, rB, rp, rR, rS⟩, hr, hqc, hcm⟩
theorem op_in (hval : Value.okWide Tryz.prog W r b0 29 v) (hd : DataW.Trod enc Tryz.prog W 0 (fun _ => true) true 29 v d ps) (hw : ∀ n ∈ d.weights Tryz.prog 29, n ≤ reachBytes) :
    ∃ (f d c k x : Int) (cm ks q s : List UInt8) (pa : Option Addr) (pc : Nat), v = InV f cm ks d c k x pa pc q s ∧ R64 f ∧ R64 d ∧ R64 c ∧ R64 k ∧ cm.length = 32 ∧ ks.length = 32 ∧ s.length = 32 ∧ Rd W pa (bs q) ∧ q.length < 9223372036854775807 := by
  obtain ⟨L, fuel, rfl, hf⟩ := op_st Tryz.underlying29 hval hd
  obtain ⟨xs, n, _, hx, hl, hn, hel⟩ := DataW.trod_struct Tryz.underlying29 hf
  have hn' : xs.length = 8 := hn
  have hd1 : d = .agg (xs.map (·.1)) := (Prod.mk.inj hx).1
  rw [show (Tryz.prog).cellsOf 29 = 102 by kernel_rfl] at hl
  have h0 := hel 0 _ rfl
  have h1 := hel 1 _ rfl
  have h2 := hel 2 _ rfl
  have h3 := hel 3 _ rfl
  have h4 := hel 4 _ rfl
  have h5 := hel 5 _ rfl
  have h6 := hel 6 _ rfl
  have h7 := hel 7 _ rfl
  have hx6 : xs[6]? = some (xs[6]'(by omega)) := List.getElem?_eq_getElem (by omega)
  rw [List.getElem?_eq_getElem (by omega)] at h0 h1 h2 h3 h4 h5 h6 h7
  obtain ⟨f, e0, r0⟩ := td_int Tryz.underlying3 h0
  obtain ⟨cm, ks, e1, rc, rk⟩ := td_ek h1
  obtain ⟨dv, e2, r2⟩ := td_int Tryz.underlying3 h2
  obtain ⟨ct, e3, r3⟩ := td_int Tryz.underlying3 h3
  obtain ⟨kd, e4, r4⟩ := td_int Tryz.underlying3 h4
  obtain ⟨pv, e5, _⟩ := td_int Tryz.underlying3 h5
  obtain ⟨a, c, q, e6, hr, hqc, hcm⟩ := td_bytes Tryz.underlying27 Tryz.underlying5 (by kernel_rfl) (by kernel_rfl) h6 (fun n hn => hw n (by
    rw [hd1]
    unfold DataW.weights
    rw [Tryz.underlying29]
    exact DataW.weights_mem_each (j := 6) (t := 27) (d := (xs[6]'(by omega)).1) rfl (by rw [List.getElem?_map, hx6]; rfl) n hn))
  obtain ⟨s, e7, r7⟩ := td_key (m := 32) Tryz.underlying24 Tryz.underlying5 (by kernel_rfl) (by kernel_rfl) h7
  have c0 := dcut (L := L) (s := [I f]) (a := 0) (n := 1) 1 e0 rfl
  have c1 := dcut (L := L) (s := bs cm ++ bs ks) (a := 1) (n := 64) 65 e1 rfl
  have c2 := dcut (L := L) (s := [I dv]) (a := 65) (n := 1) 66 e2 rfl
  have c3 := dcut (L := L) (s := [I ct]) (a := 66) (n := 1) 67 e3 rfl
  have c4 := dcut (L := L) (s := [I kd]) (a := 67) (n := 1) 68 e4 rfl
  have c5 := dcut (L := L) (s := [I pv]) (a := 68) (n := 1) 69 e5 rfl
  have c6 := dcut (L := L) (s := [.slice a (List.length q) c]) (a := 69) (n := 1) 70 e6 rfl
  have c7 := dcut (L := L) (s := bs s) (a := 70) (n := 32) 102 e7 rfl
  have hL : L = inC f cm ks dv ct kd pv (.slice a q.length c) s := by
    rw [← List.drop_zero (l := L), c0, c1, c2, c3, c4, c5, c6, c7, List.drop_eq_nil_of_le (show L.length ≤ 102 by omega)]
    unfold inC inT
    rw [bs_append]
    simp
  exact ⟨f, dv, ct, kd, pv, cm, ks, q, s, a, c, by rw [hL], r0, r2, r3, r4, rc, rk, r7, hr, by omega⟩
end
end Go.Proofs.YtejdjnkilikehaaGreatDoor
end
