/- Joined texts. -/
import Derived.Test.YtchpcabehchfjaaDoorRows
import Derived.Test.YtchpcabehchfjaaDoorBase
import Derived.ProofKit
import Derived.LaidMore
import Derived.LaidHandle
import Derived.OpenShut
import Derived.FnData
import Derived.SizedLaws
import Derived.ChangeMaps5
import Derived.Deep.Slices
/- From a walk that returns true and leaves memory as it was to the row of a statement. -/
namespace Eng
open Go Go.RowKit Go.ChangeShapes Go.WideShapes Go.ChangeAt

theorem St.kept {W w : World} (h : St W [] w []) (may : MemPlace → Prop) : W.keptBut w may := by
  refine ⟨h.os, h.output, fun i hi => ?_⟩
  rw [h.old i hi (by simp)]
  cases ho : W.heap[i]? with
  | none => rfl
  | some o => cases o <;> simp

theorem trodAll_below {H : Type} {enc : TypeId × Value → H} {P : Program} (hl : laidOutB P = true) {W w : World} (hb : Below W.heap.size W w) :
    ∀ {ts : List TypeId} {vs : List Value} {ds : List (DataW H)} {ps : List MemPlace}, (ts.all fun t => P.readableRec t && decide (t < P.types.size)) = true → (∀ x ∈ ps, x.block < W.heap.size) →
      DataW.TrodAll enc P W 0 (fun _ => true) true ts vs ds ps → DataW.TrodAll enc P w 0 (fun b => decide (b < W.heap.size)) true ts vs ds ps
  | [], [], [], _, _, _, h => h
  | t :: ts, v :: vs, d :: ds, ps, ht, hlt, h => by
    obtain ⟨p, q, h1, h2, rfl⟩ := h
    simp only [List.all_cons, Bool.and_eq_true, decide_eq_true_eq] at ht
    exact ⟨p, q, Below.trod hl ht.1.1 ht.1.2 h1 hb (fun x hx => hlt x (List.mem_append_left _ hx)), trodAll_below hl hb (by simpa using ht.2) (fun x hx => hlt x (List.mem_append_right _ hx)) h2, rfl⟩
  | [], _ :: _, _, _, _, _, h => h.elim
  | _ :: _, [], _, _, _, _, h => h.elim
  | [], [], _ :: _, _, _, _, h => h.elim
  | _ :: _, _ :: _, [], _, _, _, h => h.elim

theorem post_true {H : Type} {enc : TypeId × Value → H} {P : Program} {f : Func} {s : ChangeSpec} {W w : World} {args : Array Value} {ds gs : List (DataW H)} {before : List MemPlace} {tb : TypeId}
    (hl : laidOutB P = true) (ht : (f.params.toList.all fun t => P.readableRec t && decide (t < P.types.size)) = true) (hr : f.resultTypes = #[tb]) (hb : P.underlying tb = some .bool) (hv : s.vars = [])
    (hfn : s.fn H (ds ++ gs) = { results := [.lit (.bool true)], args := ds })
    (hW : DataW.Whole enc P f.params.toList s.vars false W args.toList ds gs before) (hs : St W [] w []) : s.post enc P f false true false false W args (.bool true) w := by
  have hlt : ∀ x ∈ before, x.block < W.heap.size := fun x hx => hW.lt x hx
  have hW' := hW
  obtain ⟨p, q, hA, hV, rfl, hfz, hnd⟩ := hW
  rw [hv] at hV
  obtain ⟨rfl, rfl⟩ := trodVars_none hV
  refine ⟨ds, [], p ++ [], [], p, [], hW', ?_, ?_, ?_, hs.kept _, fun h => by cases h⟩
  · rw [hfn, hr]
    exact trodAll_cons_mk (shut_bool hb _) trodAll_mk0
  · rw [hfn]
    exact trodAll_below hl hs.below ht (fun x hx => hlt x (List.mem_append_left _ hx)) hA
  · rw [hfn, hv]
    exact rfl

/-- a law over a listed variable -/
theorem law_lifted {H : Type} {enc : TypeId × Value → H} {C : Checked} {os : Os} {f : FuncId} {fn : Func} {s : ChangeSpec} {X : World → Array Value → Prop} {tb : TypeId}
    (hX : ∀ (w w' : World) (args : Array Value), w.heap = w'.heap → X w args → X w' args)
    (own : ownKnob C.prog.godebug = none) (started : os.Started) (noInit : C.prog.inits.idxOf? f = none) (hfn : C.prog.funcs[f]? = some fn)
    (witness : ∃ (w : World) (tape : Tape) (i : Input), w.os = os ∧ (w.forCall tape i).Shaped C.prog ∧ i.vars = [] ∧ Input.okWide C.prog (w.forCall tape i) .any w.heap.size f i ∧
      ((s.pre enc C.prog fn [] false (w.forCall tape i).memory i.args ∧ X (w.forCall tape i).memory i.args) ∧ sizedMet enc C.prog fn (OpenSpec.ofChange s) false (w.forCall tape i).memory i.args) ∧ ({} : Assume).holds C.prog (lone (Frame.enter C.prog f i.args .normal) [] (w.forCall tape i)))
    (hl : laidOutB C.prog = true) (ht : (fn.params.toList.all fun t => C.prog.readableRec t && decide (t < C.prog.types.size)) = true) (hr : fn.resultTypes = #[tb]) (hb : C.prog.underlying tb = some .bool) (hv : s.vars = [])
    (hsp : ∀ ds : List (DataW H), ds.length = fn.params.size → s.fn H ds = { results := [.lit (.bool true)], args := ds })
    (walk : ∀ (W : World) (base : Nat) (args : Array Value) (ds : List (DataW H)) (p : List MemPlace),
      (∀ (j : Nat) t v, fn.params[j]? = some t → args[j]? = some v → Value.okWide C.prog W .any base t v) →
      DataW.TrodAll enc C.prog W 0 (fun _ => true) true fn.params.toList args.toList ds p →
      (DataW.weightsEach C.prog fn.params.toList ds).all (· ≤ reachBytes) = true → X W args →
      Calls C.prog f args W fun e w => e = .returned (.bool true) ∧ St W [] w []) :
    ReturnsInHanded {} C os f .any (fun w args => (s.pre enc C.prog fn [] false w args ∧ X w args) ∧ sizedMet enc C.prog fn (OpenSpec.ofChange s) false w args) (s.post enc C.prog fn false true false false) := by
  refine returnsInHanded_of_change_and (C := C) (X := X) hX own started noInit hfn witness ?_
  intro W base args ds gs before hval hW _ hsz hx _
  have hW' := hW
  obtain ⟨p, q, hA, hV, hpq, hfz, hnd⟩ := hW
  have hV' := hV
  rw [hv] at hV'
  obtain ⟨rfl, rfl⟩ := trodVars_none hV'
  have hvt : s.plain.varTypes C.prog = [] := by unfold DataSpec.varTypes ChangeSpec.plain; rw [hv]; rfl
  rw [hvt, List.append_nil, List.append_nil] at hsz
  refine (walk W base args ds p hval hA hsz hx).mono fun e w ⟨he, hs⟩ => ⟨_, he, ?_⟩
  have hlen : ds.length = fn.params.size := by
    have key : ∀ {ts : List TypeId} {vs : List Value} {ds : List (DataW H)} {ps : List MemPlace}, DataW.TrodAll enc C.prog W 0 (fun _ => true) true ts vs ds ps → ds.length = ts.length := by
      intro ts
      induction ts with
      | nil => intro vs ds ps h; cases vs <;> cases ds <;> first | rfl | exact h.elim
      | cons t ts ih =>
        intro vs ds ps h
        cases vs with
        | nil => exact h.elim
        | cons v vs =>
          cases ds with
          | nil => exact h.elim
          | cons d ds =>
            obtain ⟨_, _, _, h2, _⟩ := h
            simp [ih h2]
    have := key hA
    simpa using this
  exact post_true hl ht hr hb hv (by rw [List.append_nil]; exact hsp ds hlen) hW' hs

/-- an argument of bytes -/
theorem open_bytes {H : Type} {enc : TypeId × Value → H} {P : Program} {W : World} {r : Reach} {b0 t e : Nat} {v : Value} {d : DataW H} {ps : List MemPlace} (ht : P.underlying t = some (.slice e)) (he : P.underlying e = some (.int .u8)) (hc : P.cellsOf e = 1)
    (hval : Value.okWide P W r b0 t v) (hd : DataW.Trod enc P W 0 (fun _ => true) true t v d ps) : ∃ a c q, v = .slice a (List.length q) c ∧ Rd W a (bs q) ∧ q.length ≤ c ∧ c ≤ maxLen := by
  obtain ⟨a0, len, cap, rfl⟩ := okWide_slice ht hval
  obtain ⟨fuel, hf⟩ := hd
  rcases open_ints ht he hc hf with ⟨hcs, hx⟩ | ⟨a, len', cap', zs, hcs, _, hl, hm, hz, hx, hcell, hwz⟩
  · simp only [Value.cells, List.cons.injEq, Value.slice.injEq, and_true] at hcs
    obtain ⟨rfl, rfl, rfl⟩ := hcs
    exact ⟨none, 0, [], rfl, Rd.nil _ _, by simp, by simp⟩
  · simp only [Value.cells, List.cons.injEq, Value.slice.injEq, and_true] at hcs
    obtain ⟨rfl, rfl, rfl⟩ := hcs
    simp only [if_true] at hz
    have hlen : ((zs.take len).map fun z => UInt8.ofNat z.toNat).length = len := by simp [hz, hl]
    refine ⟨some a, cap, (zs.take len).map fun z => UInt8.ofNat z.toNat, by rw [hlen], ?_, by omega, hm⟩
    rcases Nat.eq_zero_or_pos len with h0 | h0
    · subst h0; exact Rd.nil _ _
    · obtain ⟨b, off, rfl, hc2⟩ := ints_at hcell (by omega)
      have key : ∃ cs t fz, W.heap[b]? = some (.cells cs t fz) := by
        have h1 := hc2 0 (by omega)
        unfold World.cell? at h1
        cases hh : W.heap[b]? with
        | none => simp [hh] at h1
        | some o =>
          cases o with
          | cells cs t fz => exact ⟨cs, t, fz, rfl⟩
          | _ => simp [hh] at h1
      obtain ⟨cs, t, fz, hh⟩ := key
      refine .inr ⟨b, off, cs, t, fz, rfl, hh, fun i v hv => ?_⟩
      simp only [bs, List.map_map, List.getElem?_map, Option.map_eq_some_iff] at hv
      obtain ⟨z, hz1, rfl⟩ := hv
      rw [List.getElem?_take] at hz1
      split at hz1
      · rename_i hi
        have h1 := hc2 i (by omega)
        rw [cell_of_row W b (off + i) cs t fz hh] at h1
        rw [h1, List.getD_eq_getElem?_getD, hz1, Option.getD_some]
        have h2 := bounds_u8 (hwz z (List.mem_of_getElem? hz1))
        congr 2
        simp
        omega
      · cases hz1

theorem var_heap {P : Program} {w : World} {n : String} {g : Nat} {cs : Array Value} (hg : P.globalNamed n = some g) (h : w.var? P n = some cs) : ∃ t fz, w.heap[g]? = some (.cells cs t fz) := by
  simp only [World.var?, hg, Option.bind_some] at h
  split at h
  · rename_i c t fz hh
    cases h
    exact ⟨t, fz, hh⟩
  · cases h

/-- a listed array of ints -/
theorem rd_listed {P : Program} {w : World} {nm : String} {g t e n fuel : Nat} {cs : Array Value} {l : List Int} {p : List MemPlace} (hg : P.globalNamed nm = some g) (hv : w.var? P nm = some cs)
    (ht : P.underlying t = some (.array n e)) (he : P.underlying e = some (.int .i64)) (hce : P.cellsOf e = 1)
    (hd : DataW.trod (fun _ => ()) P w 0 (fun _ => true) false fuel t cs.toList = some (.agg (l.map fun z => .lit (.int .i64 z)), p)) : Rd w (some ⟨g, 0, none⟩) (is l) := by
  obtain ⟨tt, fz, hh⟩ := var_heap hg hv
  obtain ⟨xs, m, rfl, hx, hlen, hn, hel⟩ := DataW.trod_array ht hd
  refine .inr ⟨g, 0, cs, tt, fz, rfl, hh, fun i v hiv => ?_⟩
  simp only [Prod.mk.injEq, DataW.agg.injEq] at hx
  obtain ⟨z, hz, rfl⟩ : ∃ z, l[i]? = some z ∧ I z = v := by simpa [is, List.getElem?_map] using hiv
  have hi : i < n := by
    have h1 : i < l.length := (List.getElem?_eq_some_iff.1 hz).1
    have h2 : l.length = xs.length := by have := congrArg List.length hx.1; simpa using this
    omega
  have h1 := hel i hi
  have h2 : (xs.map (·.1))[i]? = some (.lit (.int .i64 z)) := by rw [← hx.1]; simp [hz]
  rw [List.getElem?_map] at h2
  cases hxi : xs[i]? with
  | none => rw [hxi] at h2; cases h2
  | some y =>
    rw [hxi] at h2 h1
    obtain ⟨z', e1, e2, _⟩ := DataW.trod_int he h1
    have : z' = z := by
      rw [e2] at h2
      simpa using h2
    subst this
    rw [hce, Nat.mul_one] at e1
    have h3 : (cs.toList.drop i)[0]? = some (I z') := by
      have : ((cs.toList.drop i).take 1)[0]? = some (I z') := by rw [e1]; rfl
      simpa [List.getElem?_take] using this
    rw [List.getElem?_drop] at h3
    simpa using h3
end Eng
/- The arguments of a statement, opened. -/
namespace Eng
open Go Go.RowKit Go.ChangeShapes Go.WideShapes Go.ChangeAt
section
variable {H : Type} {enc : TypeId × Value → H} {P : Program} {W : World} {r : Reach} {b0 t e : Nat} {v : Value} {d : DataW H} {ps : List MemPlace}

theorem op_int (ht : P.underlying t = some (.int .i64)) (hval : Value.okWide P W r b0 t v) (hd : DataW.Trod enc P W 0 (fun _ => true) true t v d ps) : ∃ a, v = I a ∧ R64 a := by
  obtain ⟨a0, rfl, rfl, rfl, w0⟩ := open_int ht hval hd
  exact ⟨a0, rfl, bounds_i64 w0⟩
theorem op_u16 (ht : P.underlying t = some (.int .u16)) (hval : Value.okWide P W r b0 t v) (hd : DataW.Trod enc P W 0 (fun _ => true) true t v d ps) : ∃ z : Nat, v = .int .u16 (z : Int) ∧ z < 65536 := by
  obtain ⟨a0, rfl, rfl, rfl, w0⟩ := open_int ht hval hd
  have h := bounds_u16 w0
  exact ⟨a0.toNat, by rw [Int.toNat_of_nonneg h.1], by omega⟩
theorem op_uint (ht : P.underlying t = some (.int .u64)) (hval : Value.okWide P W r b0 t v) (hd : DataW.Trod enc P W 0 (fun _ => true) true t v d ps) : ∃ z : Nat, v = U z ∧ z < 18446744073709551616 := by
  obtain ⟨a0, rfl, rfl, rfl, w0⟩ := open_int ht hval hd
  have h := bounds_u64 w0
  exact ⟨a0.toNat, by rw [U, Int.toNat_of_nonneg h.1], by omega⟩
theorem op_byte (ht : P.underlying t = some (.int .u8)) (hval : Value.okWide P W r b0 t v) (hd : DataW.Trod enc P W 0 (fun _ => true) true t v d ps) : ∃ y : UInt8, v = B y := by
  obtain ⟨a0, rfl, rfl, rfl, w0⟩ := open_int ht hval hd
  have h := bounds_u8 w0
  exact ⟨UInt8.ofNat a0.toNat, by rw [B, UInt8.toNat_ofNat']; congr 1; omega⟩
theorem op_bytes (ht : P.underlying t = some (.slice e)) (he : P.underlying e = some (.int .u8)) (hc : P.cellsOf e = 1) (hb : P.bytesOf e = 1)
    (hval : Value.okWide P W r b0 t v) (hd : DataW.Trod enc P W 0 (fun _ => true) true t v d ps) (hw : ∀ n ∈ d.weights P t, n ≤ reachBytes) : ∃ a c q, v = .slice a (List.length q) c ∧ Rd W a (bs q) ∧ q.length ≤ c ∧ c ≤ 140737488351232 := by
  obtain ⟨a, c, q, h1, h2, h3, _⟩ := open_bytes ht he hc hval hd
  refine ⟨a, c, q, h1, h2, h3, ?_⟩
  obtain ⟨fuel, hf⟩ := hd
  rcases open_ints ht he hc hf with ⟨hcs, hx⟩ | ⟨a', len', cap', zs, hcs, _, hl, hm, hz, hx, _, _⟩
  · rw [h1] at hcs
    simp only [Value.cells, List.cons.injEq, Value.slice.injEq, and_true] at hcs
    omega
  · rw [h1] at hcs
    simp only [Value.cells, List.cons.injEq, Value.slice.injEq, and_true] at hcs
    simp only [if_true] at hz
    simp only [Prod.mk.injEq] at hx
    have := hw ((zs.take len').length + (zs.drop len').length) (by
      rw [hx.1]
      simp [DataW.weights, ht, hb, lits])
    rw [← List.length_append, List.take_append_drop] at this
    unfold reachBytes at this
    omega
end
end Eng
/- The arguments of a statement, opened: keys, texts, ints; listed words. -/
namespace Eng
open Go Go.RowKit Go.ChangeShapes Go.WideShapes Go.ChangeAt
section
variable {H : Type} {enc : TypeId × Value → H} {P : Program} {W : World} {r : Reach} {b0 t e : Nat} {v : Value} {d : DataW H} {ps : List MemPlace}

def byteOf : Option Value → UInt8
  | some (Value.int .u8 z) => UInt8.ofNat z.toNat
  | _ => 0
theorem byteOf_b (z : UInt8) : byteOf (some (B z)) = z := by
  show UInt8.ofNat ((z.toNat : Int)).toNat = z
  rw [Int.toNat_natCast, UInt8.ofNat_toNat]
theorem op_str (ht : P.underlying t = some .string) (hval : Value.okWide P W r b0 t v) (hd : DataW.Trod enc P W 0 (fun _ => true) true t v d ps) : ∃ q : List UInt8, v = .string (sb q) ∧ q.length ≤ maxLen := by
  obtain ⟨s, rfl, _, _, hs⟩ := Go.ChangeMaps.open_string ht hval hd
  exact ⟨s.data.toList, rfl, hs⟩

theorem op_key {m : Nat} (ht : P.underlying t = some (.array m e)) (he : P.underlying e = some (.int .u8)) (hce : P.cellsOf e = 1) (hct : P.cellsOf t = m)
    (hval : Value.okWide P W r b0 t v) (hd : DataW.Trod enc P W 0 (fun _ => true) true t v d ps) : ∃ q : List UInt8, v = .agg (bs q).toArray ∧ q.length = m := by
  have h0 : ∃ cs, v = .agg cs ∧ cs.size = P.cellsOf t := by
    simp only [Value.okWide, ht] at hval
    obtain ⟨cs, h1, h2, _⟩ := hval
    exact ⟨cs, h1, h2⟩
  obtain ⟨cs, rfl, hsz⟩ := h0
  rw [hct] at hsz
  obtain ⟨fuel, hf⟩ := hd
  obtain ⟨xs, n, _, _, _, hn, hel⟩ := DataW.trod_array ht hf
  have key : ∀ i, i < m → ∃ z : UInt8, cs[i]? = some (B z) := fun i hi => by
    have h1 := hel i hi
    have h2 : i < xs.length := by omega
    rw [List.getElem?_eq_getElem h2, hce, Nat.mul_one] at h1
    obtain ⟨z, e1, _, e3⟩ := DataW.trod_int he h1
    have h3 := bounds_u8 e3
    refine ⟨UInt8.ofNat z.toNat, ?_⟩
    have h4 : ((cs.toList.drop i).take 1)[0]? = some (.int .u8 z) := by
      have : (Value.agg cs).cells.toList = cs.toList := rfl
      rw [← this, e1]; rfl
    rw [List.getElem?_take, if_pos (by decide), List.getElem?_drop, Nat.add_zero, Array.getElem?_toList] at h4
    rw [h4, B, UInt8.toNat_ofNat']
    congr 2
    omega
  refine ⟨(List.range m).map fun i => byteOf cs[i]?, ?_, by simp⟩
  congr 1
  apply Array.ext'
  apply List.ext_getElem?
  intro i
  rw [Array.getElem?_toList]
  rcases Nat.lt_or_ge i m with hi | hi
  · obtain ⟨z, hz⟩ := key i hi
    rw [hz]
    simp only [bs, List.getElem?_map, List.getElem?_range hi, Option.map_some, hz, byteOf_b]
  · rw [Array.getElem?_eq_none (by omega)]
    simp [bs, hi]

theorem op_ints (ht : P.underlying t = some (.slice e)) (he : P.underlying e = some (.int .i64)) (hc : P.cellsOf e = 1)
    (hval : Value.okWide P W r b0 t v) (hd : DataW.Trod enc P W 0 (fun _ => true) true t v d ps) : ∃ a c q, v = .slice a (List.length q) c ∧ Rd W a (is q) ∧ (∀ n ∈ q, R64 n) ∧ q.length ≤ maxLen := by
  obtain ⟨a0, len, cap, rfl⟩ := okWide_slice ht hval
  obtain ⟨fuel, hf⟩ := hd
  rcases open_ints ht he hc hf with ⟨hcs, hx⟩ | ⟨a, len', cap', zs, hcs, _, hl, hm, hz, hx, hcell, hwz⟩
  · simp only [Value.cells, List.cons.injEq, Value.slice.injEq, and_true] at hcs
    obtain ⟨rfl, rfl, rfl⟩ := hcs
    exact ⟨none, 0, [], rfl, Rd.nil _ _, by simp, by simp⟩
  · simp only [Value.cells, List.cons.injEq, Value.slice.injEq, and_true] at hcs
    obtain ⟨rfl, rfl, rfl⟩ := hcs
    simp only [if_true] at hz
    have hlen : (zs.take len).length = len := by simp [hz, hl]
    refine ⟨some a, cap, zs.take len, by rw [hlen], ?_, fun n hn => bounds_i64 (hwz n (List.mem_of_mem_take hn)), by omega⟩
    rcases Nat.eq_zero_or_pos len with h0 | h0
    · subst h0; exact Rd.nil _ _
    · obtain ⟨b, off, rfl, hc2⟩ := ints_at hcell (by omega)
      have key : ∃ cs t fz, W.heap[b]? = some (.cells cs t fz) := by
        have h1 := hc2 0 (by omega)
        unfold World.cell? at h1
        cases hh : W.heap[b]? with
        | none => simp [hh] at h1
        | some o =>
          cases o with
          | cells cs t fz => exact ⟨cs, t, fz, rfl⟩
          | _ => simp [hh] at h1
      obtain ⟨cs, t, fz, hh⟩ := key
      refine .inr ⟨b, off, cs, t, fz, rfl, hh, fun i v hv => ?_⟩
      simp only [is, List.getElem?_map, Option.map_eq_some_iff] at hv
      obtain ⟨z, hz1, rfl⟩ := hv
      rw [List.getElem?_take] at hz1
      split at hz1
      · rename_i hi
        have h1 := hc2 i (by omega)
        rw [cell_of_row W b (off + i) cs t fz hh] at h1
        rw [h1, List.getD_eq_getElem?_getD, hz1, Option.getD_some]
      · cases hz1
end

/-- a listed array of words -/
theorem rd_listedW {P : Program} {w : World} {nm : String} {g t e n fuel : Nat} {cs : Array Value} {l : List UInt32} {p : List MemPlace} (hg : P.globalNamed nm = some g) (hv : w.var? P nm = some cs)
    (ht : P.underlying t = some (.array n e)) (he : P.underlying e = some (.int .u32)) (hce : P.cellsOf e = 1)
    (hd : DataW.trod (fun _ => ()) P w 0 (fun _ => true) false fuel t cs.toList = some (.agg (l.map fun z => .lit (.int .u32 z.toNat)), p)) : Rd w (some ⟨g, 0, none⟩) (ws l) := by
  obtain ⟨tt, fz, hh⟩ := var_heap hg hv
  obtain ⟨xs, m, rfl, hx, hlen, hn, hel⟩ := DataW.trod_array ht hd
  refine .inr ⟨g, 0, cs, tt, fz, rfl, hh, fun i v hiv => ?_⟩
  simp only [Prod.mk.injEq, DataW.agg.injEq] at hx
  obtain ⟨z, hz, rfl⟩ : ∃ z, l[i]? = some z ∧ W32 z = v := by simpa [ws, List.getElem?_map] using hiv
  have hi : i < n := by
    have h1 : i < l.length := (List.getElem?_eq_some_iff.1 hz).1
    have h2 : l.length = xs.length := by have := congrArg List.length hx.1; simpa using this
    omega
  have h1 := hel i hi
  have h2 : (xs.map (·.1))[i]? = some (.lit (.int .u32 z.toNat)) := by rw [← hx.1]; simp [hz]
  rw [List.getElem?_map] at h2
  cases hxi : xs[i]? with
  | none => rw [hxi] at h2; cases h2
  | some y =>
    rw [hxi] at h2 h1
    obtain ⟨z', e1, e2, _⟩ := DataW.trod_int he h1
    have : z' = (z.toNat : Int) := by
      rw [e2] at h2
      simpa using h2
    subst this
    rw [hce, Nat.mul_one] at e1
    have h3 : (cs.toList.drop i)[0]? = some (W32 z) := by
      have : ((cs.toList.drop i).take 1)[0]? = some (W32 z) := by rw [e1]; rfl
      simpa [List.getElem?_take] using this
    rw [List.getElem?_drop] at h3
    simpa using h3
end Eng
/- The arguments of a statement, opened: slices of whatever, structs, arrays, by what their cells are. -/
namespace Eng
open Go Go.RowKit Go.ChangeShapes Go.WideShapes Go.ChangeAt
theorem mapM_len {α β : Type} {f : α → Option β} : ∀ {l : List α} {r : List β}, l.mapM f = some r → r.length = l.length
  | [], r, h => by simp at h; subst h; rfl
  | a :: l, r, h => by
    rw [List.mapM_cons] at h
    cases h1 : f a with
    | none => simp [h1] at h
    | some b =>
      cases h2 : l.mapM f with
      | none => simp [h1, h2] at h
      | some r2 => simp [h1, h2] at h; subst h; simp [mapM_len h2]
theorem mapM_at {α β : Type} {f : α → Option β} : ∀ {l : List α} {r : List β}, l.mapM f = some r → ∀ (i : Nat) (a : α), l[i]? = some a → f a = r[i]?
  | [], r, h, i, a, ha => by simp at ha
  | b :: l, r, h, i, a, ha => by
    rw [List.mapM_cons] at h
    cases h1 : f b with
    | none => simp [h1] at h
    | some c =>
      cases h2 : l.mapM f with
      | none => simp [h1, h2] at h
      | some r2 =>
        simp [h1, h2] at h
        subst h
        cases i with
        | zero => simp at ha; subst ha; simpa using h1
        | succ i => simp at ha; simpa using mapM_at h2 i a ha
theorem cells_at {w : World} {base : Nat} {a : Addr} {n : Nat} {cs : List Value} (h : w.cells? base a n = some cs) : cs.length = n ∧ ∀ i v, cs[i]? = some v → w.cell? (a.add i) = some v := by
  unfold World.cells? at h
  split at h
  · have hl := mapM_len h
    rw [List.length_range] at hl
    refine ⟨hl, fun i v hv => ?_⟩
    have hi : i < n := by rw [← hl]; exact (List.getElem?_eq_some_iff.1 hv).1
    rw [← hv]
    exact mapM_at h i i (List.getElem?_range hi)
  · cases h
theorem flat_at {α : Type} {s : Nat} : ∀ {L : List (List α)}, (∀ y ∈ L, y.length = s) → ∀ (j : Nat) (v : α), L.flatten[j]? = some v → ∃ i k, i < L.length ∧ j = i * s + k ∧ (L.getD i [])[k]? = some v
  | [], _, j, v, h => by simp at h
  | y :: L, hL, j, v, h => by
    have hy := hL y (.head _)
    rw [List.flatten_cons] at h
    rcases Nat.lt_or_ge j y.length with h1 | h1
    · rw [List.getElem?_append_left h1] at h
      exact ⟨0, j, by simp, by omega, by simpa using h⟩
    · rw [List.getElem?_append_right h1] at h
      obtain ⟨i, k, h2, h3, h4⟩ := flat_at (fun z hz => hL z (.tail _ hz)) _ v h
      refine ⟨i + 1, k, by simp; omega, ?_, by simpa using h4⟩
      rw [Nat.add_mul]; omega
theorem map_of {α β : Type} {f : β → α} {p : β → Prop} : ∀ {L : List α}, (∀ x ∈ L, ∃ q, x = f q ∧ p q) → ∃ qs : List β, L = qs.map f ∧ ∀ q ∈ qs, p q
  | [], _ => ⟨[], rfl, fun _ h => by cases h⟩
  | x :: L, h => by
    obtain ⟨q, rfl, hq⟩ := h x (.head _)
    obtain ⟨qs, rfl, hqs⟩ := map_of fun y hy => h y (.tail _ hy)
    exact ⟨q :: qs, rfl, fun z hz => (List.mem_cons.1 hz).elim (fun h => by rw [h]; exact hq) (hqs z)⟩
section
variable {H : Type} {enc : TypeId × Value → H} {P : Program} {W : World} {b0 : Nat} {t e fuel : Nat} {cs : List Value} {x : DataW H × List MemPlace}
theorem td_int (ht : P.underlying t = some (.int .i64)) (h : DataW.trod enc P W b0 (fun _ => true) true fuel t cs = some x) : ∃ n, cs = [I n] ∧ R64 n := by
  obtain ⟨n, h1, _, h3⟩ := DataW.trod_int ht h
  exact ⟨n, h1, bounds_i64 h3⟩
theorem td_bool (ht : P.underlying t = some .bool) (h : DataW.trod enc P W b0 (fun _ => true) true fuel t cs = some x) : ∃ b, cs = [.bool b] := by
  cases fuel with
  | zero => simp [DataW.trod] at h
  | succ n =>
    unfold DataW.trod at h
    rw [ht] at h
    split at h <;> simp_all
theorem td_u8 (ht : P.underlying t = some (.int .u8)) (h : DataW.trod enc P W b0 (fun _ => true) true fuel t cs = some x) : ∃ z : UInt8, cs = [B z] := by
  obtain ⟨n, h1, _, h3⟩ := DataW.trod_int ht h
  have h4 := bounds_u8 h3
  refine ⟨UInt8.ofNat n.toNat, ?_⟩
  rw [h1, B, UInt8.toNat_ofNat']
  congr 2; omega
theorem td_str (ht : P.underlying t = some .string) (h : DataW.trod enc P W b0 (fun _ => true) true fuel t cs = some x) : ∃ q : List UInt8, cs = [.string (sb q)] ∧ q.length ≤ maxLen := by
  obtain ⟨s, h1, _, h3⟩ := DataW.trod_string ht h
  exact ⟨s.data.toList, h1, h3⟩
theorem td_key {m : Nat} (ht : P.underlying t = some (.array m e)) (he : P.underlying e = some (.int .u8)) (hce : P.cellsOf e = 1) (hct : P.cellsOf t = m)
    (h : DataW.trod enc P W b0 (fun _ => true) true fuel t cs = some x) : ∃ q : List UInt8, cs = bs q ∧ q.length = m := by
  obtain ⟨xs, n, _, _, hsz, hn, hel⟩ := DataW.trod_array ht h
  rw [hct] at hsz
  have key : ∀ y ∈ cs, ∃ z : UInt8, y = B z ∧ True := fun y hy => by
    obtain ⟨i, hi, rfl⟩ := List.getElem_of_mem hy
    have h1 := hel i (by omega)
    rw [List.getElem?_eq_getElem (by omega), hce, Nat.mul_one] at h1
    obtain ⟨z, e1⟩ := td_u8 he h1
    refine ⟨z, ?_, trivial⟩
    have h4 : ((cs.drop i).take 1)[0]? = some (B z) := by rw [e1]; rfl
    rw [List.getElem?_take, if_pos (by decide), List.getElem?_drop, Nat.add_zero, List.getElem?_eq_getElem hi] at h4
    exact Option.some.inj h4
  obtain ⟨q, hq, _⟩ := map_of key
  exact ⟨q, hq, by rw [← hsz, hq, List.length_map]⟩
/-- a slice: its elements' cells -/
theorem td_slice (ht : P.underlying t = some (.slice e)) (h : DataW.trod enc P W b0 (fun _ => true) true fuel t cs = some x) :
    ∃ a L c, cs = [.slice a (List.length L) c] ∧ Rd W a (List.flatten L) ∧ L.length ≤ c ∧ c ≤ maxLen ∧ ∀ y ∈ L, y.length = P.cellsOf e ∧ ∃ n z, DataW.trod enc P W b0 (fun _ => true) true n e y = some z := by
  rcases Go.Deep.open_slice ht h with ⟨rfl, _⟩ | ⟨a, len, cap, m, n, D, Pl, rfl, hb, hl, hm, hmm, _, hx⟩
  · exact ⟨none, [], 0, rfl, Rd.nil _ _, by simp, by simp, fun y hy => by cases hy⟩
  simp only [if_true] at hmm
  rw [hmm] at hx
  let L : List (List Value) := (List.range len).map fun i => (W.cells? b0 (a.add (i * P.cellsOf e)) (P.cellsOf e)).getD []
  have hLl : L.length = len := by simp [L]
  have hLi : ∀ i, i < len → ∃ cs', L.getD i [] = cs' ∧ W.cells? b0 (a.add (i * P.cellsOf e)) (P.cellsOf e) = some cs' ∧ ∃ z, DataW.trod enc P W b0 (fun _ => true) true n e cs' = some z := fun i hi => by
    obtain ⟨cs', h1, h2⟩ := hx i (by omega)
    refine ⟨cs', ?_, h1, _, h2⟩
    simp only [L]
    rw [List.getD_eq_getElem?_getD, List.getElem?_map, List.getElem?_range hi, Option.map_some, h1]; rfl
  have hLe : ∀ y ∈ L, y.length = P.cellsOf e ∧ ∃ n z, DataW.trod enc P W b0 (fun _ => true) true n e y = some z := fun y hy => by
    obtain ⟨i, hi, rfl⟩ := List.getElem_of_mem hy
    obtain ⟨cs', h1, h2, h3⟩ := hLi i (by omega)
    rw [List.getD_eq_getElem?_getD, List.getElem?_eq_getElem hi, Option.getD_some] at h1
    rw [h1]
    exact ⟨(cells_at h2).1, n, h3⟩
  refine ⟨some a, L, cap, by rw [hLl], ?_, by omega, hm, hLe⟩
  have hcell : ∀ j v, L.flatten[j]? = some v → W.cell? (a.add j) = some v := fun j v hv => by
    obtain ⟨i, k, hi, rfl, hk⟩ := flat_at (fun y hy => (hLe y hy).1) j v hv
    obtain ⟨cs', h1, h2, _⟩ := hLi i (by omega)
    rw [h1] at hk
    have := (cells_at h2).2 k v hk
    rwa [Go.Deep.add_add] at this
  rcases Nat.eq_zero_or_pos L.flatten.length with h0 | h0
  · rw [List.eq_nil_of_length_eq_zero h0]; exact Rd.nil _ _
  obtain ⟨v0, hv0⟩ : ∃ v, L.flatten[0]? = some v := ⟨L.flatten[0], List.getElem?_eq_getElem h0⟩
  have hc0 := hcell 0 v0 hv0
  obtain ⟨b, off, spot⟩ := a
  have hspot : spot = none := by simpa [Addr.add] using World.cell?_spot hc0
  subst hspot
  have key : ∃ cs t fz, W.heap[b]? = some (.cells cs t fz) := by
    rw [addr_add] at hc0
    unfold World.cell? at hc0
    cases hh : W.heap[b]? with
    | none => simp [hh] at hc0
    | some o =>
      cases o with
      | cells cs t fz => exact ⟨cs, t, fz, rfl⟩
      | _ => simp [hh] at hc0
  obtain ⟨cs, t, fz, hh⟩ := key
  refine .inr ⟨b, off, cs, t, fz, rfl, hh, fun i v hv => ?_⟩
  have h1 := hcell i v hv
  rw [addr_add, cell_of_row W b (off + i) cs t fz hh] at h1
  exact h1
end
section
variable {H : Type} {enc : TypeId × Value → H} {P : Program} {W : World} {r : Reach} {b0 t e : Nat} {v : Value} {d : DataW H} {ps : List MemPlace}
/-- a list of arrays of bytes -/
theorem op_keys {m : Nat} (ht : P.underlying t = some (.slice e)) {e2 : Nat} (he : P.underlying e = some (.array m e2)) (he2 : P.underlying e2 = some (.int .u8)) (hc2 : P.cellsOf e2 = 1) (hc : P.cellsOf e = m)
    (hval : Value.okWide P W r b0 t v) (hd : DataW.Trod enc P W 0 (fun _ => true) true t v d ps) : ∃ a c ks, v = .slice a (List.length ks) c ∧ Rd W a (List.flatMap bs ks) ∧ (∀ k ∈ ks, k.length = m) ∧ ks.length ≤ c ∧ c ≤ maxLen := by
  obtain ⟨a0, len, cap, rfl⟩ := okWide_slice ht hval
  obtain ⟨fuel, hf⟩ := hd
  obtain ⟨a, L, c, h1, h2, h3, h4, h5⟩ := td_slice ht hf
  simp only [Value.cells, List.cons.injEq, Value.slice.injEq, and_true] at h1
  obtain ⟨rfl, rfl, rfl⟩ := h1
  obtain ⟨ks, rfl, hk⟩ := map_of (f := bs) (p := fun k => k.length = m) fun y hy => by
    obtain ⟨_, n, z, hz⟩ := h5 y hy
    exact td_key he he2 hc2 hc hz
  exact ⟨a0, cap, ks, by rw [List.length_map], by rw [List.flatMap_def]; exact h2, hk, by simpa using h3, h4⟩
end
end Eng
