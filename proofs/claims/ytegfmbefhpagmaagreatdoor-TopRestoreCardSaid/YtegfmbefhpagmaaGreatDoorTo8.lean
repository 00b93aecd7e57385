/- Joined texts: OpenX DoorTop. -/
import Derived.WalkKit
import Derived.TacticsInMore
import Derived.OrdersIn
import Derived.RangeFuncCalls
import Derived.Deep.LoopGhost
import Derived.Deep.Quiet
import Derived.KernelRfl
import Derived.Laws.BytesString
import Derived.Laws.StructEq
import Derived.MapKept
import Derived.Laws.IdiomStrings
import Derived.Recover
import Derived.RangeFuncLeaves
import Derived.ChangeKeysEq
import Derived.Maps.RangeRun
import Derived.Laws.Build
import Derived.Lib.Overlaps
import Derived.ProofKit
import Derived.LaidMore
import Derived.LaidHandle
import Derived.OpenShut
import Derived.FnData
import Derived.SizedLaws
import Derived.ChangeMaps5
import Derived.Deep.Slices
import Derived.JoinedOf
import Derived.SevenTiedAt
import Derived.Test.YtegfmbefhpagmaaGreatDoorChecked
import Derived.Test.YtegfmbefhpagmaaGreatDoorRows
import Derived.Test.YtegfmbefhpagmaaGreatDoorCards
import Derived.Test.YtegfmbefhpagmaaGreatDoorTie
import Derived.Test.YtegfmbefhpagmaaGreatDoorTo7
set_option linter.all false
section
namespace Eng
open Go Go.RowKit Go.ChangeShapes Go.WideShapes Go.ChangeAt
theorem St.kept {W w:World} (h:St W [] w []) (may:MemPlace → Prop):W.keptBut w may:=by
  refine ⟨h.os,h.output,fun i hi=>?_⟩
  rw [h.old i hi (by simp)]
  cases ho:W.heap[i]? with
  | none=>rfl
  | some o=>cases o <;> simp
theorem trodAll_below {H:Type} {enc:TypeId × Value → H} {P:Program} (hl:laidOutB P = true) {W w:World} (hb:Below W.heap.size W w) :
    ∀ {ts:List TypeId} {vs:List Value} {ds:List (DataW H)} {ps:List MemPlace},(ts.all fun t=>P.readableRec t && decide (t < P.types.size)) = true → (∀ x ∈ ps,x.block < W.heap.size) →
      DataW.TrodAll enc P W 0 (fun _=>true) true ts vs ds ps → DataW.TrodAll enc P w 0 (fun b=>decide (b < W.heap.size)) true ts vs ds ps
  | [],[],[],_,_,_,h=>h
  | t :: ts,v :: vs,d :: ds,ps,ht,hlt,h=>by
    obtain ⟨p,q,h1,h2,rfl⟩:=h
    simp only [List.all_cons,Bool.and_eq_true,decide_eq_true_eq] at ht
    exact ⟨p,q,Below.trod hl ht.1.1 ht.1.2 h1 hb (fun x hx=>hlt x (List.mem_append_left _ hx)),trodAll_below hl hb (by simpa using ht.2) (fun x hx=>hlt x (List.mem_append_right _ hx)) h2,rfl⟩
  | [],_ :: _,_,_,_,_,h=>h.elim
  | _ :: _,[],_,_,_,_,h=>h.elim
  | [],[],_ :: _,_,_,_,h=>h.elim
  | _ :: _,_ :: _,[],_,_,_,h=>h.elim
theorem post_true {H:Type} {enc:TypeId × Value → H} {P:Program} {f:Func} {s:ChangeSpec} {W w:World} {args:Array Value} {ds gs:List (DataW H)} {before:List MemPlace} {tb:TypeId}
    (hl:laidOutB P = true) (ht:(f.params.toList.all fun t=>P.readableRec t && decide (t < P.types.size)) = true) (hr:f.resultTypes = #[tb]) (hb:P.underlying tb = some .bool) (hv:s.vars = [])
    (hfn:s.fn H (ds ++ gs) = { results:=[.lit (.bool true)],args:=ds })
    (hW:DataW.Whole enc P f.params.toList s.vars false W args.toList ds gs before) (hs:St W [] w []):s.post enc P f false true false false W args (.bool true) w:=by
  have hlt:∀ x ∈ before,x.block < W.heap.size:=fun x hx=>hW.lt x hx
  have hW':=hW
  obtain ⟨p,q,hA,hV,rfl,hfz,hnd⟩:=hW
  rw [hv] at hV
  obtain ⟨rfl,rfl⟩:=trodVars_none hV
  refine ⟨ds,[],p ++ [],[],p,[],hW',?_,?_,?_,hs.kept _,fun h=>by cases h⟩
  · rw [hfn,hr]
    exact trodAll_cons_mk (shut_bool hb _) trodAll_mk0
  · rw [hfn]
    exact trodAll_below hl hs.below ht (fun x hx=>hlt x (List.mem_append_left _ hx)) hA
  · rw [hfn,hv]
    exact rfl
theorem law_lifted {H:Type} {enc:TypeId × Value → H} {C:Checked} {os:Os} {f:FuncId} {fn:Func} {s:ChangeSpec} {X:World → Array Value → Prop} {tb:TypeId}
    (hX:∀ (w w':World) (args:Array Value),w.heap = w'.heap → X w args → X w' args)
    (own:ownKnob C.prog.godebug = none) (started:os.Started) (noInit:C.prog.inits.idxOf? f = none) (hfn:C.prog.funcs[f]? = some fn)
    (witness:∃ (w:World) (tape:Tape) (i:Input),w.os = os ∧ (w.forCall tape i).Shaped C.prog ∧ i.vars = [] ∧ Input.okWide C.prog (w.forCall tape i) .any w.heap.size f i ∧
      ((s.pre enc C.prog fn [] false (w.forCall tape i).memory i.args ∧ X (w.forCall tape i).memory i.args) ∧ sizedMet enc C.prog fn (OpenSpec.ofChange s) false (w.forCall tape i).memory i.args) ∧ ({}:Assume).holds C.prog (lone (Frame.enter C.prog f i.args .normal) [] (w.forCall tape i)))
    (hl:laidOutB C.prog = true) (ht:(fn.params.toList.all fun t=>C.prog.readableRec t && decide (t < C.prog.types.size)) = true) (hr:fn.resultTypes = #[tb]) (hb:C.prog.underlying tb = some .bool) (hv:s.vars = [])
    (hsp:∀ ds:List (DataW H),ds.length = fn.params.size → s.fn H ds = { results:=[.lit (.bool true)],args:=ds })
    (walk:∀ (W:World) (base:Nat) (args:Array Value) (ds:List (DataW H)) (p:List MemPlace),
      (∀ (j:Nat) t v,fn.params[j]? = some t → args[j]? = some v → Value.okWide C.prog W .any base t v) →
      DataW.TrodAll enc C.prog W 0 (fun _=>true) true fn.params.toList args.toList ds p →
      (DataW.weightsEach C.prog fn.params.toList ds).all (· ≤ reachBytes) = true → X W args →
      Calls C.prog f args W fun e w=>e = .returned (.bool true) ∧ St W [] w []) :
    ReturnsInHanded {} C os f .any (fun w args=>(s.pre enc C.prog fn [] false w args ∧ X w args) ∧ sizedMet enc C.prog fn (OpenSpec.ofChange s) false w args) (s.post enc C.prog fn false true false false):=by
  refine returnsInHanded_of_change_and (C:=C) (X:=X) hX own started noInit hfn witness ?_
  intro W base args ds gs before hval hW _ hsz hx _
  have hW':=hW
  obtain ⟨p,q,hA,hV,hpq,hfz,hnd⟩:=hW
  have hV':=hV
  rw [hv] at hV'
  obtain ⟨rfl,rfl⟩:=trodVars_none hV'
  have hvt:s.plain.varTypes C.prog = []:=by unfold DataSpec.varTypes ChangeSpec.plain; rw [hv]; rfl
  rw [hvt,List.append_nil,List.append_nil] at hsz
  refine (walk W base args ds p hval hA hsz hx).mono fun e w ⟨he,hs⟩=>⟨_,he,?_⟩
  have hlen:ds.length = fn.params.size:=by
    have key:∀ {ts:List TypeId} {vs:List Value} {ds:List (DataW H)} {ps:List MemPlace},DataW.TrodAll enc C.prog W 0 (fun _=>true) true ts vs ds ps → ds.length = ts.length:=by
      intro ts
      induction ts with
      | nil=>intro vs ds ps h; cases vs <;> cases ds <;> first | rfl | exact h.elim
      | cons t ts ih =>
        intro vs ds ps h
        cases vs with
        | nil=>exact h.elim
        | cons v vs =>
          cases ds with
          | nil=>exact h.elim
          | cons d ds =>
            obtain ⟨_,_,_,h2,_⟩:=h
            simp [ih h2]
    have:=key hA
    simpa using this
  exact post_true hl ht hr hb hv (by rw [List.append_nil]; exact hsp ds hlen) hW' hs
theorem open_bytes {H:Type} {enc:TypeId × Value → H} {P:Program} {W:World} {r:Reach} {b0 t e:Nat} {v:Value} {d:DataW H} {ps:List MemPlace} (ht:P.underlying t = some (.slice e)) (he:P.underlying e = some (.int .u8)) (hc:P.cellsOf e = 1)
    (hval:Value.okWide P W r b0 t v) (hd:DataW.Trod enc P W 0 (fun _=>true) true t v d ps):∃ a c q,v = .slice a (List.length q) c ∧ Rd W a (bs q) ∧ q.length ≤ c ∧ c ≤ maxLen:=by
  obtain ⟨a0,len,cap,rfl⟩:=okWide_slice ht hval
  obtain ⟨fuel,hf⟩:=hd
  rcases open_ints ht he hc hf with ⟨hcs,hx⟩ | ⟨a,len',cap',zs,hcs,_,hl,hm,hz,hx,hcell,hwz⟩
  · simp only [Value.cells,List.cons.injEq,Value.slice.injEq,and_true] at hcs
    obtain ⟨rfl,rfl,rfl⟩:=hcs
    exact ⟨none,0,[],rfl,Rd.nil _ _,by simp,by simp⟩
  · simp only [Value.cells,List.cons.injEq,Value.slice.injEq,and_true] at hcs
    obtain ⟨rfl,rfl,rfl⟩:=hcs
    simp only [if_true] at hz
    have hlen:((zs.take len).map fun z=>UInt8.ofNat z.toNat).length = len:=by simp [hz,hl]
    refine ⟨some a,cap,(zs.take len).map fun z=>UInt8.ofNat z.toNat,by rw [hlen],?_,by omega,hm⟩
    rcases Nat.eq_zero_or_pos len with h0 | h0
    · subst h0; exact Rd.nil _ _
    · obtain ⟨b,off,rfl,hc2⟩:=ints_at hcell (by omega)
      have key:∃ cs t fz,W.heap[b]? = some (.cells cs t fz):=by
        have h1:=hc2 0 (by omega)
        unfold World.cell? at h1
        cases hh:W.heap[b]? with
        | none=>simp [hh] at h1
        | some o =>
          cases o with
          | cells cs t fz=>exact ⟨cs,t,fz,rfl⟩
          | _=>simp [hh] at h1
      obtain ⟨cs,t,fz,hh⟩:=key
      refine .inr ⟨b,off,cs,t,fz,rfl,hh,fun i v hv=>?_⟩
      simp only [bs,List.map_map,List.getElem?_map,Option.map_eq_some_iff] at hv
      obtain ⟨z,hz1,rfl⟩:=hv
      rw [List.getElem?_take] at hz1
      split at hz1
      · rename_i hi
        have h1:=hc2 i (by omega)
        rw [cell_of_row W b (off + i) cs t fz hh] at h1
        rw [h1,List.getD_eq_getElem?_getD,hz1,Option.getD_some]
        have h2:=bounds_u8 (hwz z (List.mem_of_getElem? hz1))
        congr 2
        simp
        omega
      · cases hz1
theorem var_heap {P:Program} {w:World} {n:String} {g:Nat} {cs:Array Value} (hg:P.globalNamed n = some g) (h:w.var? P n = some cs):∃ t fz,w.heap[g]? = some (.cells cs t fz):=by
  simp only [World.var?,hg,Option.bind_some] at h
  split at h
  · rename_i c t fz hh
    cases h
    exact ⟨t,fz,hh⟩
  · cases h
end Eng
namespace Eng
open Go Go.RowKit Go.ChangeShapes Go.WideShapes Go.ChangeAt
section
variable {H:Type} {enc:TypeId × Value → H} {P:Program} {W:World} {r:Reach} {b0 t e:Nat} {v:Value} {d:DataW H} {ps:List MemPlace}
theorem op_byte (ht:P.underlying t = some (.int .u8)) (hval:Value.okWide P W r b0 t v) (hd:DataW.Trod enc P W 0 (fun _=>true) true t v d ps):∃ y:UInt8,v = B y:=by
  obtain ⟨a0,rfl,rfl,rfl,w0⟩:=open_int ht hval hd
  have h:=bounds_u8 w0
  exact ⟨UInt8.ofNat a0.toNat,by rw [B,UInt8.toNat_ofNat']; congr 1; omega⟩
theorem op_bytes (ht:P.underlying t = some (.slice e)) (he:P.underlying e = some (.int .u8)) (hc:P.cellsOf e = 1) (hb:P.bytesOf e = 1)
    (hval:Value.okWide P W r b0 t v) (hd:DataW.Trod enc P W 0 (fun _=>true) true t v d ps) (hw:∀ n ∈ d.weights P t,n ≤ reachBytes):∃ a c q,v = .slice a (List.length q) c ∧ Rd W a (bs q) ∧ q.length ≤ c ∧ c ≤ 140737488351232:=by
  obtain ⟨a,c,q,h1,h2,h3,_⟩:=open_bytes ht he hc hval hd
  refine ⟨a,c,q,h1,h2,h3,?_⟩
  obtain ⟨fuel,hf⟩:=hd
  rcases open_ints ht he hc hf with ⟨hcs,hx⟩ | ⟨a',len',cap',zs,hcs,_,hl,hm,hz,hx,_,_⟩
  · rw [h1] at hcs
    simp only [Value.cells,List.cons.injEq,Value.slice.injEq,and_true] at hcs
    omega
  · rw [h1] at hcs
    simp only [Value.cells,List.cons.injEq,Value.slice.injEq,and_true] at hcs
    simp only [if_true] at hz
    simp only [Prod.mk.injEq] at hx
    have:=hw ((zs.take len').length + (zs.drop len').length) (by
      rw [hx.1]
      simp [DataW.weights,ht,hb,lits])
    rw [← List.length_append,List.take_append_drop] at this
    unfold reachBytes at this
    omega
end
end Eng
namespace Eng
open Go Go.RowKit Go.ChangeShapes Go.WideShapes Go.ChangeAt
section
variable {H:Type} {enc:TypeId × Value → H} {P:Program} {W:World} {r:Reach} {b0 t e:Nat} {v:Value} {d:DataW H} {ps:List MemPlace}
def byteOf:Option Value → UInt8
  | some (Value.int .u8 z)=>UInt8.ofNat z.toNat
  | _=>0
theorem byteOf_b (z:UInt8):byteOf (some (B z)) = z:=by
  show UInt8.ofNat ((z.toNat:Int)).toNat = z
  rw [Int.toNat_natCast,UInt8.ofNat_toNat]
theorem op_key {m:Nat} (ht:P.underlying t = some (.array m e)) (he:P.underlying e = some (.int .u8)) (hce:P.cellsOf e = 1) (hct:P.cellsOf t = m)
    (hval:Value.okWide P W r b0 t v) (hd:DataW.Trod enc P W 0 (fun _=>true) true t v d ps):∃ q:List UInt8,v = .agg (bs q).toArray ∧ q.length = m:=by
  have h0:∃ cs,v = .agg cs ∧ cs.size = P.cellsOf t:=by
    simp only [Value.okWide,ht] at hval
    obtain ⟨cs,h1,h2,_⟩:=hval
    exact ⟨cs,h1,h2⟩
  obtain ⟨cs,rfl,hsz⟩:=h0
  rw [hct] at hsz
  obtain ⟨fuel,hf⟩:=hd
  obtain ⟨xs,n,_,_,_,hn,hel⟩:=DataW.trod_array ht hf
  have key:∀ i,i < m → ∃ z:UInt8,cs[i]? = some (B z):=fun i hi=>by
    have h1:=hel i hi
    have h2:i < xs.length:=by omega
    rw [List.getElem?_eq_getElem h2,hce,Nat.mul_one] at h1
    obtain ⟨z,e1,_,e3⟩:=DataW.trod_int he h1
    have h3:=bounds_u8 e3
    refine ⟨UInt8.ofNat z.toNat,?_⟩
    have h4:((cs.toList.drop i).take 1)[0]? = some (.int .u8 z):=by
      have:(Value.agg cs).cells.toList = cs.toList:=rfl
      rw [← this,e1]; rfl
    rw [List.getElem?_take,if_pos (by decide),List.getElem?_drop,Nat.add_zero,Array.getElem?_toList] at h4
    rw [h4,B,UInt8.toNat_ofNat']
    congr 2
    omega
  refine ⟨(List.range m).map fun i=>byteOf cs[i]?,?_,by simp⟩
  congr 1
  apply Array.ext'
  apply List.ext_getElem?
  intro i
  rw [Array.getElem?_toList]
  rcases Nat.lt_or_ge i m with hi | hi
  · obtain ⟨z,hz⟩:=key i hi
    rw [hz]
    simp only [bs,List.getElem?_map,List.getElem?_range hi,Option.map_some,hz,byteOf_b]
  · rw [Array.getElem?_eq_none (by omega)]
    simp [bs,hi]
end
theorem rd_listedW {P:Program} {w:World} {nm:String} {g t e n fuel:Nat} {cs:Array Value} {l:List UInt32} {p:List MemPlace} (hg:P.globalNamed nm = some g) (hv:w.var? P nm = some cs)
    (ht:P.underlying t = some (.array n e)) (he:P.underlying e = some (.int .u32)) (hce:P.cellsOf e = 1)
    (hd:DataW.trod (fun _=>()) P w 0 (fun _=>true) false fuel t cs.toList = some (.agg (l.map fun z=>.lit (.int .u32 z.toNat)),p)):Rd w (some ⟨g,0,none⟩) (ws l):=by
  obtain ⟨tt,fz,hh⟩:=var_heap hg hv
  obtain ⟨xs,m,rfl,hx,hlen,hn,hel⟩:=DataW.trod_array ht hd
  refine .inr ⟨g,0,cs,tt,fz,rfl,hh,fun i v hiv=>?_⟩
  simp only [Prod.mk.injEq,DataW.agg.injEq] at hx
  obtain ⟨z,hz,rfl⟩:∃ z,l[i]? = some z ∧ W32 z = v:=by simpa [ws,List.getElem?_map] using hiv
  have hi:i < n:=by
    have h1:i < l.length:=(List.getElem?_eq_some_iff.1 hz).1
    have h2:l.length = xs.length:=by have:=congrArg List.length hx.1; simpa using this
    omega
  have h1:=hel i hi
  have h2:(xs.map (·.1))[i]? = some (.lit (.int .u32 z.toNat)):=by rw [← hx.1]; simp [hz]
  rw [List.getElem?_map] at h2
  cases hxi:xs[i]? with
  | none=>rw [hxi] at h2; cases h2
  | some y =>
    rw [hxi] at h2 h1
    obtain ⟨z',e1,e2,_⟩:=DataW.trod_int he h1
    have:z' = (z.toNat:Int):=by
      rw [e2] at h2
      simpa using h2
    subst this
    rw [hce,Nat.mul_one] at e1
    have h3:(cs.toList.drop i)[0]? = some (W32 z):=by
      have:((cs.toList.drop i).take 1)[0]? = some (W32 z):=by rw [e1]; rfl
      simpa [List.getElem?_take] using this
    rw [List.getElem?_drop] at h3
    simpa using h3
end Eng
namespace Eng
open Go Go.RowKit Go.ChangeShapes Go.WideShapes Go.ChangeAt
section
variable {H:Type} {enc:TypeId × Value → H} {P:Program} {W:World} {b0:Nat} {t e fuel:Nat} {cs:List Value} {x:DataW H × List MemPlace}
end
section
variable {H:Type} {enc:TypeId × Value → H} {P:Program} {W:World} {r:Reach} {b0 t e:Nat} {v:Value} {d:DataW H} {ps:List MemPlace}
end
end Eng
end
section
namespace Go.Proofs.YtegfmbefhpagmaaGreatDoor
open Go Eng Sha Cha Rst Go.ChangeShapes Go.WideShapes Go.ChangeAt Go.RowKit
theorem ownTop:ownKnob Tryz.prog.godebug = none:=by kernel_rfl
theorem gStart : Tryz.prog.globalNamed "chartroom/digest.start" = some 1 := by kernel_rfl
theorem tStart:(Tryz.prog.globals[1]?).map (·.type) = some 268:=by kernel_rfl
theorem gNums : Tryz.prog.globalNamed "chartroom/digest.numbers" = some 4 := by kernel_rfl
theorem tNums:(Tryz.prog.globals[4]?).map (·.type) = some 285:=by kernel_rfl
theorem gCons : Tryz.prog.globalNamed "chartroom/cipher.constants" = some 5 := by kernel_rfl
theorem tCons:(Tryz.prog.globals[5]?).map (·.type) = some 295:=by kernel_rfl
abbrev laidTop : List (String × DataW Unit) := [("chartroom/digest.start", Rows.laid_chartroom_digest_start), ("chartroom/digest.numbers", Rows.laid_chartroom_digest_numbers), ("bytes.ErrTooLarge", Rows.laid_bytes_ErrTooLarge), ("chartroom/cipher.constants", Rows.laid_chartroom_cipher_constants)]
theorem eStart:(Rows.laid_chartroom_digest_start:DataW Unit) = .agg (init.l.map fun z=>.lit (.int .u32 z.toNat)):=by kernel_rfl
theorem eNums:(Rows.laid_chartroom_digest_numbers:DataW Unit) = .agg (K.map fun z=>.lit (.int .u32 z.toNat)):=by kernel_rfl
theorem eCons:(Rows.laid_chartroom_cipher_constants:DataW Unit) = .agg (cst.map fun z=>.lit (.int .u32 z.toNat)):=by kernel_rfl
theorem doorTop (os:Os) (args:Array Value):laidMetH Tryz.prog laidTop ((World.doorLaid Tryz.prog 400 os).forCall (fun _ _=>0) ⟨#[],args,[]⟩).memory :=
  laidMetH_of_parts3 (fuel:=8) (laidMet_of_run' 8 (by kernel_rfl) (by kernel_rfl)) (by kernel_rfl) (by kernel_rfl)
theorem lc_of_laid {W:World} (h:laidMetH Tryz.prog laidTop W):LC W:=by
  rw [MakeChecks.laidMetH_plain _ _ _ (by kernel_rfl)] at h
  obtain ⟨ps,⟨g0,t0,cs0,f0,p0,q0,hg0,ht0,hv0,hd0,⟨g1,t1,cs1,f1,p1,q1,hg1,ht1,hv1,hd1,⟨g2,t2,cs2,f2,p2,q2,hg2,ht2,hv2,hd2,⟨g3,t3,cs3,f3,p3,q3,hg3,ht3,hv3,hd3,_⟩,_⟩,_⟩,_⟩,_⟩:=h
  obtain rfl:=Option.some.inj (gStart.symm.trans hg0)
  obtain rfl:=Option.some.inj (tStart.symm.trans ht0)
  obtain rfl:=Option.some.inj (gNums.symm.trans hg1)
  obtain rfl:=Option.some.inj (tNums.symm.trans ht1)
  obtain rfl:=Option.some.inj (gCons.symm.trans hg3)
  obtain rfl:=Option.some.inj (tCons.symm.trans ht3)
  rw [eStart] at hd0
  rw [eNums] at hd1
  rw [eCons] at hd3
  exact ⟨⟨rd_listedW gStart hv0 Tryz.underlying268 Tryz.underlying267 (by kernel_rfl) hd0,rd_listedW gNums hv1 Tryz.underlying285 Tryz.underlying267 (by kernel_rfl) hd1⟩,rd_listedW gCons hv3 Tryz.underlying295 Tryz.underlying267 (by kernel_rfl) hd3⟩
section
variable {H:Type} {enc:TypeId × Value → H} {P:Program} {W:World} {r:Reach} {b0 t e fuel:Nat} {v:Value} {d:DataW H} {ps:List MemPlace} {cs:List Value} {x:DataW H × List MemPlace}
theorem op_bool (ht:P.underlying t = some .bool) (hval:Value.okWide P W r b0 t v) (hd:DataW.Trod enc P W 0 (fun _=>true) true t v d ps):∃ b,v = .bool b:=by
  simp only [Value.okWide,ht] at hval
  simp only [Cell.okWide,Cell.ok,ht] at hval
  first | exact hval | (cases v <;> simp_all)
end
end Go.Proofs.YtegfmbefhpagmaaGreatDoor
end
