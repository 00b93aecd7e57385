/- Joined texts: Rnd RtB RtC RtD RtE RtF TpP TpQ TpA TpB TpC TpD TpE TpF TpG TpH RegR TpI. -/
import Derived.WalkKit
import Derived.TacticsInMore
import Derived.OrdersIn
import Derived.RangeFuncCalls
import Derived.Deep.LoopGhost
import Derived.Deep.Quiet
import Derived.KernelRfl
import Derived.Laws.BytesString
import Derived.Laws.StructEq
import Derived.MapKept
import Derived.Laws.IdiomStrings
import Derived.Recover
import Derived.RangeFuncLeaves
import Derived.ChangeKeysEq
import Derived.Maps.RangeRun
import Derived.Laws.Build
import Derived.Lib.Overlaps
import Derived.ProofKit
import Derived.LaidMore
import Derived.LaidHandle
import Derived.OpenShut
import Derived.FnData
import Derived.SizedLaws
import Derived.ChangeMaps5
import Derived.Deep.Slices
import Derived.JoinedOf
import Derived.SevenTiedAt
import Derived.Test.YtegfmbefhpagmaaGreatDoorChecked
import Derived.Test.YtegfmbefhpagmaaGreatDoorRows
import Derived.Test.YtegfmbefhpagmaaGreatDoorCards
import Derived.Test.YtegfmbefhpagmaaGreatDoorTie
import Derived.Test.YtegfmbefhpagmaaGreatDoorTo5
set_option linter.all false
section
namespace Eng
open Go Go.RowKit
section
variable {r:Option Nat} {P:Program} {n:Nat} {D:List Deferred} {W:World} {Bo:List Nat} {F F0 F1:List (Nat × Value)} {l l' l1 l2 l3 ps0 lx:SH} {e:TypeId}
  {dd:Nat} {d:Option Tmp} {ty:TypeId} {ps:String} {af:Array Edge} {g:Option (Nat × Bool)} {Q Q':Exit → Act → World → Prop} {ops:Array Oper} {rest:List Oper} {c c1 c2:Code}
theorem s_yieldD {fo:Operand} {ao:Array Operand} {ts:Array TypeId} {L:Nat} {rc:Loop} {v v':Value} {ch:List PanicEntry}
    (hm:Res.blk L (.loop rc) ∈ l) (hpz:rc.params.size = 2)
    (hr:∀ w,St W Bo w l → RoundIn (Fw none) 0 P L rc.fn ((rc.params.zip #[v,v']).foldl (fun tmps (t,a)=>tmps.setIfInBounds t a) rc.tmps) rc.assign rc.body w fun e w'=>e = .panicked ch ∧ St W Bo w' l2)
    (h:QP n D W Bo Q (.panic ch) F l2)
    (hfo:evO F fo = some (.func (.yield L) #[] #[]):=by rfl) (hargs:evL F ao.toList = some [v,v']:=by rfl) (hg:Wn ops F g:=by first | exact .none | exact .some rfl rfl) :
    LP none P n D W Bo ops Q (⟨d,.call ⟨.value fo,ao,ts⟩,ty,ps,af,g⟩ :: rest) F l:=by
  intro a w ha hw
  refine wpListIn_of (hg.wanted rfl ha) ?_
  refine ⟨fun f _=>trivial,?_⟩
  have hy:=run_yield (P:=P) (args:=#[v,v']) (hw.own _ hm).1 (by simp [hpz])
  have hrun:(execOp a.eval ⟨d,.call ⟨.value fo,ao,ts⟩,ty,ps,af,g⟩).run P w = .ok (.round L rc.fn ((rc.params.zip #[v,v']).foldl (fun tmps (t,a)=>tmps.setIfInBounds t a) rc.tmps) rc.assign rc.body) w:=by
    simp only [execOp,resolve,ha.eval hfo,evs ha hargs,Deferred.ofValue,Sem.run_bind,Sem.run_pure,Result.andThen_ok,invoke]
    simpa using hy
  rw [semAt_eq _ (by simp),hrun]
  refine ⟨by simp [Fw,Fence.wide],(hr w hw).mono ?_⟩
  rintro e w' ⟨rfl,hw'⟩
  exact h _ _ ha hw'
def wpG (P:Program) (c:Code) (Q:Exit → Act → World → Prop) (a:Act) (w:World):Prop :=
  ∀ (b:Frame) (k:List Item) (cs:List Frame),b.roundOf = none → (∃ fn,P.funcs[b.fn]? = some fn) →
    ∃ e a' w',Q e a' w' ∧ ArrivesIn (Machine.fenced P Fence.wide) P (lone (b.atR a (.code c :: k)) cs w) b k cs e a' w'
def CG (P:Program) (n:Nat) (D:List Deferred) (W:World) (Bo:List Nat) (c:Code) (Q:Exit → Act → World → Prop) (F:List (Nat × Value)) (l:SH):Prop :=
  ∀ a w,Fr n F D a → St W Bo w l → wpG P c Q a w
theorem g_cp (h:CP none P n D W Bo c Q F l):CG P n D W Bo c Q F l:=fun a w ha hw b k cs hro _=>h a w ha hw b k cs hro trivial (room_wide _)
def LeavesW (P:Program) (fn:Func) (tmps:Array Value) (R:Ending → World → Prop):List Deferred → FrameMode → World → Prop
  | [],u,w=>Leaves P fn tmps R [] u w
  | d :: ds,u,w=>u ≠ .run ∧
      ((∃ r w',d.target = .collected r ∧ (Instr.takeDeferred r).run P w = .ok [] w' ∧ LeavesW P fn tmps R ds u w') ∨
       (∃ fv cap f args,d.target = .fn fv cap ∧ (invoke d.target d.args).run P w = .ok (.enter f args) w ∧ CallsD P f args u w fun
          | .returned _,u',w'=>LeavesW P fn tmps R ds (settle u') w'
          | .panicked chain,u',w'=>LeavesW P fn tmps R ds (raised u' chain) w'
          | .outgrown,_,w'=>R .outgrown w'))
theorem leavesW_steps {fn:Func} {tmps:Array Value} {R:Ending → World → Prop}:∀ (ds:List Deferred) (u:FrameMode) (w:World) (fr:Frame)
    (cs:List Frame),fr.mode = u → fr.defers = ds → fr.tmps = tmps → P.funcs[fr.fn]? = some fn → fr.kind = .normal → LeavesW P fn tmps R ds u w →
    ∃ e w' fr',R e w' ∧ Comes P (lone fr cs w) (lone fr' cs w') e ∧ fr'.fn = fr.fn ∧ fr'.leaving P w' e:=by
  intro ds
  induction ds with
  | nil =>
    intro u w fr cs hu hd ht hf hk h
    cases u with
    | run=>exact h.elim
    | returning =>
      obtain ⟨v,hr,hR⟩:=h
      exact ⟨.returned v,w,fr,hR,Steps.refl _ _,rfl,hu,hd,hk,fn,hf,ht ▸ hr⟩
    | panicking chain=>exact ⟨.panicked chain,w,fr,h,Steps.refl _ _,rfl,hu,hd,fn,hf⟩
  | cons d ds ih =>
    intro u w fr cs hu hd ht hf hk h
    obtain ⟨hrun,h⟩:=h
    rcases h with ⟨r,w',htar,htake,hrest⟩ | ⟨fv,cap,f,args,htar,hinv,hcall⟩
    · have h1:=step_collected (cs:=cs) (hu ▸ hrun) hd htar htake
      obtain ⟨e',w'',fr',hR',hs',hfn',hl'⟩:=ih u w' { fr with defers:=[] ++ ds } cs hu rfl ht hf hk hrest
      exact ⟨e',w'',fr',hR',Comes.of_steps (.one h1) hs',hfn',hl'⟩
    · have h1:=step_defer (cs:=cs) (hu ▸ hrun) hd htar hinv
      obtain ⟨e,u',w',frX,hR,hsteps,hkX,hgo⟩:=hcall { fr with defers:=ds } cs hu
      cases e with
      | returned v =>
        have h2:=step_going_returned (c:={ { fr with defers:=ds } with mode:=u' }) (cs:=cs) hkX hgo
        obtain ⟨e',w'',fr',hR',hs',hfn',hl'⟩:=ih (settle u') w' { { { fr with defers:=ds } with mode:=u' } with mode:=settle u' } cs rfl rfl ht hf hk hR
        exact ⟨e',w'',fr',hR',Comes.of_steps (.head h1 (Steps.trans hsteps (.one h2))) hs',hfn',hl'⟩
      | panicked chain =>
        have h2:=step_going_panicked (c:={ { fr with defers:=ds } with mode:=u' }) (cs:=cs) hgo
        obtain ⟨e',w'',fr',hR',hs',hfn',hl'⟩:=ih (raised u' chain) w' { { { fr with defers:=ds } with mode:=u' } with mode:=raised u' chain } cs rfl rfl ht hf hk hR
        exact ⟨e',w'',fr',hR',Comes.of_steps (.head h1 (Steps.trans hsteps (.one h2))) hs',hfn',hl'⟩
      | outgrown=>exact ⟨.outgrown,w',fr,hR,Outgrown.of_steps (.one h1) hsteps,rfl,trivial⟩
def bodyPostW (P:Program) (fn:Func) (R:Ending → World → Prop):Exit → Act → World → Prop
  | .normal,a,w | .ret,a,w=>LeavesW P fn a.tmps R a.defers .returning w
  | .panic chain,a,w=>LeavesW P fn a.tmps R a.defers (.panicking chain) w
  | .outgrown,_,w=>R .outgrown w
  | _,_,_=>False
theorem enterW {k:FuncId} {fn:Func} {args:List Value} {R:Ending → World → Prop} (hf:P.funcs[k]? = some fn) (hn:fn.ntmps = n) (h:CG P n [] W [] c (bodyPostW P fn R) (argsF 0 args) [])
    (hb:fn.body = some c:=by rfl) (hle:Nat.ble args.length n = true:=by rfl):Calls P k args.toArray W R:=by
  intro cs
  let b:Frame:={ (default:Frame) with fn:=k,kind:=.normal,roundOf:=none }
  have henter:Frame.enter P k args.toArray .normal = b.atR { tmps:=args.toArray ++ Array.replicate (fn.ntmps - args.toArray.size) undef,defers:=[] } [.code c]:=by
    simp [Frame.enter,Frame.atR,hf,hb,b]
  have hle':=Nat.le_of_ble_eq_true hle
  have hfr:Fr n (argsF 0 args) [] { tmps:=args.toArray ++ Array.replicate (fn.ntmps - args.toArray.size) undef,defers:=[] }:=by
    refine ⟨by simp; omega,rfl,?_⟩
    intro t v ht
    have:=(argsF_look args 0 t v ht).2
    simp only [Nat.sub_zero] at this
    have hlt:t < args.length:=by
      rcases Nat.lt_or_ge t args.length with h1 | h1
      · exact h1
      · rw [List.getElem?_eq_none h1] at this; cases this
    rw [Array.getElem?_append_left (by simpa using hlt)]
    simpa using this
  obtain ⟨e,a',w',hq,harr⟩:=h _ W hfr (St.refl W) b [] cs rfl ⟨fn,hf⟩
  rw [← henter] at harr
  cases e with
  | normal =>
    obtain ⟨e',w'',fr',hR,hs,hfn,hl⟩:=leavesW_steps a'.defers .returning w' { b.atR a' [] with mode:=.returning } cs rfl rfl rfl hf rfl hq
    exact ⟨e',w'',fr',hR,Comes.of_steps (Steps.trans (StepsIn.steps harr) (.one (stepR_end rfl))) hs,hfn,hl⟩
  | ret =>
    obtain ⟨todo,hs₀⟩:=harr.1 rfl
    obtain ⟨e',w'',fr',hR,hs,hfn,hl⟩:=leavesW_steps a'.defers .returning w' { b.atR a' todo with mode:=.returning } cs rfl rfl rfl hf rfl hq
    exact ⟨e',w'',fr',hR,Comes.of_steps hs₀.steps hs,hfn,hl⟩
  | panic chain =>
    obtain ⟨todo,hs₀⟩:=harr
    obtain ⟨e',w'',fr',hR,hs,hfn,hl⟩:=leavesW_steps a'.defers (.panicking chain) w' { b.atR a' todo with mode:=.panicking chain } cs rfl rfl rfl hf rfl hq
    exact ⟨e',w'',fr',hR,Comes.of_steps hs₀.steps hs,hfn,hl⟩
  | exit id=>exact hq.elim
  | goto l=>exact hq.elim
  | outgrown=>exact ⟨.outgrown,w',b,hq,harr.resolve_left (by simp [b]),rfl,trivial⟩
theorem q_mark {fn:Func} {R:Ending → World → Prop} {Dk:Nat} (hL:Rep (.blk Dk (.deferred (some []))) (.blk Dk (.deferred none)) l l') (h:QP n D W Bo (bodyPostW P fn R) .ret F l') :
    QP n ({ target:=.collected Dk,args:=#[] } :: D) W Bo (bodyPostW P fn R) .ret F l:=by
  intro ac w ha hw
  have h3:=h { ac with defers:=D } _ ⟨ha.size,rfl,ha.slot⟩ (hw.putObj hL)
  show LeavesW _ _ _ _ ac.defers .returning w
  rw [ha.defers]
  exact ⟨by simp,.inl ⟨Dk,_,rfl,run_takeDeferred (hw.own _ hL.mem).1,h3⟩⟩
theorem leaveW_D {fn:Func} {R:Ending → World → Prop} {rvs:List ResultVar} {vs:List Value} {k:FuncId} [hk:HF P k] {cs:List Value} {m m':FrameMode} {e:Exit}
    (he:∀ (a:Act) (w:World),LeavesW P fn a.tmps R a.defers m w → bodyPostW P fn R e a w) (hm:m ≠ .run) (hm':settle m' = .returning)
    (hperm:l.Perm (ps0 ++ l2)) (hd:∀ w,St W Bo w (ps0 ++ l2) → GivesD P k cs m w (keys ps0) m' lx)
    (hf:fn.results = rvs.toArray) (h:RVs P n W Bo F (lx ++ l2) rvs vs) (hR:∀ w,St W Bo w (lx ++ l2) → R (.returned (outV vs)) w) :
    QP n [{ target:=.fn (.func k) cs.toArray,args:=#[] }] W Bo (bodyPostW P fn R) e F l:=by
  intro a w ha hw
  refine he a w ?_
  rw [ha.defers]
  obtain ⟨fnd,bc,h1,h2,h3⟩:=hk.h
  have hi:(invoke (.fn (.func k) cs.toArray) #[]).run P w = .ok (.enter k cs.toArray) w:=by
    have h4 : fnd.name ≠ "runtime.NumGoroutine" := by simpa using h3
    simp [invoke,callFunc,h1,h4,h2]
  refine ⟨hm,.inr ⟨_,_,k,cs.toArray,rfl,hi,?_⟩⟩
  refine (hd w (hw.perm hperm.symm)).mono fun e' u' w' ⟨h5,h6,h7⟩=>?_
  subst h5 h6
  show LeavesW P fn a.tmps R [] (settle _) w'
  rw [hm']
  have hw':=hw.transL hperm h7
  obtain ⟨_,h4⟩:=(ret_n hf h _ (.inl rfl) hR:QP n [] W Bo (bodyPost P fn R) .ret F (lx ++ l2)) { a with defers:=[] } w' ⟨ha.size,rfl,ha.slot⟩ hw'
  exact h4
theorem leaveW_R {fn:Func} {R:Ending → World → Prop} {rvs:List ResultVar} {vs:List Value} {k:FuncId} [hk:HF P k] {cs:List Value}
    (hd:∀ w,St W Bo w l → GivesD P k cs .returning w [] .returning [])
    (hf:fn.results = rvs.toArray) (h:RVs P n W Bo F l rvs vs) (hR:∀ w,St W Bo w l → R (.returned (outV vs)) w) :
    QP n [{ target:=.fn (.func k) cs.toArray,args:=#[] }] W Bo (bodyPostW P fn R) .ret F l :=
  leaveW_D (ps0:=[]) (l2:=l) (lx:=[]) (m:=.returning) (m':=.returning) (fun _ _ h=>h) (by simp) rfl (.refl _) hd hf h hR
end
end Eng
end
section
namespace Eng
open Go Go.RowKit
def orV (p q:Int):Int:=IntKind.i64.wrap (((BitVec.ofInt 64 p ||| BitVec.ofInt 64 q).toNat:Nat):Int)
section
variable {r:Option Nat} {P:Program} {n:Nat} {D:List Deferred} {W:World} {Bo:List Nat} {F F0:List (Nat × Value)} {l l':SH} {Q:Exit → Act → World → Prop} {c:Code}
  {d:Option Tmp} {ty:TypeId} {ps:String} {af:Array Edge} {g:Option (Nat × Bool)} {x y:Operand} {ta tb:TypeId}
theorem y_orw {p q:Int} (hx:evO F x = some (I p):=by rfl) (hy:evO F y = some (I q):=by rfl):Y P n D W Bo ⟨d,.binOp .or ta x y tb,ty,ps,af,g⟩ F l (I (orV p q)) :=
  .mk (by simp) fun a w ha _=>by
    refine exec_bin P w w _ _ _ _ _ _ _ _ _ _ _ _ ⟨by simp,by simp⟩ ?_
    rw [ha.eval hx,ha.eval hy]
    simp only [binOp,ne_eq,not_true_eq_false,if_false,Op.intBits,Sem.run_pure]
    rfl
theorem orV_byte {p:Nat} {q:UInt8} (hp:p < 36028797018963968):orV (IntKind.i64.wrap ((p:Int) * 2 ^ 8)) (q.toNat:Nat) = ((p * 256 + q.toNat:Nat):Int):=by
  have hq:=q.toNat_lt
  have e:(p:Int) * 2 ^ 8 = ((p * 2 ^ 8:Nat):Int):=by simp
  have h1:IntKind.i64.wrap ((p:Int) * 2 ^ 8) = ((p * 2 ^ 8:Nat):Int):=by rw [e]; exact wrap_i64 (by unfold R64; omega)
  unfold orV
  rw [h1,BitVec.toNat_or,show (BitVec.ofInt 64 ((p * 2 ^ 8:Nat):Int)).toNat = p * 2 ^ 8 from bitsn (k:=.i64) (by simp only [IntKind.bits]; omega),show (BitVec.ofInt 64 ((q.toNat:Nat):Int)).toNat = q.toNat from bitsn (k:=.i64) (by simp only [IntKind.bits]; omega),or_byte]
  exact wrap_i64 (by unfold R64; omega)
theorem round_okE {σ:Type} {F1:σ → List (Nat × Value)} {l1 l2:σ → SH} {tmps:Array Value} {ac:Act} {L:Nat} {rc:Loop} {R:Ending → World → Prop} {w:World} (hw:St W Bo w l) (hfr:Fr n F0 [] ac) (htm:{ tmps:=tmps,defers:=[] } = ac)
    (hst:rc.state = .ready) (hL:∀ x,Rep (.blk L (.loop rc)) (.blk L (.loop { rc with state:=.busy })) (l1 x) (l2 x))
    (ha:CP (some L) P n [] W Bo rc.assign (Exit.then (fun a w=>∃ x,Fr n (F1 x) [] a ∧ St W Bo w (l1 x)) (fun _ _ _=>False)) F0 l)
    (hb:∀ x,CP (some L) P n [] W Bo rc.body (roundPost P L R) (F1 x) (l2 x)):RoundIn (Fw none) 0 P L rc.fn tmps rc.assign rc.body w R:=by
  refine roundIn_of_wpIn (Fw_fn _ _) ?_
  rw [htm]
  refine wpIn_mono (ha _ w hfr hw) ?_
  intro e a1 w1 q
  cases e with
  | normal=>obtain ⟨x,q1,q2⟩:=q; exact ⟨_,run_beginRound (q2.own _ (hL x).mem).1 hst,hb x _ _ q1 (q2.putObj (hL x))⟩
  | exit id=>exact q
  | goto l=>exact q
  | ret=>exact q
  | panic ch=>exact q
  | outgrown=>exact q
theorem q_joinE {σ:Type} {F1:σ → List (Nat × Value)} {l1:σ → SH} (x:σ) (hs:Sub F (F1 x)) (hl:(l1 x).Sublist l):QP n D W Bo (Exit.then (fun a w=>∃ x,Fr n (F1 x) D a ∧ St W Bo w (l1 x)) Q) .normal F l:=fun _ _ ha hw=>⟨x,ha.weaken hs,hw.sub hl⟩
end
end Eng
namespace Rst
open Go Eng Gf Sha Sig Wr Cod Cha Go.Proofs.YtegfmbefhpagmaaGreatDoor
noncomputable def uwE (x:Nat) (h:List UInt8) (u:Int) (q:List UInt8):Int:=if wchk u q.length = 0 then (if opOk (uK x u.toNat) z12 h q = true then 0 else 60) else 90
noncomputable def uwL (x:Nat) (h:List UInt8) (u:Int) (q:List UInt8):List UInt8:=if uwE x h u q = 0 then opB (uK x u.toNat) z12 h q else []
theorem uwL_length (x:Nat) (h:List UInt8) (u:Int) (q:List UInt8):(uwL x h u q).length ≤ q.length:=by
  unfold uwL opB
  split
  · split
    · rw [strm_length,List.length_take]; omega
    · simp
  · simp
noncomputable def shE (x:Nat) (c:Cs) (a:Ap):Int:=if uwE x (msg c 0 a.g) a.u a.q = 0 then (if (uwL x (msg c 0 a.g) a.u a.q).length = 16 then 0 else 80) else uwE x (msg c 0 a.g) a.u a.q
def sh8 (n:Int) (d:UInt8):Int:=orV (IntKind.i64.wrap (n * 2 ^ 8)) (d.toNat:Nat)
def nb (b:List UInt8):Nat → Int × Int
  | 0=>(0,0)
  | i + 1=>if i < 8 then (sh8 (nb b i).1 (b.getD i 0),(nb b i).2) else ((nb b i).1,sh8 (nb b i).2 (b.getD i 0))
noncomputable def shV (x:Nat) (c:Cs) (a:Ap):Int × Int:=nb (uwL x (msg c 0 a.g) a.u a.q) (uwL x (msg c 0 a.g) a.u a.q).length
noncomputable def shL (x:Nat) (c:Cs) (k:Nat):List (Int × Int):=(c.ap.take k).map (shV x c)
theorem shL_length {x:Nat} {c:Cs} {k:Nat} (h:k ≤ c.ap.length):(shL x c k).length = k:=by unfold shL; rw [List.length_map,List.length_take]; omega
theorem shL_succ {x:Nat} {c:Cs} {k:Nat} {a:Ap} (h:c.ap[k]? = some a):shL x c (k + 1) = shL x c k ++ [shV x c a]:=by unfold shL; rw [List.take_add_one,h,List.map_append]; rfl
/-- what is needed of the world to read the approvals -/
structure ApRd (c:Cs) (aa:Option Addr) (w:World):Prop where
  g:LC w
  r:Rd w aa (apc c.ap)
  o:ApOk w c.ap
end Rst
namespace Go.Proofs.YtegfmbefhpagmaaGreatDoor
open Go Eng Gf Sha Sig Wr Cod Cha Rst
set_option maxRecDepth 100000
set_option linter.all false
theorem unwrapG (w:World) (x:Nat) (hx0:1 ≤ x) (hx:x < 2305843009213688669) (ha ca:Option Addr) (hc cc n:Nat) (h q:List UInt8) (u:Int) (hn:h.length = n) (hg:LC w) (hrh:Rd w ha (bs h)) (hlh:n ≤ 100000) (hrc:Rd w ca (bs q)) (hcc:q.length ≤ cc) (hm:q.length < 1000000000000000000) :
    Gives Tryz.prog 124 [I x,.slice ha n hc,.agg #[I u,.slice ca q.length cc]] w [] (fun y:Option Addr × Nat=>.tuple #[.slice y.1 (uwL x h u q).length y.2,I (uwE x h u q)]) (fun y=>[.row y.1 y.2 5 1 (uwL x h u q).length (bs (uwL x h u q))]) (fun _=>True):=by
  subst hn
  by_cases h1:wchk u q.length = 0
  · obtain ⟨v,rfl,hv,_,_⟩:=wchk_0 h1
    cases h2:opOk (uK x v) z12 h q with
    | true =>
      have e1:uwE x h (v:Int) q = 0:=by unfold uwE; rw [if_pos h1,Int.toNat_natCast,if_pos h2]
      have e2:uwL x h (v:Int) q = opB (uK x v) z12 h q:=by unfold uwL; rw [if_pos e1,Int.toNat_natCast]
      rw [e1,e2]
      exact w_Unwrap_yes w ha ca hc cc h q x hx0 hx v hv hrh hlh hrc hcc h1 hg h2
    | false =>
      have e1:uwE x h (v:Int) q = 60:=by unfold uwE; rw [if_pos h1,Int.toNat_natCast,if_neg (by rw [h2]; simp)]
      have e2:uwL x h (v:Int) q = []:=by unfold uwL; rw [if_neg (by rw [e1]; decide)]
      rw [e1,e2]
      exact (w_Unwrap_no3 w ha ca hc cc h q x hx0 hx v hv hrh hlh hrc hcc h1 hg h2).mono fun e w' ⟨h3,h4⟩=>⟨(none,0),trivial,h3,h4.nilRow _ _⟩
  · have e1:uwE x h u q = 90:=by unfold uwE; rw [if_neg h1]
    have e2:uwL x h u q = []:=by unfold uwL; rw [if_neg (by rw [e1]; decide)]
    have h9:=w_Unwrap_no2 w ha ca hc cc h x hx0 hx q.length u hm h1
    rw [wchk_ne h1] at h9
    rw [e1,e2]
    exact h9.mono fun e w' ⟨h3,h4⟩=>⟨(none,0),trivial,h3,h4.nilRow _ _⟩
theorem shares_ok (w:World) (c:Cs) (nd x:Int) (aa va:Option Addr) (ac vc:Nat) :
    Gives Tryz.prog 68 [.agg #[I c.p,I c.d,I c.v,I c.l,I c.st,.slice aa c.ap.length ac,.slice va c.vt.length vc],I nd,I x] w [] (fun y:Nat × Nat × Nat=>.func (.func 123) #[] #[.pointer (some ⟨y.1,0,none⟩),.pointer (some ⟨y.2.1,0,none⟩),.pointer (some ⟨y.2.2,0,none⟩)])
      (fun y=>[.blk y.2.2 (.cells #[I x] 3 (0,0)),.blk y.2.1 (.cells #[I nd] 3 (0,0)),.blk y.1 (.cells #[I c.p,I c.d,I c.v,I c.l,I c.st,.slice aa c.ap.length ac,.slice va c.vt.length vc] 56 (0,0))]) (fun _=>True):=by
  refine enter Tryz.func68 Tryz.ntmps68 ?_
  refine c_seq<|c_reg<|s_box rfl fun b3=>s_box rfl fun b4=>s_box rfl fun b5=>s_y y_as<|s_nil<|q_then<|c_seq<|c_reg<|s_y y_func<|s_y y_as<|s_nil<|q_then<|c_ret<|?_
  exact ret1 Tryz.results68 rv_t fun w' hw=>⟨(b3,b4,b5),trivial,rfl,hw⟩
def sM (L Dk:Nat) (rc:Loop) (b3 b4 b5 bo:Nat) (c:Cs) (aa va:Option Addr) (ac vc:Nat) (nd x:Int) (a:Option Addr) (c':Nat) (q:List (Int × Int)):SH :=
  [.blk L (.loop rc),.blk Dk (.deferred (some [])),.row a c' 62 2 q.length (shc q),.blk b5 (.cells #[I x] 3 (0,0)),.blk b4 (.cells #[I nd] 3 (0,0)),.blk b3 (.cells #[I c.p,I c.d,I c.v,I c.l,I c.st,.slice aa c.ap.length ac,.slice va c.vt.length vc] 56 (0,0)),.blk bo (.cells #[.slice a q.length c'] 28 (0,0))]
abbrev dieV (e:Int):List PanicEntry:=[{ v:=.iface 194 (.agg #[I e]),recovered:=false }]
theorem shares1_ok (w':World) (rc:Loop) (L Dk b3 b4 b5 bo:Nat) (c:Cs) (aa va:Option Addr) (ac vc nd x:Nat) (hx0:1 ≤ x) (hx:x < 2305843009213688669) (hnd:nd ≤ c.ap.length) (hac:c.ap.length ≤ ac) (hal:c.ap.length ≤ 1000000) (hR:R5 c) (hgr:∀ z ∈ c.ap,R64 z.g) (hcp:∀ z ∈ c.ap,z.q.length ≤ z.c) (hql:∀ z ∈ c.ap,z.q.length ≤ 100000)
    (hs:∀ p ∈ sM L Dk rc b3 b4 b5 bo c aa va ac vc nd x none 0 [],p.holds w') (hn:(keys (sM L Dk rc b3 b4 b5 bo c aa va ac vc nd x none 0 [])).Nodup) (hpz:rc.params.size = 2)
    (hWd:∀ w2 l2,St w' (keys (sM L Dk rc b3 b4 b5 bo c aa va ac vc nd x none 0 [])) w2 l2 → ApRd c aa w2)
    (hround:∀ (a:Option Addr) (c' k:Nat) (z:Ap) (w2:World),k < nd → c.ap[k]? = some z → shE x c z = 0 → St w' (keys (sM L Dk rc b3 b4 b5 bo c aa va ac vc nd x none 0 [])) w2 (sM L Dk rc b3 b4 b5 bo c aa va ac vc nd x a c' (shL x c k)) →
      RoundIn (Fw none) 0 Tryz.prog L rc.fn ((rc.params.zip #[.agg #[I (shV x c z).1,I (shV x c z).2],I 0]).foldl (fun tmps (t,a)=>tmps.setIfInBounds t a) rc.tmps) rc.assign rc.body w2 fun e w3=>∃ y:Option Addr × Nat,True ∧ e = .returned (.bool true) ∧ St w' (keys (sM L Dk rc b3 b4 b5 bo c aa va ac vc nd x none 0 [])) w3 (sM L Dk { rc with state:=.ready,pending:=none } b3 b4 b5 bo c aa va ac vc nd x y.1 y.2 (shL x c (k + 1))))
    (hdying:∀ (a:Option Addr) (c' k:Nat) (z:Ap) (w2:World),k < nd → c.ap[k]? = some z → shE x c z ≠ 0 → St w' (keys (sM L Dk rc b3 b4 b5 bo c aa va ac vc nd x none 0 [])) w2 (sM L Dk rc b3 b4 b5 bo c aa va ac vc nd x a c' (shL x c k)) →
      RoundIn (Fw none) 0 Tryz.prog L rc.fn ((rc.params.zip #[.agg #[I (shV x c z).1,I (shV x c z).2],I (shE x c z)]).foldl (fun tmps (t,a)=>tmps.setIfInBounds t a) rc.tmps) rc.assign rc.body w2 fun e w3=>e = .panicked (dieV (shE x c z)) ∧ St w' (keys (sM L Dk rc b3 b4 b5 bo c aa va ac vc nd x none 0 [])) w3 (sM L Dk { rc with state:=.busy } b3 b4 b5 bo c aa va ac vc nd x a c' (shL x c k)))
    (hrdy:rc = { rc with state:=.ready,pending:=none }:=by rfl) :
    Calls Tryz.prog 123 #[.func (.yield L) #[] #[],.pointer (some ⟨b3,0,none⟩),.pointer (some ⟨b4,0,none⟩),.pointer (some ⟨b5,0,none⟩)] w' fun e w2 =>
      ((∃ v,e = .returned v) ∧ (∀ k z,k < nd → c.ap[k]? = some z → shE x c z = 0) ∧ ∃ y:Option Addr × Nat,St w' (keys (sM L Dk rc b3 b4 b5 bo c aa va ac vc nd x none 0 [])) w2 (sM L Dk rc b3 b4 b5 bo c aa va ac vc nd x y.1 y.2 (shL x c nd))) ∨
      (∃ m z,∃ y:Option Addr × Nat,m < nd ∧ c.ap[m]? = some z ∧ shE x c z ≠ 0 ∧ (∀ k z',k < m → c.ap[k]? = some z' → shE x c z' = 0) ∧ e = .panicked (dieV (shE x c z)) ∧ St w' (keys (sM L Dk rc b3 b4 b5 bo c aa va ac vc nd x none 0 [])) w2 (sM L Dk { rc with state:=.busy } b3 b4 b5 bo c aa va ac vc nd x y.1 y.2 (shL x c m))):=by
  refine enterL (args:=[.func (.yield L) #[] #[],.pointer (some ⟨b3,0,none⟩),.pointer (some ⟨b4,0,none⟩),.pointer (some ⟨b5,0,none⟩)]) Tryz.func123 Tryz.ntmps123 hs hn ?_
  obtain ⟨bo',hbo⟩:∃ bo',bo' = keys (sM L Dk rc b3 b4 b5 bo c aa va ac vc nd x none 0 []):=⟨_,rfl⟩
  rw [← hbo] at hround hdying hWd ⊢
  refine c_seq<|c_reg<|s_y y_fa<|s_y (y_ld (b:=b3) (v:=.slice aa c.ap.length ac))<|s_y (y_ld (b:=b4) (v:=I nd))<|s_y (y_slh (j:=((nd:Nat):Int)))<|s_y y_len<|s_y y_mv<|s_nil<|q_then<|c_block<|?_
  rw [Int.toNat_natCast]
  refine c_loop3 (fun (k:Nat) (_:Option Addr) (_:Nat)=>[(0,.func (.yield L) #[] #[]),(1,.pointer (some ⟨b3,0,none⟩)),(2,.pointer (some ⟨b4,0,none⟩)),(3,.pointer (some ⟨b5,0,none⟩)),(15,.slice aa nd ac),(16,I nd),(17,I k)]) (fun k a c'=>sM L Dk rc b3 b4 b5 bo c aa va ac vc nd x a c' (shL x c k)) (fun k _ _=>k ≤ nd ∧ ∀ j z,j < k → c.ap[j]? = some z → shE x c z = 0) (fun k _ _=>nd - k) 0 none 0 ⟨by omega,fun _ _ h=>by omega⟩ ⟨rfl,rfl,rfl,rfl,rfl,rfl,rfl,trivial⟩ (.refl _) ?_
  rintro k a c' ⟨hk,hall⟩
  refine c_seq<|c_reg<|s_y (y_lss (p:=((k:Nat):Int)) (q:=((nd:Nat):Int)))<|s_nil<|q_then<|c_seq<|c_ifd (fun h18=>?_) (fun h18=>?_)
  · have hknd:k < nd:=by omega
    obtain ⟨z,hz⟩:∃ z,c.ap[k]? = some z:=⟨_,List.getElem?_eq_getElem (by omega)⟩
    have hzm:z ∈ c.ap:=List.mem_of_getElem? hz
    obtain ⟨bb,hbb⟩:∃ bb,bb = uwL x (msg c 0 z.g) z.u z.q:=⟨_,rfl⟩
    refine c_skip<|q_then<|c_seq<|c_block<|c_seq<|c_reg<|s_y (y_ixs (xs:=apc c.ap) (i:=((k:Nat):Int)) (hr:=fun w2 h2=>(hWd _ _ h2).r) (hl:=by rw [apc_length]; omega))<|s_y (y_ldra (i:=k * 5) (cs:=z.cell) (fun w2 h2=>(hWd _ _ h2).r) rfl (fun j v h=>apc_at hz h))<|s_alloc fun b6=>s_sta (b:=b6) (vs:=z.cell.toArray) (cs:=#[I 0,I 0,.slice none 0 0,I 0,I 0]) (h1:=fun v hv=>ap_one [z] v (by simpa [apc] using hv)) (hl:=rfl) (hs1:=rfl) ?_
    refine s_nil<|q_then<|c_seq<|c_regL (.blk b6 (.cells z.cell.toArray 116 (0,0)) :: sM L Dk rc b3 b4 b5 bo c aa va ac vc nd x a c' (shL x c k))<|r_y 0 rfl (y_ld (b:=b5) (v:=I x))<|r_y 1 rfl (y_lda (b:=b3) (cs:=#[I c.p,I c.d,I c.v,I c.l,I c.st,.slice aa c.ap.length ac,.slice va c.vt.length vc]) (hl:=rfl))<|r_y 2 rfl y_fa<|r_y 3 rfl (y_ld (b:=b6) (v:=I z.g))<|r_y 5 rfl y_fa<|r_y 6 rfl (y_ldin (b:=b6) (off:=1) (cs:=z.cell.toArray) (ys:=[I z.u,.slice z.a z.q.length z.c]) (hl:=rfl) (hv:=at_sub rfl))<|r_W 4 rfl<|s_gives (fun w2 h2=>Message_ok w2 c 0 z.g aa va ac vc (hWd _ _ h2).g.1 hR R64_0 (hgr z hzm)) fun x26 _=>r_K<|r_W 7 rfl<|s_gives (fun w2 h2=>unwrapG w2 x hx0 hx _ z.a 32 z.c 32 (msg c 0 z.g) z.q z.u (msg_length _ _ _) (hWd _ _ h2).g (rd_blkB (e:=69) (.head _) w2 h2) (by decide) ((hWd _ _ h2).o z hzm).1 (hcp z hzm) (by have:=((hWd _ _ h2).o z hzm).2; omega)) fun x29 _=>?_
    rw [← hbb]
    refine r_K<|r_y 8 rfl y_mv<|r_y 9 rfl y_ext<|r_y 10 rfl y_ext<|r_y 11 rfl y_as<|r_y 12 rfl y_as<|r_E<|q_then<|?_
    obtain ⟨ba,bc⟩:=x29
    have hbl:bb.length ≤ 100000:=by have e1:=uwL_length x (msg c 0 z.g) z.u z.q; have e2:=hql z hzm; rw [hbb]; omega
    refine c_join [(0,.func (.yield L) #[] #[]),(1,.pointer (some ⟨b3,0,none⟩)),(2,.pointer (some ⟨b4,0,none⟩)),(3,.pointer (some ⟨b5,0,none⟩)),(7,.slice ba bb.length bc),(8,I (shE x c z)),(15,.slice aa nd ac),(16,I nd),(17,I k)] (.row ba bc 5 1 bb.length (bs bb) :: sM L Dk rc b3 b4 b5 bo c aa va ac vc nd x a c' (shL x c k)) ?_ ?_
    · by_cases he:uwE x (msg c 0 z.g) z.u z.q = 0
      · by_cases h16:bb.length = 16
        · rw [show shE x c z = uwE x (msg c 0 z.g) z.u z.q by unfold shE; rw [if_pos he,← hbb,if_pos h16,he]]
          exact c_seq<|c_reg<|s_y y_mv<|s_kt (y_eql (p:=uwE x (msg c 0 z.g) z.u z.q) (q:=0)) he<|s_y y_mv<|s_y y_mv<|s_y y_len<|s_nf (y_neq (p:=((bb.length:Nat):Int)) (q:=16)) (by omega)<|s_y y_pk<|s_nil<|q_then<|c_f<|c_skip<|q_join ⟨rfl,rfl,rfl,rfl,rfl,rfl,rfl,rfl,rfl,trivial⟩ (.cons_cons _ (.cons _ (.cons _ (.refl _))))
        · rw [show shE x c z = 80 by unfold shE; rw [if_pos he,← hbb,if_neg h16]]
          exact c_seq<|c_reg<|s_y y_mv<|s_kt (y_eql (p:=uwE x (msg c 0 z.g) z.u z.q) (q:=0)) he<|s_y y_mv<|s_y y_mv<|s_y y_len<|s_nt (y_neq (p:=((bb.length:Nat):Int)) (q:=16)) (by omega)<|s_y y_pk<|s_nil<|q_then<|c_t<|c_reg<|s_y y_as<|s_nil<|q_join ⟨rfl,rfl,rfl,rfl,rfl,rfl,rfl,rfl,rfl,trivial⟩ (.cons_cons _ (.cons _ (.cons _ (.refl _))))
      · rw [show shE x c z = uwE x (msg c 0 z.g) z.u z.q by unfold shE; rw [if_neg he]]
        exact c_seq<|c_reg<|s_y y_mv<|s_kf (y_eql (p:=uwE x (msg c 0 z.g) z.u z.q) (q:=0)) he<|s_y y_mv<|s_no<|s_no<|s_no<|s_y y_pk<|s_nil<|q_then<|c_f<|c_skip<|q_join ⟨rfl,rfl,rfl,rfl,rfl,rfl,rfl,rfl,rfl,trivial⟩ (.cons_cons _ (.cons _ (.cons _ (.refl _))))
    refine c_seq<|c_reg<|s_alloc fun b9=>s_nil<|q_then<|c_seq<|c_seq<|c_reg<|s_y y_mv<|s_y y_len<|s_y y_mv<|s_nil<|q_then<|c_block<|?_
    refine c_loop (fun j:Nat=>[(0,.func (.yield L) #[] #[]),(1,.pointer (some ⟨b3,0,none⟩)),(2,.pointer (some ⟨b4,0,none⟩)),(3,.pointer (some ⟨b5,0,none⟩)),(8,I (shE x c z)),(9,.pointer (some ⟨b9,0,none⟩)),(15,.slice aa nd ac),(16,I nd),(17,I k),(39,.slice ba bb.length bc),(40,I bb.length),(41,I j)]) (fun j=>.blk b9 (.cells #[I (nb bb j).1,I (nb bb j).2] 208 (0,0)) :: .row ba bc 5 1 bb.length (bs bb) :: sM L Dk rc b3 b4 b5 bo c aa va ac vc nd x a c' (shL x c k)) (fun j=>j ≤ bb.length) (fun j=>bb.length - j) 0 (by omega) ⟨rfl,rfl,rfl,rfl,rfl,rfl,rfl,rfl,rfl,rfl,rfl,rfl,trivial⟩ (.refl _) ?_
    intro j hj
    refine c_seq<|c_reg<|s_y (y_lss (p:=((j:Nat):Int)) (q:=((bb.length:Nat):Int)))<|s_nil<|q_then<|c_seq<|c_ifd (fun h42=>?_) (fun h42=>?_)
    · have hjb:j < bb.length:=by omega
      refine c_skip<|q_then<|c_seq<|c_block<|c_seq<|c_reg<|s_y y_mv<|s_y (y_ixs1 (xs:=bs bb) (i:=((j:Nat):Int)) (hr:=rdR (.tail _ (.head _))) (hl:=by rw [bs_length]; omega))<|s_y (y_ldb (q:=bb) (i:=j) (hr:=rdR (.tail _ (.head _))) (hi:=hjb))<|s_y y_as<|s_y y_as<|s_nil<|q_then<|?_
      by_cases h8:j < 8
      · have e9:min (((j:Nat):Int) / 8) 1 = 0:=by omega
        have en:nb bb (j + 1) = (sh8 (nb bb j).1 (bb.getD j 0),(nb bb j).2):=by rw [nb,if_pos h8]
        refine c_reg<|s_y y_mv<|s_y (y_quo (p:=((j:Nat):Int)) (q:=8))<|s_y (y_min (p:=((j:Nat):Int) / 8) (q:=1))<|?_
        rw [e9]
        refine s_y y_mv<|s_y (y_quo (p:=((j:Nat):Int)) (q:=8))<|s_y (y_min (p:=((j:Nat):Int) / 8) (q:=1))<|?_
        rw [e9]
        refine s_y (y_ixa1 (i:=0))<|s_y (y_ld (b:=b9) (v:=I (nb bb j).1))<|s_y (y_shlw 8 (p:=(nb bb j).1))<|s_y y_mv<|s_y (y_cvb (p:=bb.getD j 0))<|s_y (y_orw (p:=IntKind.i64.wrap ((nb bb j).1 * 2 ^ 8)) (q:=(((bb.getD j 0).toNat:Nat):Int)))<|s_y (y_ixa1 (i:=0))<|s_st (b:=b9) (off:=0) (v:=I (sh8 (nb bb j).1 (bb.getD j 0))) (cs:=#[I (nb bb j).1,I (nb bb j).2]) (hl:=show 0 < 2 by decide) ?_
        refine s_nil<|q_nb<|q_then<|c_reg<|s_y (y_add (p:=((j:Nat):Int)) (q:=1))<|s_y y_mv<|s_nil<|?_
        rw [show ((j:Nat):Int) + 1 = ((j + 1:Nat):Int) by omega]
        exact q_round (j + 1) (by omega) (by omega) ⟨rfl,rfl,rfl,rfl,rfl,rfl,rfl,rfl,rfl,rfl,rfl,rfl,trivial⟩ (by rw [en]; exact .refl _)
      · have e9:min (((j:Nat):Int) / 8) 1 = 1:=by omega
        have en:nb bb (j + 1) = ((nb bb j).1,sh8 (nb bb j).2 (bb.getD j 0)):=by rw [nb,if_neg h8]
        refine c_reg<|s_y y_mv<|s_y (y_quo (p:=((j:Nat):Int)) (q:=8))<|s_y (y_min (p:=((j:Nat):Int) / 8) (q:=1))<|?_
        rw [e9]
        refine s_y y_mv<|s_y (y_quo (p:=((j:Nat):Int)) (q:=8))<|s_y (y_min (p:=((j:Nat):Int) / 8) (q:=1))<|?_
        rw [e9]
        refine s_y (y_ixa1 (i:=1))<|s_y (y_ld (b:=b9) (v:=I (nb bb j).2))<|s_y (y_shlw 8 (p:=(nb bb j).2))<|s_y y_mv<|s_y (y_cvb (p:=bb.getD j 0))<|s_y (y_orw (p:=IntKind.i64.wrap ((nb bb j).2 * 2 ^ 8)) (q:=(((bb.getD j 0).toNat:Nat):Int)))<|s_y (y_ixa1 (i:=1))<|s_st (b:=b9) (off:=1) (v:=I (sh8 (nb bb j).2 (bb.getD j 0))) (cs:=#[I (nb bb j).1,I (nb bb j).2]) (hl:=show 1 < 2 by decide) ?_
        refine s_nil<|q_nb<|q_then<|c_reg<|s_y (y_add (p:=((j:Nat):Int)) (q:=1))<|s_y y_mv<|s_nil<|?_
        rw [show ((j:Nat):Int) + 1 = ((j + 1:Nat):Int) by omega]
        exact q_round (j + 1) (by omega) (by omega) ⟨rfl,rfl,rfl,rfl,rfl,rfl,rfl,rfl,rfl,rfl,rfl,rfl,trivial⟩ (by rw [en]; exact .refl _)
    · obtain rfl:j = bb.length:=by omega
      have hv:nb bb bb.length = shV x c z:=by rw [hbb]; rfl
      rw [hv]
      refine c_exit<|q_ex<|q_ex<|q_exb<|q_then<|c_seq<|c_reg<|s_y y_mv<|s_y (y_ixa1 (i:=0))<|s_y (y_ld (b:=b9) (v:=I (shV x c z).1))<|s_y (y_ixa1 (i:=1))<|s_y (y_ld (b:=b9) (v:=I (shV x c z).2))<|s_y (y_bshr (cs:=[I (shV x c z).1,I (shV x c z).2]))<|s_y y_mv<|?_
      by_cases hsE:shE x c z = 0
      · rw [hsE]
        refine s_yield2 (L:=L) (rc:=rc) (v:=.agg #[I (shV x c z).1,I (shV x c z).2]) (v':=I 0) (σ:=Option Addr × Nat) (fun _=>.bool true) (fun y=>sM L Dk { rc with state:=.ready,pending:=none } b3 b4 b5 bo c aa va ac vc nd x y.1 y.2 (shL x c (k + 1))) (fun _=>True) (.tail _ (.tail _ (.head _))) hpz (fun w2 h2=>hround a c' k z w2 hknd hz hsE (h2.sub (.cons _ (.cons _ (.refl _))))) (fun y _=>?_)
        rw [← hrdy]
        refine s_y (v:=.bool false) (y_not (b:=true))<|s_nil<|q_then<|c_f<|c_skip<|q_nb<|q_then<|c_reg<|s_y (y_add (p:=((k:Nat):Int)) (q:=1))<|s_y y_mv<|s_nil<|?_
        rw [show ((k:Nat):Int) + 1 = ((k + 1:Nat):Int) by omega]
        exact q_round3 (x:=k) (y:=a) (z:=c') (k + 1) y.1 y.2 ⟨by omega,fun i z' hi hz'=>(Nat.lt_or_ge i k).elim (fun h=>hall i z' h hz') fun h=>by obtain rfl:i = k:=(by omega); rw [Option.some.inj (hz'.symm.trans hz)]; exact hsE⟩ (by omega) ⟨rfl,rfl,rfl,rfl,rfl,rfl,rfl,trivial⟩ (.refl _)
      · refine s_yieldD (L:=L) (rc:=rc) (v:=.agg #[I (shV x c z).1,I (shV x c z).2]) (v':=I (shE x c z)) (ch:=dieV (shE x c z)) (l2:=sM L Dk { rc with state:=.busy } b3 b4 b5 bo c aa va ac vc nd x a c' (shL x c k)) (.tail _ (.tail _ (.head _))) hpz (fun w2 h2=>hdying a c' k z w2 hknd hz hsE (h2.sub (.cons _ (.cons _ (.refl _))))) ?_
        exact q_pt<|q_pb<|q_pt<|q_pt<|q_pb<|Eng.die fun w2 h2=>.inr ⟨k,z,(a,c'),hknd,hz,hsE,hall,rfl,h2⟩
  · obtain rfl:k = nd:=by omega
    refine c_exit<|q_ex<|q_ex<|q_exb<|?_
    exact ret0 Tryz.results123 (fun w2 h2=>.inl ⟨⟨_,rfl⟩,hall,(a,c'),h2⟩) _ (.inr rfl)
end Go.Proofs.YtegfmbefhpagmaaGreatDoor
end
section
namespace Eng
open Go Go.RowKit
end Eng
namespace Rst
open Go Eng Gf Cha
theorem isort_length (l:List (Int × Int)):(isort l).length = l.length:=srtN_length _ _
theorem ApRd.st {c:Cs} {aa:Option Addr} {W w:World} {ps:SH} (h:ApRd c aa W) (hs:St W [] w ps):ApRd c aa w:=⟨h.g.st hs,h.r.st hs,h.o.st hs⟩
end Rst
namespace Go.Proofs.YtegfmbefhpagmaaGreatDoor
open Go Eng Gf Sha Sig Wr Cod Cha Rst
set_option maxRecDepth 100000
set_option linter.all false
theorem Finish_st (w:World) (p:Pn) (c:Cs) (now ver:Int) (ga aa va:Option Addr) (gc ac vc:Nat) (hrg:Rd w ga (is p.gs)) (hra:Rd w aa (apc c.ap)) (hrv:Rd w va (vtc c.vt)) (hgl:p.gs.length ≤ 1000000) (hal:c.ap.length ≤ 1000000) (hvl:c.vt.length ≤ 1000000) (x:Int) (hst:stE p c now ≠ 0):Pure Tryz.prog 14 [.agg #[I p.id,I p.rk,.slice ga p.gs.length gc,I p.need,I p.cool],.agg #[I c.p,I c.d,I c.v,I c.l,I c.st,.slice aa c.ap.length ac,.slice va c.vt.length vc],I now,I ver,I x] w (.tuple #[.agg #[I 0,I 0,I 0,I 0,I 0,I 0,I 0,I 0],I (stE p c now)]):=by
  refine enterD Tryz.func14 Tryz.ntmps14 ?_
  refine c_seq<|c_reg<|s_box rfl fun b5=>s_box rfl fun b6=>s_alloc fun b10=>s_alloc fun b11=>s_nil<|q_then<|c_seq<|c_reg<|s_y y_func<|s_deferC<|s_nil<|q_then<|c_seq<|c_reg<|s_y (y_lda (b:=b5) (cs:=#[I p.id,I p.rk,.slice ga p.gs.length gc,I p.need,I p.cool]) (hl:=rfl))<|s_y (y_lda (b:=b6) (cs:=#[I c.p,I c.d,I c.v,I c.l,I c.st,.slice aa c.ap.length ac,.slice va c.vt.length vc]) (hl:=rfl))<|s_y y_mv<|s_pure (fun w' hw=>State_ok w' p c now ga aa va gc ac vc (hrg.st hw) (hra.st hw) (hrv.st hw) hgl hal hvl)<|s_dies (fun w' hw=>try_dies w' (stE p c now) hst)<|q_pt<|?_
  exact leave_P (fun w' hw=>rcFinish_P w' b11 0 (stE p c now) (hw.own _ (.head _)).1) Tryz.results14 (.refl _) (.cons (rv_ca (b:=b10) (cs:=(List.replicate 8 (I 0)).toArray) (hl:=rfl)) (.cons (rv_cf (b:=b11) (v:=I (stE p c now))) .nil)) fun w' hw=>⟨rfl,hw.sub (List.nil_sublist _)⟩
theorem Finish_y (w:World) (p:Pn) (c:Cs) (now ver:Int) (ga aa va:Option Addr) (gc ac vc:Nat) (hrg:Rd w ga (is p.gs)) (hra:Rd w aa (apc c.ap)) (hrv:Rd w va (vtc c.vt)) (hgl:p.gs.length ≤ 1000000) (hal:c.ap.length ≤ 1000000) (hvl:c.vt.length ≤ 1000000) (hst:stE p c now = 0) (x:Nat) (hx0:1 ≤ x) (hx:x < 2305843009213688669) (hv:((pp 4 x:Nat):Int) = c.l) (hac:c.ap.length ≤ ac) (hR:R5 c) (hcp:∀ z ∈ c.ap,z.q.length ≤ z.c) (hql:∀ z ∈ c.ap,z.q.length ≤ 100000) (hA:ApRd c aa w) (nd:Nat) (hnd:p.need = (nd:Int)) (hnd2:nd < 20) (hall:∀ k z,k < nd → c.ap[k]? = some z → shE x c z = 0) (r:Nat) (hrq:r < 2305843009213688669) (hch:chS (isort (shL x c nd)) = 0) (hjn:jnV (isort (shL x c nd)) = (r:Int)) (hr0:r ≠ 0) (hrk:((pp 4 r:Nat):Int) = p.rk) (hcr:CrRt c.d c.v c.l ver):Pure Tryz.prog 14 [.agg #[I p.id,I p.rk,.slice ga p.gs.length gc,I p.need,I p.cool],.agg #[I c.p,I c.d,I c.v,I c.l,I c.st,.slice aa c.ap.length ac,.slice va c.vt.length vc],I now,I ver,I x] w (.tuple #[.agg #[I 3,I c.d,I c.v,I c.l,I ver,I (-1),I (sgR r (cmsg [3,c.d,c.v,c.l,ver,-1]):Nat),I (sgS r (cmsg [3,c.d,c.v,c.l,ver,-1]):Nat)],I (0)]):=by
  have hgr:∀ z ∈ c.ap,R64 z.g:=fun z hz=>by
    obtain ⟨hp9,hb9,_⟩:=stE_inv hst
    have h9:=hp9.gs z.g (hb9.fg z hz)
    unfold R64; omega
  have hnl:nd ≤ c.ap.length:=by have:=(stE_inv hst).2.2.2.2; omega
  refine enterW Tryz.func14 Tryz.ntmps14 (g_cp ?_)
  refine c_seq<|c_reg<|s_box rfl fun b5=>s_box rfl fun b6=>s_alloc fun b10=>s_alloc fun b11=>s_nil<|q_then<|c_seq<|c_reg<|s_y y_func<|s_deferC<|s_nil<|q_then<|c_seq<|c_reg<|s_y (y_lda (b:=b5) (cs:=#[I p.id,I p.rk,.slice ga p.gs.length gc,I p.need,I p.cool]) (hl:=rfl))<|s_y (y_lda (b:=b6) (cs:=#[I c.p,I c.d,I c.v,I c.l,I c.st,.slice aa c.ap.length ac,.slice va c.vt.length vc]) (hl:=rfl))<|s_y y_mv<|s_pure (fun w' hw=>(by have h9:=State_ok w' p c now ga aa va gc ac vc (hrg.st hw) (hra.st hw) (hrv.st hw) hgl hal hvl; rw [hst] at h9; exact h9))<|s_pure (fun w' hw=>try_ok w')<|s_nil<|q_then<|c_seq<|c_reg<|s_y y_mv<|s_pure (fun w' hw=>sPublic_yes w' x hx0 hx)<|s_y y_mv<|s_y y_ext<|s_y y_ext<|s_y y_as<|s_st (b:=b11) (v:=I 0) (cs:=#[I 0]) (hl:=Nat.zero_lt_one) ?_
  refine s_nil<|q_then<|c_seq<|c_reg<|s_y (y_ld (b:=b11) (v:=I 0))<|s_pure (fun w' hw=>try_ok w')<|s_nil<|q_then<|c_seq<|c_reg<|s_y y_mv<|s_y y_fa<|s_y (y_ld (b:=b6) (v:=I c.l))<|s_kt (y_eql (p:=(pp 4 x:Nat)) (q:=c.l)) hv<|s_pure (fun w' hw=>demand_ok w' 390)<|s_nil<|q_then<|c_seq<|c_reg<|s_alloc fun b13=>s_nil<|q_then<|c_seq<|c_seq<|c_reg<|s_y (y_lda (b:=b6) (cs:=#[I c.p,I c.d,I c.v,I c.l,I c.st,.slice aa c.ap.length ac,.slice va c.vt.length vc]) (hl:=rfl))<|s_y y_fa<|s_y (y_ld (b:=b5) (v:=I p.need))<|s_y y_mv<|s_gives (fun w' hw=>shares_ok w' c p.need x aa va ac vc) fun x40 _=>s_nil<|q_then<|?_
  obtain ⟨b3',b4',b5'⟩:=x40
  dsimp only
  rw [hnd]
  refine c_nilrow 62 2<|c_block<|c_rangeN (σ:=Option Addr × Nat) (fun y=>[.row y.1 y.2 62 2 (shL x c nd).length (shc (shL x c nd)),.blk b5' (.cells #[I x] 3 (0,0)),.blk b4' (.cells #[I nd] 3 (0,0)),.blk b3' (.cells #[I c.p,I c.d,I c.v,I c.l,I c.st,.slice aa c.ap.length ac,.slice va c.vt.length vc] 56 (0,0)),.blk b13 (.cells #[.slice y.1 (shL x c nd).length y.2] 28 (0,0))] ++ [.blk b11 (.cells #[I 0] 29 (0,0)),.blk b10 (.cells #[I 0,I 0,I 0,I 0,I 0,I 0,I 0,I 0] 45 (0,0)),.blk b6 (.cells #[I c.p,I c.d,I c.v,I c.l,I c.st,.slice aa c.ap.length ac,.slice va c.vt.length vc] 56 (0,0)),.blk b5 (.cells #[I p.id,I p.rk,.slice ga p.gs.length gc,I nd,I p.cool] 27 (0,0))]) (fun _=>True) (fun fn tm Dk L hfr w' hw'=>?_) (fun Dk y _=>?_)
  rotate_left
  · refine q_nb<|q_then<|c_seq<|c_reg<|s_y (y_ld (b:=b13) (v:=.slice y.1 (shL x c nd).length y.2))<|?_
    refine s_upd (σ:=Unit) (p:=.row y.1 y.2 62 2 (shL x c nd).length (shc (shL x c nd))) (p':=fun _=>.row y.1 y.2 62 2 (shL x c nd).length (shc (isort (shL x c nd)))) (lx:=fun _=>[]) (φ:=fun _=>True) (val:=fun _=>.tuple #[]) (fun w' hw=>sortS_ok w' y.1 y.2 (shL x c nd).length (shL x c nd) rfl (by rw [shL_length hnl]; omega) (hw.own _ (.tail _ (.head _))).1) (fun _=>.tail _ (.head _)) fun _ _=>?_
    refine s_nil<|q_then<|c_seq<|c_reg<|s_y (y_ld (b:=b13) (v:=.slice y.1 (shL x c nd).length y.2))<|s_pure (fun w' hw=>(by have h9:=s_Join_ok w' y.1 y.2 (isort (shL x c nd)) (rdR (.tail _ (.head _)) w' hw) (by rw [isort_length,shL_length hnl]; omega); rw [isort_length] at h9; exact h9))<|s_y y_mv<|s_y y_ext<|s_y y_ext<|s_y y_as<|s_st (b:=b11) (v:=I (chS (isort (shL x c nd)))) (cs:=#[I 0]) (hl:=Nat.zero_lt_one) ?_
    refine s_nil<|q_then<|c_seq<|c_reg<|s_y (y_ld (b:=b11) (v:=I (chS (isort (shL x c nd)))))<|?_
    rw [hch]
    refine s_pure (fun w' hw=>try_ok w')<|s_nil<|q_then<|c_seq<|c_reg<|s_y y_mv<|?_
    rw [hjn]
    refine s_pure (fun w' hw=>gBase_el w' r hrq)<|s_y y_mv<|s_y y_ext<|s_y y_ext<|s_y y_as<|s_st (b:=b11) (v:=I 0) (cs:=#[I 0]) (hl:=Nat.zero_lt_one) ?_
    refine s_nil<|q_then<|c_seq<|c_reg<|s_y (y_ld (b:=b11) (v:=I 0))<|s_pure (fun w' hw=>try_ok w')<|s_nil<|q_then<|c_seq<|c_reg<|s_y y_mv<|s_nt (y_neq (p:=((r:Nat):Int)) (q:=0)) (by omega)<|s_y y_mv<|s_y y_mv<|s_y y_fa<|s_y (y_ld (b:=b5) (v:=I p.rk))<|s_kt (y_eql (p:=((pp 4 r:Nat):Int)) (q:=p.rk)) hrk<|s_y y_pk<|s_pure (fun w' hw=>demand_ok w' 80)<|s_nil<|q_then<|c_seq<|c_reg<|s_y y_fa<|s_y (y_ld (b:=b6) (v:=I c.d))<|s_y y_fa<|s_y (y_ld (b:=b6) (v:=I c.v))<|s_y y_fa<|s_y (y_ld (b:=b6) (v:=I c.l))<|s_y y_mv<|s_y y_mv<|s_pure (fun w' hw=>Certify3_yes w' c.d c.v c.l ver r hcr (hA.st hw).g.1 (by omega) hrq)<|s_y y_ext<|s_y y_ext<|s_sta (b:=b10) (vs:=#[I 3,I c.d,I c.v,I c.l,I ver,I (-1),I (sgR r (cmsg [3,c.d,c.v,c.l,ver,-1]):Nat),I (sgS r (cmsg [3,c.d,c.v,c.l,ver,-1]):Nat)]) (cs:=#[I 0,I 0,I 0,I 0,I 0,I 0,I 0,I 0]) (h1:=by intro u hu; simp at hu; rcases hu with rfl | rfl | rfl | rfl | rfl | rfl | rfl | rfl <;> rfl) (hl:=rfl) (hs1:=rfl) ?_
    refine s_st (b:=b11) (v:=I 0) (cs:=#[I 0]) (hl:=Nat.zero_lt_one) ?_
    refine s_nil<|q_then<|c_ret<|q_mark (.head _)<|?_
    exact leaveW_R (cs:=[.pointer (some ⟨b11,0,none⟩)]) (fun w' hw=>rcFinish_R w' b11) Tryz.results14 (.cons (rv_ca (b:=b10) (cs:=#[I 3,I c.d,I c.v,I c.l,I ver,I (-1),I (sgR r (cmsg [3,c.d,c.v,c.l,ver,-1]):Nat),I (sgS r (cmsg [3,c.d,c.v,c.l,ver,-1]):Nat)]) (hl:=rfl)) (.cons (rv_cf (b:=b11) (v:=I 0)) .nil)) fun w' hw=>⟨rfl,hw.sub (List.nil_sublist _)⟩
  · show Calls _ _ _ _ _
    have hps:=(show St w [] w' (sM L Dk _ b3' b4' b5' b13 c aa va ac vc nd x none 0 [] ++ [.blk b11 (.cells #[I 0] 29 (0,0)),.blk b10 (.cells #[I 0,I 0,I 0,I 0,I 0,I 0,I 0,I 0] 45 (0,0)),.blk b6 (.cells #[I c.p,I c.d,I c.v,I c.l,I c.st,.slice aa c.ap.length ac,.slice va c.vt.length vc] 56 (0,0)),.blk b5 (.cells #[I p.id,I p.rk,.slice ga p.gs.length gc,I nd,I p.cool] 27 (0,0))]) from hw').has
    refine (shares1_ok w' _ L Dk b3' b4' b5' b13 c aa va ac vc nd x hx0 hx hnl hac hal hR hgr hcp hql hps.1 hps.2 rfl (fun w2 l2 h=>hA.st (hw'.transL (l2:=[.blk b11 (.cells #[I 0] 29 (0,0)),.blk b10 (.cells #[I 0,I 0,I 0,I 0,I 0,I 0,I 0,I 0] 45 (0,0)),.blk b6 (.cells #[I c.p,I c.d,I c.v,I c.l,I c.st,.slice aa c.ap.length ac,.slice va c.vt.length vc] 56 (0,0)),.blk b5 (.cells #[I p.id,I p.rk,.slice ga p.gs.length gc,I nd,I p.cool] 27 (0,0))]) (.refl _) h)) (fun a c' k z w2 hk9 hz hse h2=>?_) (fun a c' k z w2 hk9 hz hne h2=>?_)).mono ?_
    rotate_left 2
    · rintro e w2 (⟨hv9,hal9,y,h2⟩ | ⟨m,z,y,hm9,hz9,hne9,hb9,he9,h2⟩)
      · exact ⟨hv9,y,trivial,hw'.transL (l2:=[.blk b11 (.cells #[I 0] 29 (0,0)),.blk b10 (.cells #[I 0,I 0,I 0,I 0,I 0,I 0,I 0,I 0] 45 (0,0)),.blk b6 (.cells #[I c.p,I c.d,I c.v,I c.l,I c.st,.slice aa c.ap.length ac,.slice va c.vt.length vc] 56 (0,0)),.blk b5 (.cells #[I p.id,I p.rk,.slice ga p.gs.length gc,I nd,I p.cool] 27 (0,0))]) (.refl _) h2⟩
      · exact absurd (hall m z hm9 hz9) hne9
    · -- a round that goes well
      have hqk:(shL x c k).length = k:=shL_length (by omega)
      have hf9:=((hfr []).put 41 (.agg #[I (shV x c z).1,I (shV x c z).2]) rfl).put 42 (I 0) rfl
      refine round_okE (σ:=Nat) (F1:=fun b14=>[(11,.pointer (some ⟨b11,0,none⟩)),(13,.pointer (some ⟨b13,0,none⟩)),(14,.pointer (some ⟨b14,0,none⟩)),(15,I 0)]) (l1:=fun b14=>(.blk b14 (.cells #[I (shV x c z).1,I (shV x c z).2] 62 (0,0))) :: sM L Dk _ b3' b4' b5' b13 c aa va ac vc nd x a c' (shL x c k)) (l2:=fun b14=>(.blk b14 (.cells #[I (shV x c z).1,I (shV x c z).2] 62 (0,0))) :: sM L Dk _ b3' b4' b5' b13 c aa va ac vc nd x a c' (shL x c k)) h2 hf9 (by simp [Act.put]) (by rfl) (fun _=>.tail _ (.head _)) ?_ (fun b14=>?_)
      · refine c_seq<|c_reg<|s_alloc fun b14=>s_sta (b:=b14) (vs:=#[I (shV x c z).1,I (shV x c z).2]) (cs:=#[I 0,I 0]) (h1:=by intro u hu; simp at hu; rcases hu with rfl | rfl <;> rfl) (hl:=rfl) (hs1:=rfl) ?_
        refine s_nil<|q_then<|c_reg<|s_y y_as<|s_nil<|?_
        exact q_joinE b14 ⟨rfl,rfl,rfl,rfl,trivial⟩ (.refl _)
      · refine c_block<|c_seq<|c_reg<|s_y y_mv<|s_pure (fun w3 h3=>try_ok w3)<|s_nil<|q_then<|c_reg<|s_y (y_ld (b:=b13) (v:=.slice a (shL x c k).length c'))<|s_y (y_lda (b:=b14) (cs:=#[I (shV x c z).1,I (shV x c z).2]) (hl:=rfl))<|s_bslr (cs:=[I (shV x c z).1,I (shV x c z).2]) fun b47=>s_app (m:=1) (fun w' hw=>Src.slice (rdR (.head _) w' hw) rfl) (h1:=fun v hv=>by simp at hv; rcases hv with rfl | rfl <;> rfl) (hm:=.tail _ (.tail _ (.tail _ (.tail _ (.head _))))) (hrep:=fun _ _=>.tail _ (.tail _ (.tail _ (.tail _ (.head _))))) fun a48 c48 h48=>?_
        rw [show shc (shL x c k) ++ [I (shV x c z).1,I (shV x c z).2] = shc (shL x c (k + 1)) by rw [shL_succ hz,shc_append]; rfl,show (shL x c k).length + 1 = (shL x c (k + 1)).length by rw [shL_succ hz,List.length_append]; rfl]
        refine s_st (b:=b13) (v:=.slice a48 (shL x c (k + 1)).length c48) (cs:=#[.slice a (shL x c k).length c']) (hl:=Nat.zero_lt_one) ?_
        exact s_nil<|q_nb<|q_rn (.tail _ (.tail _ (.head _))) fun w3 h3=>⟨(a48,c48),trivial,rfl,h3.sub (.cons _ (.cons _ (.refl _)))⟩
    · exact absurd (hall k z hk9 hz) hne
end Go.Proofs.YtegfmbefhpagmaaGreatDoor
end
section
namespace Rst
open Go Eng Gf Sha Sig Wr Cod Cha Go.Proofs.YtegfmbefhpagmaaGreatDoor
theorem sh8_nat {p:Nat} {d:UInt8} (hp:p < 36028797018963968):sh8 (p:Int) d = ((p * 256 + d.toNat:Nat):Int):=orV_byte hp
theorem div_step (A i:Nat) (h:i < 8):A / 2 ^ (8 * (8 - i)) * 256 + (UInt8.ofNat (A / 2 ^ (8 * (7 - i)))).toNat = A / 2 ^ (8 * (8 - (i + 1))):=by
  have e:8 * (8 - i) = 8 * (7 - i) + 8:=by omega
  rw [e,Nat.pow_add,← Nat.div_div_eq_div_mul,UInt8.toNat_ofNat',show 8 * (8 - (i + 1)) = 8 * (7 - i) by omega]
  omega
theorem div_lt {A i:Nat} (hA:A < 9223372036854775808) (h:i < 8):A / 2 ^ (8 * (8 - i)) < 36028797018963968:=by
  have h1:A / 2 ^ (8 * (8 - i)) ≤ A / 2 ^ 8:=Nat.div_le_div_left (Nat.pow_le_pow_right (by decide) (by omega)) (by decide)
  have h2:(2:Nat) ^ 8 = 256:=rfl
  omega
theorem nb_lo {b:List UInt8} {A:Nat} (hA:A < 9223372036854775808) (hb:∀ i,i < 8 → b.getD i 0 = UInt8.ofNat (A / 2 ^ (8 * (7 - i)))):∀ i,i ≤ 8 → nb b i = (((A / 2 ^ (8 * (8 - i)):Nat):Int),0)
  | 0,_=>by
    rw [nb,show A / 2 ^ (8 * (8 - 0)) = 0 from Nat.div_eq_of_lt (Nat.lt_of_lt_of_le hA (by decide))]; rfl
  | i + 1,h=>by
    rw [nb,if_pos (by omega),nb_lo hA hb i (by omega),hb i (by omega),sh8_nat (div_lt hA (by omega)),div_step A i (by omega)]
theorem nb_hi {b:List UInt8} {A Y:Nat} (hA:A < 9223372036854775808) (hY:Y < 9223372036854775808) (hb:∀ i,i < 8 → b.getD i 0 = UInt8.ofNat (A / 2 ^ (8 * (7 - i)))) (hb2:∀ i,i < 8 → b.getD (8 + i) 0 = UInt8.ofNat (Y / 2 ^ (8 * (7 - i)))):∀ i,i ≤ 8 → nb b (8 + i) = ((A:Int),((Y / 2 ^ (8 * (8 - i)):Nat):Int))
  | 0,_=>by
    rw [Nat.add_zero,nb_lo hA hb 8 (Nat.le_refl _),show Y / 2 ^ (8 * (8 - 0)) = 0 from Nat.div_eq_of_lt (Nat.lt_of_lt_of_le hY (by decide))]
    simp
  | i + 1,h=>by
    rw [show 8 + (i + 1) = (8 + i) + 1 by omega,nb,if_neg (by omega),nb_hi hA hY hb hb2 i (by omega),hb2 i (by omega),sh8_nat (div_lt hY (by omega)),div_step Y i (by omega)]
theorem nb_bdy {A Y:Nat} (hA:A < 9223372036854775808) (hY:Y < 9223372036854775808):nb (bdy A Y) 16 = ((A:Int),(Y:Int)):=by
  have h:=nb_hi (b:=bdy A Y) hA hY (fun i hi=>by
      unfold bdy
      rw [List.getD_eq_getElem?_getD,List.getElem?_append_left (by rw [be_length]; omega),← List.getD_eq_getElem?_getD,be_get A 8 i hi]) (fun i hi=>by
      unfold bdy
      rw [List.getD_eq_getElem?_getD,List.getElem?_append_right (by rw [be_length]; omega),be_length,Nat.add_sub_cancel_left,← List.getD_eq_getElem?_getD,be_get Y 8 i hi]) 8 (Nat.le_refl _)
  simpa using h
theorem uw_good (x:Nat) (s h b:List UInt8) (hb:b.length ≤ 65536):uwE x h (wU s:Nat) (wB (pp 4 x) s h b) = 0 ∧ uwL x h (wU s:Nat) (wB (pp 4 x) s h b) = b:=by
  obtain ⟨h1,h2⟩:=w_open x s h hb
  have h3:wchk (wU s:Nat) (wB (pp 4 x) s h b).length = 0:=wchk_ok s (by rw [wB_length]; omega) (by rw [wB_length]; omega)
  have e:uwE x h (wU s:Nat) (wB (pp 4 x) s h b) = 0:=by unfold uwE; rw [if_pos h3,Int.toNat_natCast,if_pos h1]
  exact ⟨e,by unfold uwL; rw [if_pos e,Int.toNat_natCast]; exact h2⟩
def GdAp (x:Nat) (c:Cs) (A Y:Nat) (a:Ap):Prop:=∃ s,a.u = (wU s:Nat) ∧ a.q = wB (pp 4 x) s (msg c 0 a.g) (bdy A Y)
theorem gd_sh {x:Nat} {c:Cs} {A Y:Nat} {a:Ap} (h:GdAp x c A Y a) (hA:A < 9223372036854775808) (hY:Y < 9223372036854775808):shE x c a = 0 ∧ shV x c a = ((A:Int),(Y:Int)):=by
  obtain ⟨s,hu,hq⟩:=h
  obtain ⟨e1,e2⟩:=uw_good x s (msg c 0 a.g) (bdy A Y) (by rw [bdy_length]; decide)
  unfold shE shV
  rw [hu,hq,e1,e2,if_pos rfl,bdy_length,if_pos rfl]
  exact ⟨rfl,nb_bdy hA hY⟩
def insR (x:Int × Int):List (Int × Int) → List (Int × Int)
  | []=>[x]
  | y :: ys=>if x.1 < y.1 then y :: insR x ys else x :: y :: ys
theorem insR_perm (x:Int × Int):∀ l,(insR x l).Perm (x :: l)
  | []=>.refl _
  | y :: ys=>by
    unfold insR
    split
    · exact ((insR_perm x ys).cons y).trans (.swap _ _ _)
    · exact .refl _
theorem insR_sorted {x:Int × Int}:∀ {l:List (Int × Int)},l.Pairwise (fun a b=>b.1 ≤ a.1) → (insR x l).Pairwise (fun a b=>b.1 ≤ a.1)
  | [],_=>by simp [insR]
  | y :: ys,h=>by
    obtain ⟨h1,h2⟩:=List.pairwise_cons.1 h
    unfold insR
    split
    · refine List.pairwise_cons.2 ⟨fun z hz=>?_,insR_sorted h2⟩
      rcases List.mem_cons.1 ((insR_perm x ys).mem_iff.1 hz) with rfl | hz
      · omega
      · exact h1 z hz
    · refine List.pairwise_cons.2 ⟨fun z hz=>?_,h⟩
      rcases List.mem_cons.1 hz with rfl | hz
      · omega
      · have:=h1 z hz; omega
theorem bub_ins (x:Int × Int) (r:List (Int × Int)):∀ pr:List (Int × Int),bub (pr.reverse ++ x :: r) pr.length = (insR x pr).reverse ++ r
  | []=>by simp [bub,insR]
  | y :: ys=>by
    have hl:ys.reverse.length = ys.length:=List.length_reverse
    have e:(y :: ys).reverse ++ x :: r = ys.reverse ++ y :: x :: r:=by simp
    have hx:(ys.reverse ++ y :: x :: r)[ys.length + 1]? = some x:=by
      rw [List.getElem?_append_right (by omega),hl,Nat.add_sub_cancel_left]; rfl
    have hy:(ys.reverse ++ y :: x :: r)[ys.length]? = some y:=by
      rw [List.getElem?_append_right (by omega),hl,Nat.sub_self]; rfl
    rw [e,List.length_cons]
    by_cases h:x.1 < y.1
    · rw [bub_lt hx hy h,List.set_append_right _ _ (by omega),List.set_append_right _ _ (by omega),hl,Nat.add_sub_cancel_left,Nat.sub_self]
      show bub (ys.reverse ++ x :: y :: r) ys.length = _
      rw [bub_ins x (y :: r) ys,insR,if_pos h]
      simp
    · rw [bub_ge hx hy h,insR,if_neg h]
      simp
theorem srtN_spec (l:List (Int × Int)):∀ k,k < l.length → ∃ pr:List (Int × Int),srtN l k = pr.reverse ++ l.drop (k + 1) ∧ pr.length = k + 1 ∧ pr.Pairwise (fun a b=>b.1 ≤ a.1) ∧ pr.Perm (l.take (k + 1))
  | 0,h=>by
    obtain ⟨x,r,rfl⟩:∃ x r,l = x :: r:=by cases l with
      | nil=>cases h
      | cons x r=>exact ⟨x,r,rfl⟩
    exact ⟨[x],rfl,rfl,by simp,by simp⟩
  | k + 1,h=>by
    obtain ⟨pr,h1,h2,h3,h4⟩:=srtN_spec l k (by omega)
    have e:l.drop (k + 1) = l[k + 1] :: l.drop (k + 1 + 1):=List.drop_eq_getElem_cons h
    refine ⟨insR l[k + 1] pr,?_,?_,insR_sorted h3,?_⟩
    · have h9:=bub_ins l[k + 1] (l.drop (k + 1 + 1)) pr
      rw [h2] at h9
      rw [srtN,h1,e,h9]
    · rw [(insR_perm _ _).length_eq,List.length_cons,h2]
    · refine (insR_perm _ _).trans ?_
      rw [List.take_add_one (i:=k + 1),List.getElem?_eq_getElem h]
      exact ((h4.cons _).trans (List.perm_append_singleton _ _).symm)
theorem isort_spec {l:List (Int × Int)} (h:l ≠ []):(isort l).Perm l ∧ (isort l).Pairwise (fun a b=>a.1 ≤ b.1):=by
  have hl:0 < l.length:=List.length_pos_iff.2 h
  obtain ⟨pr,h1,h2,h3,h4⟩:=srtN_spec l (l.length - 1) (by omega)
  rw [show l.length - 1 + 1 = l.length by omega,List.drop_length,List.append_nil] at h1
  rw [show l.length - 1 + 1 = l.length by omega,List.take_length] at h4
  unfold isort
  rw [h1]
  exact ⟨(List.reverse_perm _).trans h4,List.pairwise_reverse.2 h3⟩
theorem okS_of:∀ {q:List (Int × Int)} {last:Int},(∀ s ∈ q,last < s.1 ∧ s.1 ≤ 64 ∧ sc s.2 = true) → q.Pairwise (fun a b=>a.1 < b.1) → okS last q = true
  | [],_,_,_=>rfl
  | s :: q,last,h,hp=>by
    obtain ⟨h1,h2⟩:=List.pairwise_cons.1 hp
    obtain ⟨a1,a2,a3⟩:=h s (.head _)
    rw [okS,decide_eq_true a1,decide_eq_true a2,a3,okS_of (last:=s.1) (fun t ht=>⟨h1 t ht,(h t (.tail _ ht)).2⟩) h2]
    rfl
theorem asc_len:∀ {q:List (Int × Int)} {last:Int},last ≤ 64 → (∀ s ∈ q,last < s.1 ∧ s.1 ≤ 64) → q.Pairwise (fun a b=>a.1 < b.1) → (q.length:Int) ≤ 64 - last
  | [],last,h,_,_=>by simp; omega
  | s :: q,last,_,h,hp=>by
    obtain ⟨h1,h2⟩:=List.pairwise_cons.1 hp
    obtain ⟨a1,a2⟩:=h s (.head _)
    have:=asc_len (q:=q) (last:=s.1) a2 (fun t ht=>⟨h1 t ht,(h t (.tail _ ht)).2⟩) h2
    rw [List.length_cons]; omega
theorem sc_natR {n:Nat} (h:n < 2305843009213688669):sc (n:Int) = true:=scI.2 ⟨by omega,by omega⟩
theorem jn_good {cs:List Nat} {q:List (Int × Int)} {m:Nat} (hm:m ≤ 64) (hc:1 ≤ cs.length) (hcq:cs.length ≤ q.length) (hq:∀ s ∈ q,∃ i,i < m ∧ s = (((i + 1:Nat):Int),((hor cs (i + 1):Nat):Int))) (hnd:(q.map Prod.fst).Nodup) (hh:∀ y,hor cs y < 2305843009213688669) :
    chS (isort q) = 0 ∧ jnV (isort q) = ((hor cs 0:Nat):Int):=by
  have hne:q ≠ []:=by
    rintro rfl
    have h9:cs.length ≤ 0:=hcq
    omega
  obtain ⟨hp,hs⟩:=isort_spec hne
  have hnd2:((isort q).map Prod.fst).Nodup:=(hp.map Prod.fst).nodup_iff.2 hnd
  have hlt:(isort q).Pairwise fun a b=>a.1 < b.1:=by
    have h3:(isort q).Pairwise fun a b=>a.1 ≠ b.1:=List.pairwise_map.1 hnd2
    exact (hs.and h3).imp fun h=>by have:=h.1; have:=h.2; omega
  have hok:okS 0 (isort q) = true:=okS_of (fun s hs=>by
    obtain ⟨i,hi,rfl⟩:=hq s (hp.mem_iff.1 hs)
    exact ⟨by show (0:Int) < ((i + 1:Nat):Int); omega,by show ((i + 1:Nat):Int) ≤ 64; omega,sc_natR (hh _)⟩) hlt
  have hlen:(isort q).length = q.length:=isort_length q
  have hql:=asc_len (q:=isort q) (last:=0) (by decide) (fun s hs=>by
    obtain ⟨i,hi,rfl⟩:=hq s (hp.mem_iff.1 hs)
    exact ⟨by show (0:Int) < ((i + 1:Nat):Int); omega,by show ((i + 1:Nat):Int) ≤ 64; omega⟩) hlt
  have hch:chS (isort q) = 0:=by unfold chS; rw [if_pos ⟨by omega,by omega,hok⟩]
  obtain ⟨e1,hv⟩:=chS_vld hch
  refine ⟨hch,?_⟩
  rw [jnV,if_pos hch]
  congr 1
  refine valQ_hor hv cs (by rw [toN_length,hlen]; exact hcq) (fun s hs=>?_) 0
  unfold toN at hs
  obtain ⟨t,ht,rfl⟩:=List.mem_map.1 hs
  obtain ⟨i,hi,rfl⟩:=hq t (hp.mem_iff.1 ht)
  show ((hor cs (i + 1):Nat):Int).toNat = hor cs (((i + 1:Nat):Int).toNat)
  rw [Int.toNat_natCast,Int.toNat_natCast]
end Rst
end
section
namespace Rst
open Go Eng Gf Sha Sig Wr Cod Cha Go.Proofs.YtegfmbefhpagmaaGreatDoor
/-- Finish succeeds -/
structure FinOk (p:Pn) (c:Cs) (now ver:Int) (x:Nat):Prop where
  st:stE p c now = 0
  x0:1 ≤ x
  x1:x < 2305843009213688669
  lf:((pp 4 x:Nat):Int) = c.l
  sh:∀ k z,k < p.need.toNat → c.ap[k]? = some z → shE x c z = 0
  ch:chS (isort (shL x c p.need.toNat)) = 0
  r0:(jnV (isort (shL x c p.need.toNat))).toNat ≠ 0
  rk:((pp 4 (jnV (isort (shL x c p.need.toNat))).toNat:Nat):Int) = p.rk
  cr:CrRt c.d c.v c.l ver
noncomputable def certV (c:Cs) (ver:Int) (r:Nat):Array Value:=#[I 3,I c.d,I c.v,I c.l,I ver,I (-1),I (sgR r (cmsg [3,c.d,c.v,c.l,ver,-1]):Nat),I (sgS r (cmsg [3,c.d,c.v,c.l,ver,-1]):Nat)]
/-- what Finish reads -/
structure FinW (w:World) (p:Pn) (c:Cs) (ga aa va:Option Addr) (gc ac vc:Nat):Prop where
  rg:Rd w ga (is p.gs)
  ra:Rd w aa (apc c.ap)
  rv:Rd w va (vtc c.vt)
  gl:p.gs.length ≤ 1000000
  al:c.ap.length ≤ 1000000
  vl:c.vt.length ≤ 1000000
  ac':c.ap.length ≤ ac
  r5:R5 c
  cp:∀ z ∈ c.ap,z.q.length ≤ z.c
  ok:ApOk w c.ap
  g:LC w
theorem FinW.st {W w:World} {p:Pn} {c:Cs} {ga aa va:Option Addr} {gc ac vc:Nat} {ps:SH} (h:FinW W p c ga aa va gc ac vc) (hs:St W [] w ps):FinW w p c ga aa va gc ac vc :=
  ⟨h.rg.st hs,h.ra.st hs,h.rv.st hs,h.gl,h.al,h.vl,h.ac',h.r5,h.cp,h.ok.st hs,h.g.st hs⟩
theorem FinW.ql {w:World} {p:Pn} {c:Cs} {ga aa va:Option Addr} {gc ac vc:Nat} (h:FinW w p c ga aa va gc ac vc):∀ z ∈ c.ap,z.q.length ≤ 100000:=fun z hz=>(h.ok z hz).2
theorem FinW.rd {w:World} {p:Pn} {c:Cs} {ga aa va:Option Addr} {gc ac vc:Nat} (h:FinW w p c ga aa va gc ac vc):ApRd c aa w:=⟨h.g,h.ra,h.ok⟩
theorem jn_lt {q:List (Int × Int)} (h:chS q = 0):(jnV q).toNat < 2305843009213688669 ∧ jnV q = ((jnV q).toNat:Int):=by
  have e:jnV q = ((valQ (toN q) 0:Nat):Int):=by unfold jnV; rw [if_pos h]
  rw [e,Int.toNat_natCast]
  exact ⟨accQ_lt' _ _,rfl⟩
theorem ApOk.snoc {w:World} {l:List Ap} {x:Ap} (h:ApOk w l) (hr:Rd w x.a (bs x.q)) (hl:x.q.length ≤ 100000):ApOk w (l ++ [x]):=fun y hy=>by
  rcases List.mem_append.1 hy with hy | hy
  · exact h y hy
  · rw [List.mem_singleton] at hy; subst hy; exact ⟨hr,hl⟩
theorem cap_snoc {l:List Ap} {x:Ap} (h:∀ z ∈ l,z.q.length ≤ z.c) (hx:x.q.length ≤ x.c):∀ z ∈ l ++ [x],z.q.length ≤ z.c:=fun y hy=>by
  rcases List.mem_append.1 hy with hy | hy
  · exact h y hy
  · rw [List.mem_singleton] at hy; subst hy; exact hx
theorem good_fin {p:Pn} {c:Cs} {now ver:Int} {x r:Nat} {cs:List Nat} (hst:stE p c now = 0) (hx0:1 ≤ x) (hx:x < 2305843009213688669) (hlf:((pp 4 x:Nat):Int) = c.l)
    (hg:∀ z ∈ c.ap,∃ i,i < p.gs.length ∧ p.gs[i]? = some z.g ∧ GdAp x c (i + 1) (hor cs (i + 1)) z) (hcs:cs.length = p.need.toNat) (hr:hor cs 0 = r) (hr0:1 ≤ r) (hrk:((pp 4 r:Nat):Int) = p.rk) (hver:1 ≤ ver ∧ ver ≤ 1048576) :
    FinOk p c now ver x ∧ (jnV (isort (shL x c p.need.toNat))).toNat = r:=by
  obtain ⟨hp,hb,_,_,hn⟩:=stE_inv hst
  have hgl:=hp.gl
  have hnd:=hp.need
  have hid:=hp.id
  have hfd:=hb.fd
  have hsv:∀ z ∈ c.ap,∃ i,i < p.gs.length ∧ p.gs[i]? = some z.g ∧ shE x c z = 0 ∧ shV x c z = (((i + 1:Nat):Int),((hor cs (i + 1):Nat):Int)):=fun z hz=>by
    obtain ⟨i,h1,h2,h3⟩:=hg z hz
    obtain ⟨h4,h5⟩:=gd_sh h3 (by omega) (Nat.lt_trans (hor_lt _ _) (by decide))
    exact ⟨i,h1,h2,h4,h5⟩
  have hlen:(shL x c p.need.toNat).length = p.need.toNat:=shL_length (by omega)
  have hq:∀ s ∈ shL x c p.need.toNat,∃ i,i < p.gs.length ∧ s = (((i + 1:Nat):Int),((hor cs (i + 1):Nat):Int)):=fun s hs=>by
    obtain ⟨z,hz,rfl⟩:=List.mem_map.1 hs
    obtain ⟨i,h1,_,_,h4⟩:=hsv z (List.mem_of_mem_take hz)
    exact ⟨i,h1,h4⟩
  have hdn:((shL x c p.need.toNat).map Prod.fst).Nodup:=by
    unfold shL
    rw [List.map_map]
    have h1:(c.ap.take p.need.toNat).Pairwise fun a b=>a.g ≠ b.g:=(List.pairwise_map.1 hb.fa).sublist (List.take_sublist _ _)
    refine List.pairwise_map.2 (h1.imp_of_mem fun {a b} ha hb' hab=>?_)
    obtain ⟨i,_,h3,_,h5⟩:=hsv a (List.mem_of_mem_take ha)
    obtain ⟨j,_,h3',_,h5'⟩:=hsv b (List.mem_of_mem_take hb')
    show (shV x c a).1 ≠ (shV x c b).1
    rw [h5,h5']
    intro e
    have e2:i = j:=by have:((i + 1:Nat):Int) = ((j + 1:Nat):Int):=e; omega
    subst e2
    exact hab (Option.some.inj (h3.symm.trans h3'))
  obtain ⟨h1,h2⟩:=jn_good (m:=p.gs.length) (by omega) (by omega) (by rw [hlen,hcs]; exact Nat.le_refl _) hq hdn (hor_lt cs)
  have h3:(jnV (isort (shL x c p.need.toNat))).toNat = r:=by rw [h2,Int.toNat_natCast,hr]
  refine ⟨⟨hst,hx0,hx,hlf,fun k z _ hz=>?_,h1,by omega,by rw [h3]; exact hrk,⟨by omega,hver,hb.fv,hb.fl⟩⟩,h3⟩
  obtain ⟨_,_,_,h4,_⟩:=hsv z (List.mem_of_getElem? hz)
  exact h4
end Rst
namespace Go.Proofs.YtegfmbefhpagmaaGreatDoor
open Go Eng Gf Sha Sig Wr Cod Cha Rst
set_option maxRecDepth 100000
set_option linter.all false
variable (w:World) (p:Pn) (c:Cs) (now ver:Int) (ga aa va:Option Addr) (gc ac vc:Nat) (h:FinW w p c ga aa va gc ac vc)
include h
theorem Finish_yes (x:Nat) (hf:FinOk p c now ver x):Pure Tryz.prog 14 [.agg #[I p.id,I p.rk,.slice ga p.gs.length gc,I p.need,I p.cool],.agg #[I c.p,I c.d,I c.v,I c.l,I c.st,.slice aa c.ap.length ac,.slice va c.vt.length vc],I now,I ver,I x] w (.tuple #[.agg (certV c ver (jnV (isort (shL x c p.need.toNat))).toNat),I 0]):=by
  have hp:=(stE_inv hf.st).1
  have hnd:=hp.need
  have hgl:=hp.gl
  obtain ⟨hr1,hr2⟩:=jn_lt hf.ch
  exact Finish_y w p c now ver ga aa va gc ac vc h.rg h.ra h.rv h.gl h.al h.vl hf.st x hf.x0 hf.x1 hf.lf h.ac' h.r5 h.cp h.ql h.rd p.need.toNat (by omega) (by omega) hf.sh _ hr1 hf.ch hr2 hf.r0 hf.rk hf.cr
end Go.Proofs.YtegfmbefhpagmaaGreatDoor
end
section
namespace Rst
open Go Eng Gf Sha Sig Wr Cod Cha Go.Proofs.YtegfmbefhpagmaaGreatDoor
def apd (c:Cs) (z:Ap):Cs:=⟨c.p,c.d,c.v,c.l,c.st,c.ap ++ [z],c.vt⟩
def vtd (c:Cs) (z:Vt):Cs:=⟨c.p,c.d,c.v,c.l,c.st,c.ap,c.vt ++ [z]⟩
theorem blg_apd {p:Pn} {c:Cs} {z:Ap} (h:Blg p c) (h1:z.g ∈ p.gs) (h2:¬ z.g ∈ c.ap.map Ap.g):Blg p (apd c z) where
  fp:=h.fp
  fd:=h.fd
  fv:=h.fv
  fl:=h.fl
  fs:=h.fs
  fa:=by
    show ((c.ap ++ [z]).map Ap.g).Nodup
    rw [List.map_append,List.nodup_append]
    exact ⟨h.fa,by simp,fun a ha b hb=>by rw [List.map_singleton,List.mem_singleton] at hb; subst hb; exact fun e=>h2 (e ▸ ha)⟩
  ft:=h.ft
  fg:=fun a ha=>by
    rcases List.mem_append.1 ha with ha | ha
    · exact h.fg a ha
    · rw [List.mem_singleton] at ha; subst ha; exact h1
theorem blg_vtd {p:Pn} {c:Cs} {z:Vt} (h:Blg p c) (h2:¬ z.d ∈ c.vt.map Vt.d):Blg p (vtd c z) where
  fp:=h.fp
  fd:=h.fd
  fv:=h.fv
  fl:=h.fl
  fs:=h.fs
  fa:=h.fa
  ft:=by
    show ((c.vt ++ [z]).map Vt.d).Nodup
    rw [List.map_append,List.nodup_append]
    exact ⟨h.ft,by simp,fun a ha b hb=>by rw [List.map_singleton,List.mem_singleton] at hb; subst hb; exact fun e=>h2 (e ▸ ha)⟩
  fg:=h.fg
theorem gIx_at {l:List Int} (hn:l.Nodup) {i:Nat} {g:Int} (h:l[i]? = some g):gIx g l = (i:Int):=by
  obtain ⟨hi,rfl⟩:=List.getElem?_eq_some_iff.1 h
  refine fidx_hit (d:=0) hi (fun j hj=>decide_eq_false ?_) (decide_eq_true ?_)
  · rw [List.getD_eq_getElem?_getD,List.getElem?_eq_getElem (by omega)]
    exact List.pairwise_iff_getElem.1 hn j i (by omega) hi hj
  · rw [List.getD_eq_getElem?_getD,List.getElem?_eq_getElem hi]; rfl
theorem chk_pub (x:Nat):chk ((pp 4 x:Nat):Int) = 0:=chk_0.2 (El.four.pow x).el
theorem chk_r64 {v:Int} (h:chk v = 0):R64 v:=by
  obtain ⟨x,rfl,hx⟩:=Wr.el_El (chk_0.1 h)
  have:=Gf.El.l63 hx
  unfold R64; omega
theorem blg_r5 {p:Pn} {c:Cs} (hp:Prs p) (h:Blg p c):R5 c:=by
  have h1:=hp.id
  have h2:=h.fp
  have h3:=h.fd
  have h4:=h.fs
  exact ⟨by unfold R64; omega,by unfold R64; omega,chk_r64 h.fv,chk_r64 h.fl,by unfold R64; omega⟩
theorem apRt_of {p:Pn} {c:Cs} {cs:List Nat} {i:Nat} {g:Int} (hp:Prs p) (hb:Blg p c) (hi:p.gs[i]? = some g) (hn:¬ g ∈ c.ap.map Ap.g):ApRt p c g ((i + 1:Nat):Int) ((hor cs (i + 1):Nat):Int):=by
  have e:=gIx_at hp.nd hi
  exact ⟨hb,by omega,hn,by omega,by have:=hor_lt cs (i + 1); omega⟩
theorem gd_nap {x xs A Y:Nat} {c c':Cs} {g:Int} {k:List UInt8} {ba:Option Addr} {bc:Nat} (hm:msg c' 0 g = msg c 0 g) (hl:c'.l = (pp 4 x:Nat)):GdAp x c A Y (nAp c' g k A Y xs ba bc) :=
  ⟨k,rfl,by show wB c'.l.toNat k (msg c' 0 g) (bdy A Y) = _; rw [hl,Int.toNat_natCast,hm]; rfl⟩
theorem spl_at {cs:List Nat} {m i:Nat} (h:i < m):(sN (spl cs m))[i]? = some (((i + 1:Nat):Int),((hor cs (i + 1):Nat):Int)):=by
  unfold sN spl
  rw [List.getElem?_map,List.getElem?_map,List.getElem?_range h]; rfl
def k1:List UInt8:=1 :: List.replicate 31 0
def k2:List UInt8:=2 :: List.replicate 31 0
theorem hor_cof (k:List UInt8) {x:Nat} (n:Nat) (h:x < 2305843009213688669):hor (cof k x n) 0 = x:=hor_zero x _ h
section
variable (b1 b2:Option Addr) (c1 c2:Nat)
end
end Rst
namespace Go.Proofs.YtegfmbefhpagmaaGreatDoor
open Go Eng Gf Rst
end Go.Proofs.YtegfmbefhpagmaaGreatDoor
end
section
namespace Tp
open Go Eng Gf Sha Sig Wr Cod Cha Rst Go.Proofs.YtegfmbefhpagmaaGreatDoor
abbrev lbLst:List UInt8:=[108,105,115,116,105,110,103]
abbrev lbEmp:List UInt8:=[101,109,112,116,121]
abbrev lbPair:List UInt8:=[112,97,105,114]
abbrev lbRoot:List UInt8:=[114,111,111,116]
def lsN (z:Ls):List Nat:=[z.d.toNat,z.v.toNat,z.l.toNat,z.ver.toNat]
def lsD (z:Ls):List UInt8:=tagged lbLst (bey (lsN z) ++ [if z.gone then 1 else 0])
def emD (d:Nat):List UInt8:=tagged lbEmp (bey [d])
def lsAt (L:List Ls) (d:Int):Option Ls:=L.find? fun z=>decide (z.d = d)
def lfD (L:List Ls) (d:Nat):List UInt8:=match lsAt L (d:Int) with
  | some z=>lsD z
  | none=>emD d
def pairD (a b:List UInt8):List UInt8:=tagged lbPair (a ++ b)
def ndD (L:List Ls):Nat → Nat → List UInt8
  | 0,n=>lfD L (n - 512)
  | k + 1,n=>pairD (ndD L k (2 * n)) (ndD L k (2 * n + 1))
theorem lsD_length (z:Ls):(lsD z).length = 32:=tagged_length _ _
theorem emD_length (d:Nat):(emD d).length = 32:=tagged_length _ _
theorem pairD_length (a b:List UInt8):(pairD a b).length = 32:=tagged_length _ _
theorem lfD_length (L:List Ls) (d:Nat):(lfD L d).length = 32:=by
  unfold lfD; split
  · exact lsD_length _
  · exact emD_length _
theorem ndD_length (L:List Ls):∀ k n,(ndD L k n).length = 32
  | 0,_=>lfD_length _ _
  | _ + 1,_=>pairD_length _ _
def up (n:Nat) (k:Nat):Nat:=n / 2 ^ k
theorem up_succ (n k:Nat):up n (k + 1) = up n k / 2:=by unfold up; rw [Nat.pow_succ,Nat.div_div_eq_div_mul]
def sib (n:Nat):Nat:=if n % 2 = 0 then n + 1 else n - 1
def upD (n:Nat) (d x:List UInt8):List UInt8:=if n % 2 = 0 then pairD d x else pairD x d
theorem upD_ndD (L:List Ls) (k n:Nat):upD n (ndD L k n) (ndD L k (sib n)) = ndD L (k + 1) (n / 2):=by
  unfold upD sib
  by_cases h:n % 2 = 0
  · rw [if_pos h,if_pos h,ndD,show 2 * (n / 2) = n by omega]
  · rw [if_neg h,if_neg h,ndD,show 2 * (n / 2) = n - 1 by omega,show n - 1 + 1 = n by omega]
/-- a root of the directory -/
structure Rt where
  no:Nat
  dg:List UInt8
  pv:List UInt8
  r:Nat
  s:Nat
structure RtOk (x:Rt):Prop where
  no:x.no < 1000000
  dg:x.dg.length = 32
  pv:x.pv.length = 32
  r:x.r < 9223372036854775808
  s:x.s < 9223372036854775808
def Rt.cell (x:Rt):List Value:=I x.no :: (bs x.dg ++ (bs x.pv ++ [I x.r,I x.s]))
def rtc (l:List Rt):List Value:=l.flatMap Rt.cell
theorem Rt.cell_length {x:Rt} (h:RtOk x):x.cell.length = 67:=by
  unfold Rt.cell
  rw [List.length_cons,List.length_append,List.length_append,bs_length,bs_length,h.dg,h.pv]; rfl
theorem rtc_length:∀ {l:List Rt},(∀ x ∈ l,RtOk x) → (rtc l).length = l.length * 67
  | [],_=>rfl
  | x :: l,h=>by
    unfold rtc
    rw [List.flatMap_cons,List.length_append,Rt.cell_length (h x (.head _)),List.length_cons]
    have:=rtc_length (l:=l) fun y hy=>h y (.tail _ hy)
    unfold rtc at this
    omega
theorem rtc_append (a b:List Rt):rtc (a ++ b) = rtc a ++ rtc b:=List.flatMap_append
theorem rtc_last {l:List Rt} (h:∀ x ∈ l,RtOk x) (z:Rt) {j:Nat} {v:Value} (hj:z.cell[j]? = some v):(rtc (l ++ [z]))[l.length * 67 + j]? = some v:=by
  rw [rtc_append,List.getElem?_append_right (by rw [rtc_length h]; omega),rtc_length h,Nat.add_sub_cancel_left]
  show (z.cell ++ [])[j]? = _
  rw [List.append_nil]; exact hj
def rmsg (no:Nat) (dg pv:List UInt8):List UInt8:=be no 8 ++ dg ++ pv
def rtM (x:Rt):List UInt8:=rmsg x.no x.dg x.pv
def rtI (x:Rt):List UInt8:=tagged lbRoot (rtM x ++ bey [x.r,x.s])
theorem rmsg_length {no:Nat} {dg pv:List UInt8} (h1:dg.length = 32) (h2:pv.length = 32):(rmsg no dg pv).length = 72:=by
  unfold rmsg; rw [List.length_append,List.length_append,be_length,h1,h2]
theorem rtI_length (x:Rt):(rtI x).length = 32:=tagged_length _ _
def prvI (l:List Rt):List UInt8:=match l.getLast? with
  | some x=>rtI x
  | none=>List.replicate 32 0
theorem prvI_length (l:List Rt):(prvI l).length = 32:=by
  unfold prvI; split
  · exact rtI_length _
  · exact List.length_replicate
noncomputable def nRt (x:Nat) (L:List Ls) (R:List Rt):Rt :=
  ⟨R.length + 1,ndD L 9 1,prvI R,sgR x (rmsg (R.length + 1) (ndD L 9 1) (prvI R)),sgS x (rmsg (R.length + 1) (ndD L 9 1) (prvI R))⟩
end Tp
end
section
namespace Tp
open Go Eng Gf Sha Sig Wr Cod Cha Rst Go.Proofs.YtegfmbefhpagmaaGreatDoor
theorem dir_pw {l:List Ls} (h:DirOk l):(∀ x ∈ l,LsRt x) ∧ l.Pairwise (fun a b=>a.d < b.d):=by
  refine ⟨fun x hx=>?_,?_⟩
  · obtain ⟨k,hk,rfl⟩:=List.getElem_of_mem hx
    exact (h k _ (List.getElem?_eq_getElem hk)).1
  · have key:∀ m i j (hi:i < l.length) (hj:j < l.length),j = i + 1 + m → (l[i]'hi).d < (l[j]'hj).d:=by
      intro m
      induction m with
      | zero =>
        intro i j hi hj e
        subst e
        have:=(h (i + 1) _ (List.getElem?_eq_getElem hj)).2
        rw [lsL_succ (List.getElem?_eq_getElem hi)] at this
        exact this
      | succ m ih =>
        intro i j hi hj e
        have h1:=ih i (j - 1) hi (by omega) (by omega)
        have h2:=(h j _ (List.getElem?_eq_getElem hj)).2
        obtain ⟨j',rfl⟩:∃ j',j = j' + 1:=⟨j - 1,by omega⟩
        rw [lsL_succ (List.getElem?_eq_getElem (by omega:j' < l.length))] at h2
        exact Int.lt_trans h1 h2
    exact List.pairwise_iff_getElem.2 fun i j hi hj hij=>key (j - i - 1) i j hi hj (by omega)
theorem dir_of {l:List Ls} (h1:∀ x ∈ l,LsRt x) (h2:l.Pairwise (fun a b=>a.d < b.d)):DirOk l:=fun k x hx=>by
  refine ⟨h1 x (List.mem_of_getElem? hx),?_⟩
  cases k with
  | zero=>rw [lsL,if_pos rfl]; have:=(h1 x (List.mem_of_getElem? hx)).d; omega
  | succ k =>
    obtain ⟨hk,rfl⟩:=List.getElem?_eq_some_iff.1 hx
    rw [lsL_succ (List.getElem?_eq_getElem (by omega:k < l.length))]
    exact List.pairwise_iff_getElem.1 h2 k (k + 1) (by omega) hk (by omega)
theorem dir_ins {A B:List Ls} {x:Ls} (h:DirOk (A ++ B)) (hx:LsRt x) (hA:∀ a ∈ A,a.d < x.d) (hB:∀ b ∈ B,x.d < b.d):DirOk (A ++ x :: B):=by
  obtain ⟨h1,h2⟩:=dir_pw h
  obtain ⟨a1,a2,a3⟩:=List.pairwise_append.1 h2
  refine dir_of (fun y hy=>?_) (List.pairwise_append.2 ⟨a1,List.pairwise_cons.2 ⟨hB,a2⟩,fun a ha b hb=>?_⟩)
  · rcases List.mem_append.1 hy with hy | hy
    · exact h1 y (List.mem_append_left _ hy)
    · rcases List.mem_cons.1 hy with rfl | hy
      · exact hx
      · exact h1 y (List.mem_append_right _ hy)
  · rcases List.mem_cons.1 hb with rfl | hb
    · exact hA a ha
    · exact a3 a ha b hb
theorem lsAt_none {L:List Ls} {d:Int} (h:∀ z ∈ L,z.d ≠ d):lsAt L d = none:=List.find?_eq_none.2 fun z hz=>by simpa using h z hz
theorem lsAt_ins {A B:List Ls} {x:Ls} (hA:∀ a ∈ A,a.d < x.d):lsAt (A ++ x :: B) x.d = some x:=by
  unfold lsAt
  rw [List.find?_append,List.find?_eq_none.2 fun z hz=>by have:=hA z hz; simp; omega]
  simp
def climbD:Nat → List UInt8 → List (List UInt8) → List UInt8
  | _,d,[]=>d
  | n,d,x :: r=>climbD (n / 2) (upD n d x) r
theorem climbD_take:∀ (P:List (List UInt8)) (n:Nat) (d:List UInt8) (i:Nat) (x:List UInt8),P[i]? = some x → climbD n d (P.take (i + 1)) = upD (up n i) (climbD n d (P.take i)) x
  | [],_,_,_,_,h=>by cases h
  | y :: P,n,d,0,x,h=>by
    obtain rfl:y = x:=Option.some.inj h
    show climbD (n / 2) (upD n d y) (P.take 0) = _
    rw [List.take_zero,List.take_zero]; unfold up; simp [climbD]
  | y :: P,n,d,i + 1,x,h=>by
    show climbD (n / 2) (upD n d y) (P.take (i + 1)) = upD (up n (i + 1)) (climbD (n / 2) (upD n d y) (P.take i)) x
    rw [climbD_take P (n / 2) (upD n d y) i x h]
    congr 1
    unfold up
    rw [Nat.div_div_eq_div_mul,Nat.pow_succ,Nat.mul_comm 2]
def pathD (L:List Ls) (n k:Nat):List (List UInt8):=(List.range k).map fun i=>ndD L i (sib (up n i))
theorem pathD_length (L:List Ls) (n k:Nat):(pathD L n k).length = k:=by simp [pathD]
theorem pathD_succ (L:List Ls) (n k:Nat):pathD L n (k + 1) = pathD L n k ++ [ndD L k (sib (up n k))]:=by simp [pathD,List.range_succ]
theorem pathD_get {L:List Ls} {n k i:Nat} (h:i < k):(pathD L n k)[i]? = some (ndD L i (sib (up n i))):=by
  unfold pathD; rw [List.getElem?_map,List.getElem?_range h]; rfl
theorem climb_path (L:List Ls) (n k:Nat):∀ m,m ≤ k → climbD n (ndD L 0 n) ((pathD L n k).take m) = ndD L m (up n m)
  | 0,_=>by rw [List.take_zero]; unfold up; simp [climbD]
  | m + 1,h=>by
    rw [climbD_take _ _ _ _ _ (pathD_get (by omega)),climb_path L n k m (by omega),upD_ndD,up_succ]
theorem climb_all (L:List Ls) (n k:Nat):climbD n (ndD L 0 n) (pathD L n k) = ndD L k (up n k):=by
  have:=climb_path L n k k (Nat.le_refl _)
  rwa [List.take_of_length_le (by rw [pathD_length]; exact Nat.le_refl _)] at this
end Tp
end
section
namespace Go.Proofs.YtegfmbefhpagmaaGreatDoor
open Go Eng Gf Sha Sig Wr Cod Cha Rst Tp
set_option maxRecDepth 100000
set_option linter.all false
theorem Buffer_WriteByte_ok (w:World) (b:Nat) (T:TypeId) (a:Option Addr) (c:Nat) (q:List UInt8) (p:UInt8) (hs:∀ r ∈ [bblk b T a q.length c,.row a c 5 1 q.length (bs q)],r.holds w) (hnd:(keys [bblk b T a q.length c,.row a c 5 1 q.length (bs q)]).Nodup)
    (hcase:BufI a c q) (h128:q.length + 1 ≤ 128) :
    Gives Tryz.prog 135 [.pointer (some ⟨b,0,none⟩),B p] w (keys [bblk b T a q.length c,.row a c 5 1 q.length (bs q)]) (fun _:Nat × Nat=>.nilIface)
      (fun x=>[bblk b T (some ⟨x.1,0,none⟩) (q ++ [p]).length x.2,.row (some ⟨x.1,0,none⟩) x.2 5 1 (q ++ [p]).length (bs (q ++ [p]))]) (fun x=>x.2 = 64 ∨ 128 ≤ x.2):=by
  refine enterL Tryz.func135 Tryz.ntmps135 hs hnd ?_
  have hrow:=hs _ (.tail _ (.head _))
  have hqc:q.length ≤ c:=hrow.2.1
  have hcm:c ≤ 9223372036854775807:=by
    rcases hrow.2.2 with ⟨_,h9⟩ | ⟨_,_,_,_,h9,_⟩
    · omega
    · exact h9
  have e1:∀ (a:Option Addr) (m c:Nat),(bufc a m c).setIfInBounds (0 + 2) (.int .i8 0) = bufc a m c:=fun _ _ _=>rfl
  have e2:bs q ++ [B p] = bs (q ++ [p]):=by rw [bs_append]; rfl
  have e3:q.length + 1 = (q ++ [p]).length:=by simp
  refine c_seq<|c_reg<|s_y y_as<|s_nil<|q_then<|c_seq<|c_reg<|s_y y_mv<|s_y y_nc<|s_y y_fa<|s_st (v:=.int .i8 0) (hl:=show 0 + 2 < 3 by decide) ?_
  rw [e1]
  refine s_nil<|q_then<|?_
  rcases hcase with ⟨rfl,rfl,rfl⟩ | ⟨g,rfl,hq0,hc64⟩
  · refine c_seq<|c_reg<|s_y y_mv<|s_pure (fun w' hw=>tryGrow_no w' b none 0 0 1 (rdB (.head _) (fun i v h=>by rw [Nat.zero_add]; simpa using h) w' hw) (by omega) (by omega) (by omega))<|s_y y_mv<|s_y y_ext<|s_y y_ext<|s_y y_as<|s_y y_as<|s_nil<|q_then<|c_seq<|c_seq<|c_reg<|s_y y_mv<|s_y (v:=.bool true) (y_not (b:=false))<|s_nil<|q_then<|c_t<|c_reg<|s_y y_mv<|s_upd (fun w' hw=>growA_ok w' b T 1 (hw.own _ (.head _)).1 (by decide) (by decide)) (fun _=>.head _) (fun g _=>?_)
    refine s_y y_as<|s_nil<|q_then<|?_
    refine c_seq<|c_reg<|s_y y_mv<|s_y y_nc<|s_y y_fa<|s_y (y_ld (v:=.slice (some ⟨g,0,none⟩) 1 64))<|s_y y_mv<|s_y y_mv<|s_y (y_ixb1 (i:=0))<|?_
    rw [show 0 + (0:Int).toNat = 0 from rfl]
    refine s_strE (gb:=g) (i:=0) (cc:=64) (xs:=[]) (v:=B p) (et:=5) (hr:=by repeat (first | exact .head _ | apply Rep.tail)) (hi:=by decide) ?_
    refine s_nil<|q_then<|c_seq<|c_reg<|s_y y_as<|s_nil<|q_then<|c_ret<|?_
    exact ret1 Tryz.results135 rv_t fun w' hw=>⟨(g,64),.inl rfl,rfl,(hw.perm (.swap _ _ _)).sub (.cons_cons _ (.cons_cons _ (List.nil_sublist _)))⟩
  · by_cases hfit:q.length + 1 ≤ c
    · refine c_seq<|c_reg<|s_y y_mv<|s_upd (fun w' hw=>tryGrow_yes w' b T (some ⟨g,0,none⟩) q.length c 1 (hw.own _ (.head _)).1 hfit (by omega)) (fun _=>.head _) (fun _ _=>?_)
      refine s_y y_mv<|s_y y_ext<|s_y y_ext<|s_y y_as<|s_y y_as<|s_nil<|q_then<|c_seq<|c_seq<|c_reg<|s_y y_mv<|s_y (v:=.bool false) (y_not (b:=true))<|s_nil<|q_then<|c_f<|c_skip<|q_then<|?_
      refine c_seq<|c_reg<|s_y y_mv<|s_y y_nc<|s_y y_fa<|s_y (y_ld (v:=.slice (some ⟨g,0,none⟩) (q.length + 1) c))<|s_y y_mv<|s_y y_mv<|s_y (y_ixb1 (i:=q.length))<|?_
      rw [show 0 + ((q.length:Nat):Int).toNat = q.length by omega]
      refine s_strE (gb:=g) (i:=q.length) (cc:=c) (xs:=bs q) (v:=B p) (et:=5) (hr:=by repeat (first | exact .head _ | apply Rep.tail)) (hi:=by omega) ?_
      rw [e2,e3]
      refine s_nil<|q_then<|c_seq<|c_reg<|s_y y_as<|s_nil<|q_then<|c_ret<|?_
      exact ret1 Tryz.results135 rv_t fun w' hw=>⟨(g,c),hc64,rfl,hw⟩
    · have hbg:b ≠ g:=by
        intro e
        subst e
        have:(keys [bblk b T (some ⟨b,0,none⟩) q.length c,.row (some ⟨b,0,none⟩) c 5 1 q.length (bs q)]) = [b,b]:=rfl
        rw [this] at hnd
        simp at hnd
      refine c_seq<|c_reg<|s_y y_mv<|s_pure (fun w' hw=>tryGrow_no w' b (some ⟨g,0,none⟩) q.length c 1 (rdB (.head _) (fun i v h=>by rw [Nat.zero_add]; simpa using h) w' hw) (by omega) (by omega) (by omega))<|s_y y_mv<|s_y y_ext<|s_y y_ext<|s_y y_as<|s_y y_as<|s_nil<|q_then<|c_seq<|c_seq<|c_reg<|s_y y_mv<|s_y (v:=.bool true) (y_not (b:=false))<|s_nil<|q_then<|c_t<|c_reg<|s_y y_mv<|s_upd (fun w' hw=>growB2_ok w' b T g c 1 q (hw.own _ (.head _)).1 (Res.rd (hw.own _ (.tail _ (.head _))).1) hbg hq0 (by decide) hqc (by omega) (by omega) (by omega)) (fun _=>.head _) (fun x hx=>?_)
      refine s_y y_as<|s_nil<|q_then<|?_
      refine c_seq<|c_reg<|s_y y_mv<|s_y y_nc<|s_y y_fa<|s_y (y_ld (v:=.slice (some ⟨x.1,0,none⟩) (q.length + 1) x.2))<|s_y y_mv<|s_y y_mv<|s_y (y_ixb1 (i:=q.length))<|?_
      rw [show 0 + ((q.length:Nat):Int).toNat = q.length by omega]
      refine s_strE (gb:=x.1) (i:=q.length) (cc:=x.2) (xs:=bs q) (v:=B p) (et:=5) (hr:=by repeat (first | exact .head _ | apply Rep.tail)) (hi:=by omega) ?_
      rw [e2,e3]
      refine s_nil<|q_then<|c_seq<|c_reg<|s_y y_as<|s_nil<|q_then<|c_ret<|?_
      exact ret1 Tryz.results135 rv_t fun w' hw=>⟨(x.1,x.2),.inr (by have:=hx.2; show 128 ≤ x.2; omega),rfl,(hw.perm (.swap _ _ _)).sub (.cons_cons _ (.cons_cons _ (List.nil_sublist _)))⟩
theorem numbers_ok (w:World) (b:Nat) (T:TypeId) (a:Option Addr) (c:Nat) (q:List UInt8) (ns:List Nat) (A:Option Addr) (C:Nat) (hs:∀ r ∈ [bblk b T a q.length c,.row a c 5 1 q.length (bs q)],r.holds w) (hnd:(keys [bblk b T a q.length c,.row a c 5 1 q.length (bs q)]).Nodup) (hA:Rd w A (ns.map fun n=>I ((n:Nat):Int))) (hsep:∀ k ∈ keys [bblk b T a q.length c,.row a c 5 1 q.length (bs q)],A.map (·.block) ≠ some k)
    (hn:∀ n ∈ ns,n < 9223372036854775808) (hcase:BufI a c q) (hne:0 < ns.length) (h128:q.length + 8 * ns.length ≤ 128) :
    Gives Tryz.prog 133 [.pointer (some ⟨b,0,none⟩),.slice A ns.length C] w (keys [bblk b T a q.length c,.row a c 5 1 q.length (bs q)]) (fun _:Nat × Nat=>.pointer (some ⟨b,0,none⟩))
      (fun x=>[bblk b T (some ⟨x.1,0,none⟩) (q ++ bey ns).length x.2,.row (some ⟨x.1,0,none⟩) x.2 5 1 (q ++ bey ns).length (bs (q ++ bey ns))]) (fun x=>x.2 = 64 ∨ 128 ≤ x.2):=by
  have hml:ns.length ≤ (ns.map fun n=>I ((n:Nat):Int)).length:=by rw [List.length_map]; exact Nat.le_refl _
  refine enterL Tryz.func133 Tryz.ntmps133 hs hnd ?_
  refine c_seq<|c_reg<|s_y y_as<|s_nil<|q_then<|c_seq<|c_seq<|c_reg<|s_y y_mv<|s_y y_len<|s_y y_mv<|s_nil<|q_then<|c_block<|?_
  refine c_loop3 (fun (k:Nat) (a:Option Addr) (c:Nat)=>[(0,.pointer (some ⟨b,0,none⟩)),(8,.slice A ns.length C),(9,I ns.length),(10,I k)]) (fun k a c=>[bblk b T a (q ++ bey (ns.take k)).length c,.row a c 5 1 (q ++ bey (ns.take k)).length (bs (q ++ bey (ns.take k)))]) (fun k a c=>k ≤ ns.length ∧ BufI a c (q ++ bey (ns.take k))) (fun k _ _=>ns.length - k) 0 a c ⟨by omega,by rw [List.take_zero,show bey [] = [] from rfl,List.append_nil]; exact hcase⟩ ⟨rfl,rfl,rfl,rfl,trivial⟩ (by rw [List.take_zero,show bey [] = [] from rfl,List.append_nil]; exact .refl _) ?_
  rintro k a2 c2 ⟨hk,hI⟩
  by_cases hlt:k < ns.length
  · have hv:(ns.map fun n=>I ((n:Nat):Int))[k]? = some (I ((ns[k]:Nat):Int)):=by rw [List.getElem?_map,List.getElem?_eq_getElem hlt]; rfl
    have hb:=hn ns[k] (List.getElem_mem hlt)
    have hbl:=be_length ns[k] 8
    have hstep:=bey_take ns k hlt
    have hkl:(bey (ns.take k)).length = 8 * k:=by rw [bey_length,List.length_take]; omega
    obtain ⟨z,hz⟩:∃ z,ns[k] = z:=⟨_,rfl⟩
    rw [hz] at hv hb hbl hstep
    obtain ⟨Q,hQ⟩:∃ Q,q ++ bey (ns.take k) = Q:=⟨_,rfl⟩
    have hQs:q ++ bey (ns.take (k + 1)) = Q ++ be z 8:=by rw [hstep,← List.append_assoc,hQ]
    have hQl:Q.length = q.length + 8 * k:=by rw [← hQ,List.length_append,hkl]
    rw [hQ] at hI ⊢
    refine c_seq<|c_reg<|s_kt (y_lss (p:=((k:Nat):Int)) (q:=((ns.length:Nat):Int))) (by omega)<|s_nil<|q_then<|c_seq<|c_t<|c_skip<|q_then<|c_seq<|c_block<|c_seq<|c_reg<|s_y (y_ixs1 (xs:=ns.map fun n=>I ((n:Nat):Int)) (hr:=rdW hA hsep) (hl:=hml))<|s_y (y_ldr (v:=I ((z:Nat):Int)) (xs:=ns.map fun n=>I ((n:Nat):Int)) (i:=(k:Int).toNat) hv (hr:=rdW hA hsep))<|s_y y_as<|s_nil<|q_then<|c_seq<|c_reg<|s_y y_as<|s_nil<|q_then<|c_block<|?_
    refine c_loop3 (fun (j:Nat) (a:Option Addr) (c:Nat)=>[(0,.pointer (some ⟨b,0,none⟩)),(6,I z),(7,I (56 - 8 * (j:Int))),(8,.slice A ns.length C),(9,I ns.length),(10,I k)]) (fun j a c=>[bblk b T a (Q ++ (be z 8).take j).length c,.row a c 5 1 (Q ++ (be z 8).take j).length (bs (Q ++ (be z 8).take j))]) (fun j a c=>j ≤ 8 ∧ BufI a c (Q ++ (be z 8).take j)) (fun j _ _=>8 - j) 0 a2 c2 ⟨by omega,by rw [List.take_zero,List.append_nil]; exact hI⟩ ⟨rfl,rfl,rfl,rfl,rfl,rfl,trivial⟩ (by rw [List.take_zero,List.append_nil]; exact .refl _) ?_
    rintro j a3 c3 ⟨hj,hJ⟩
    by_cases h8:j < 8
    · have hjl:((be z 8).take j).length = j:=by rw [List.length_take]; omega
      refine c_seq<|c_seq<|c_reg<|s_y y_mv<|s_kt (y_geq (p:=56 - 8 * (j:Int)) (q:=0)) (by omega)<|s_nil<|q_then<|c_t<|c_skip<|q_then<|?_
      rw [show (56:Int) - 8 * (j:Int) = ((56 - 8 * j:Nat):Int) by omega]
      refine c_seq<|c_block<|c_regL []<|r_y 0 rfl y_mv<|r_y 1 rfl y_nc<|r_y 2 rfl y_fa<|r_y 3 rfl y_mv<|r_y 4 rfl y_mv<|r_y 5 rfl (y_shr (p:=z) (q:=((56 - 8 * j:Nat):Int)))<|?_
      rw [Int.toNat_natCast]
      refine r_y 6 rfl y_cv8<|?_
      rw [cvn8,show UInt8.ofNat (z / 2 ^ (56 - 8 * j)) = (be z 8).getD j 0 by rw [be_get z 8 j h8,show 8 * (8 - 1 - j) = 56 - 8 * j by omega]]
      refine r_W 7 rfl<|s_updL (ps0:=[bblk b T a3 (Q ++ (be z 8).take j).length c3,.row a3 c3 5 1 (Q ++ (be z 8).take j).length (bs (Q ++ (be z 8).take j))]) (l2:=[]) (.refl _) (fun w' hw=>Buffer_WriteByte_ok w' b T a3 c3 (Q ++ (be z 8).take j) ((be z 8).getD j 0) hw.has.1 hw.has.2 hJ (by rw [List.length_append,hjl,hQl]; omega)) (fun x hx=>?_)
      rw [List.append_assoc,← Eng.take_snoc (be z 8) j 0 (by omega)]
      refine r_K<|r_E<|q_nb<|q_then<|c_reg<|s_y y_mv<|s_y (y_sub (p:=((56 - 8 * j:Nat):Int)) (q:=8))<|?_
      rw [show ((56 - 8 * j:Nat):Int) - 8 = 56 - 8 * ((j + 1:Nat):Int) by omega]
      refine s_y y_as<|s_nil<|q_round3 (x:=j) (y:=a3) (z:=c3) (j + 1) (some ⟨x.1,0,none⟩) x.2 ⟨by omega,BufI.some hx (by rw [List.length_append,List.length_take]; omega)⟩ (by omega) ⟨rfl,rfl,rfl,rfl,rfl,rfl,trivial⟩ (.refl _)
    · obtain rfl:j = 8:=by omega
      rw [List.take_of_length_le (l:=be z 8) (by omega),← hQs] at hJ ⊢
      refine c_seq<|c_seq<|c_reg<|s_y y_mv<|s_kf (y_geq (p:=56 - 8 * ((8:Nat):Int)) (q:=0)) (by omega)<|s_nil<|q_then<|c_f<|c_exit<|q_ex<|q_ex<|q_exb<|q_nb<|q_then<|c_reg<|s_y (y_add (p:=((k:Nat):Int)) (q:=1))<|s_y y_mv<|s_nil<|?_
      rw [show ((k:Nat):Int) + 1 = ((k + 1:Nat):Int) by omega]
      exact q_round3 (x:=k) (y:=a2) (z:=c2) (k + 1) a3 c3 ⟨by omega,hJ⟩ (by omega) ⟨rfl,rfl,rfl,rfl,trivial⟩ (.refl _)
  · obtain rfl:k = ns.length:=by omega
    have hbl:=bey_length ns
    rw [List.take_length] at hI ⊢
    rcases hI with ⟨_,h9,_⟩ | ⟨g,rfl,_,hc⟩
    · have:=congrArg List.length h9
      rw [List.length_append,hbl,List.length_nil] at this
      omega
    · refine c_seq<|c_reg<|s_kf (y_lss (p:=((ns.length:Nat):Int)) (q:=((ns.length:Nat):Int))) (by omega)<|s_nil<|q_then<|c_seq<|c_f<|c_exit<|q_ex<|q_ex<|q_exb<|q_then<|c_seq<|c_reg<|s_y y_mv<|s_y y_as<|s_nil<|q_then<|c_ret<|?_
      exact ret1 Tryz.results133 rv_t fun w' hw=>⟨(g,c2),hc,rfl,hw⟩
theorem flat32_length:∀ Ds:List (List UInt8),(∀ d ∈ Ds,d.length = 32) → Ds.flatten.length = 32 * Ds.length
  | [],_=>rfl
  | d :: Ds,h=>by rw [List.flatten_cons,List.length_append,h d (.head _),flat32_length Ds fun x hx=>h x (.tail _ hx),List.length_cons]; omega
theorem flat32_at:∀ (Ds:List (List UInt8)) (k:Nat) (d:List UInt8),(∀ d ∈ Ds,d.length = 32) → Ds[k]? = some d → ∀ i v,(bs d)[i]? = some v → (bs Ds.flatten)[k * 32 + i]? = some v
  | e :: Ds,0,d,h,hd,i,v,hv=>by
    obtain rfl:e = d:=Option.some.inj hd
    rw [List.flatten_cons,bs_append,Nat.zero_mul,Nat.zero_add,List.getElem?_append_left (List.getElem?_eq_some_iff.1 hv).1]; exact hv
  | e :: Ds,k + 1,d,h,hd,i,v,hv=>by
    rw [List.flatten_cons,bs_append,List.getElem?_append_right (by rw [bs_length,h e (.head _)]; omega),bs_length,h e (.head _),show (k + 1) * 32 + i - 32 = k * 32 + i by omega]
    exact flat32_at Ds k d (fun x hx=>h x (.tail _ hx)) hd i v hv
theorem flat_take {Ds:List (List UInt8)} {k:Nat} {d:List UInt8} (h:Ds[k]? = some d):(Ds.take (k + 1)).flatten = (Ds.take k).flatten ++ d:=by
  rw [List.take_add_one,h,List.flatten_append]; simp
theorem digests_ok (w:World) (b:Nat) (T:TypeId) (a:Option Addr) (c:Nat) (q:List UInt8) (Ds:List (List UInt8)) (A:Option Addr) (C:Nat) (hs:∀ r ∈ [bblk b T a q.length c,.row a c 5 1 q.length (bs q)],r.holds w) (hnd:(keys [bblk b T a q.length c,.row a c 5 1 q.length (bs q)]).Nodup) (hA:Rd w A (bs Ds.flatten)) (hsep:∀ k ∈ keys [bblk b T a q.length c,.row a c 5 1 q.length (bs q)],A.map (·.block) ≠ some k)
    (hn:∀ d ∈ Ds,d.length = 32) (hcase:BufI a c q) (hne:0 < Ds.length) (h128:q.length + 32 * Ds.length ≤ 128) :
    Gives Tryz.prog 151 [.pointer (some ⟨b,0,none⟩),.slice A Ds.length C] w (keys [bblk b T a q.length c,.row a c 5 1 q.length (bs q)]) (fun _:Nat × Nat=>.pointer (some ⟨b,0,none⟩))
      (fun x=>[bblk b T (some ⟨x.1,0,none⟩) (q ++ Ds.flatten).length x.2,.row (some ⟨x.1,0,none⟩) x.2 5 1 (q ++ Ds.flatten).length (bs (q ++ Ds.flatten))]) (fun x=>x.2 = 64 ∨ 128 ≤ x.2):=by
  have hfl:=flat32_length Ds hn
  refine enterL Tryz.func151 Tryz.ntmps151 hs hnd ?_
  refine c_seq<|c_reg<|s_y y_as<|s_nil<|q_then<|c_seq<|c_seq<|c_reg<|s_y y_mv<|s_y y_len<|s_y y_mv<|s_nil<|q_then<|c_block<|?_
  refine c_loop3 (fun (k:Nat) (a:Option Addr) (c:Nat)=>[(0,.pointer (some ⟨b,0,none⟩)),(7,.slice A Ds.length C),(8,I Ds.length),(9,I k)]) (fun k a c=>[bblk b T a (q ++ (Ds.take k).flatten).length c,.row a c 5 1 (q ++ (Ds.take k).flatten).length (bs (q ++ (Ds.take k).flatten))]) (fun k a c=>k ≤ Ds.length ∧ BufI a c (q ++ (Ds.take k).flatten)) (fun k _ _=>Ds.length - k) 0 a c ⟨by omega,by rw [List.take_zero,List.flatten_nil,List.append_nil]; exact hcase⟩ ⟨rfl,rfl,rfl,rfl,trivial⟩ (by rw [List.take_zero,List.flatten_nil,List.append_nil]; exact .refl _) ?_
  rintro k a2 c2 ⟨hk,hI⟩
  by_cases hlt:k < Ds.length
  · obtain ⟨d,hd⟩:∃ d,Ds[k]? = some d:=⟨_,List.getElem?_eq_getElem hlt⟩
    have hdl:=hn d (List.mem_of_getElem? hd)
    have hs32:(bs d).toArray.size = 32:=hz32 hdl
    have hkl:(Ds.take k).flatten.length = 32 * k:=by rw [flat32_length _ fun x hx=>hn x (List.mem_of_mem_take hx),List.length_take]; omega
    obtain ⟨Q,hQ⟩:∃ Q,q ++ (Ds.take k).flatten = Q:=⟨_,rfl⟩
    have hQs:q ++ (Ds.take (k + 1)).flatten = Q ++ d:=by rw [flat_take hd,← List.append_assoc,hQ]
    have hQl:Q.length = q.length + 32 * k:=by rw [← hQ,List.length_append,hkl]
    rw [hQ] at hI ⊢
    refine c_seq<|c_reg<|s_kt (y_lss (p:=((k:Nat):Int)) (q:=((Ds.length:Nat):Int))) (by omega)<|s_nil<|q_then<|c_seq<|c_t<|c_skip<|q_then<|c_seq<|c_block<|c_seq<|c_reg<|s_y (y_ixs (xs:=bs Ds.flatten) (i:=((k:Nat):Int)) (hr:=rdW hA hsep) (hl:=by rw [bs_length,hfl]; omega))<|s_y (y_ldra (i:=k * 32) (cs:=bs d) (rdW hA hsep) (by rw [bs_length,hdl]) (fun j v h=>flat32_at Ds k d hn hd j v h))<|s_alloc fun b6=>s_sta (b:=b6) (vs:=(bs d).toArray) (cs:=(bs (List.replicate 32 0)).toArray) (h1:=fun v hv=>bs_one (by simpa using hv)) (hl:=(hz32 hdl).trans (hz32 List.length_replicate).symm) (hs1:=hz32 hdl) ?_
    refine s_nil<|q_then<|c_regL [.blk b6 (.cells (bs d).toArray 69 (0,0))]<|r_y 0 rfl y_mv<|r_y 1 rfl y_nc<|r_y 2 rfl y_fa<|r_y 3 rfl y_sla<|?_
    refine r_W 4 rfl<|s_updL (ps0:=[bblk b T a2 Q.length c2,.row a2 c2 5 1 Q.length (bs Q)]) (l2:=[.blk b6 (.cells (bs d).toArray 69 (0,0))]) (List.perm_append_comm (l₁:=([.blk b6 (.cells (bs d).toArray 69 (0,0))]:SH))) (fun w' hw=>(by
      have h9:=Buffer_WriteI_ok w' b T a2 c2 Q d (some ⟨b6,0,none⟩) 32 hw.has.1 hw.has.2 (rd_blkB (.tail _ (.tail _ (.head _))) w' hw) (fun k' hk'=>hw.sep (.head _) hk') (by omega) hI (by omega) (by rw [hQl,hdl]; omega)
      rw [hdl] at h9
      exact h9)) (fun x hx=>?_)
    rw [← hQs]
    refine r_K<|r_E<|q_nb<|q_then<|c_reg<|s_y (y_add (p:=((k:Nat):Int)) (q:=1))<|s_y y_mv<|s_nil<|?_
    rw [show ((k:Nat):Int) + 1 = ((k + 1:Nat):Int) by omega]
    exact q_round3 (x:=k) (y:=a2) (z:=c2) (k + 1) (some ⟨x.1,0,none⟩) x.2 ⟨by omega,BufI.some hx (by rw [hQs,List.length_append]; omega)⟩ (by omega) ⟨rfl,rfl,rfl,rfl,trivial⟩ (.cons_cons _ (.cons_cons _ (List.nil_sublist _)))
  · obtain rfl:k = Ds.length:=by omega
    rw [List.take_length] at hI ⊢
    rcases hI with ⟨_,h9,_⟩ | ⟨g,rfl,_,hc⟩
    · have:=congrArg List.length h9
      rw [List.length_append,hfl,List.length_nil] at this
      omega
    · refine c_seq<|c_reg<|s_kf (y_lss (p:=((Ds.length:Nat):Int)) (q:=((Ds.length:Nat):Int))) (by omega)<|s_nil<|q_then<|c_seq<|c_f<|c_exit<|q_ex<|q_ex<|q_exb<|q_then<|c_seq<|c_reg<|s_y y_mv<|s_y y_as<|s_nil<|q_then<|c_ret<|?_
      exact ret1 Tryz.results151 rv_t fun w' hw=>⟨(g,c2),hc,rfl,hw⟩
theorem d_under_ok (w:World) (b:Nat) (a:Option Addr) (c:Nat) (t q:List UInt8) (hb:Rd w (some ⟨b,0,none⟩) (bufc a q.length c).toList) (hr:Rd w a (bs q)) (hg:LS w) (ht:t.length ≤ 1000) (hl:q.length ≤ 1000000) :
    Pure Tryz.prog 134 [.pointer (some ⟨b,0,none⟩),.string (sb t)] w (.agg (bs (tagged t q)).toArray):=by
  refine enter Tryz.func134 Tryz.ntmps134 ?_
  refine c_seq<|c_reg<|s_alloc fun b4=>s_nil<|q_then<|c_seq<|c_reg<|s_y y_mv<|s_y y_mv<|s_y y_nc<|s_y y_fa<|s_pure (fun w' hw=>Buffer_Bytes_ok w' b a q.length c (hb.st hw))<|s_pure (fun w' hw=>digest_Tagged_ok w' t a c q (hg.st hw) (by omega) (hr.st hw) (by omega))<|s_sta (b:=b4) (vs:=(bs (tagged t q)).toArray) (cs:=(bs (List.replicate 32 0)).toArray) (h1:=fun v hv=>bs_one (by simpa using hv)) (hl:=(hz32 (tagged_length _ _)).trans (hz32 List.length_replicate).symm) (hs1:=hz32 (tagged_length _ _)) ?_
  refine s_nil<|q_then<|c_ret<|?_
  exact ret1 Tryz.results134 (rv_ca (hl:=hz32 (tagged_length _ _))) fun w' hw=>⟨rfl,hw.sub (List.nil_sublist _)⟩
end Go.Proofs.YtegfmbefhpagmaaGreatDoor
end
section
namespace Eng
open Go
theorem up2 {a x y:Res} {t:SH}:(x :: y :: a :: t).Perm (a :: x :: y :: t):=List.perm_middle (l₁:=[x,y])
theorem up3 {a x y z:Res} {t:SH}:(x :: y :: z :: a :: t).Perm (a :: x :: y :: z :: t):=List.perm_middle (l₁:=[x,y,z])
theorem two32 {x y:List UInt8} (hx:x.length = 32) (hy:y.length = 32):∀ d ∈ [x,y],d.length = 32:=fun d hd=>by
  rcases List.mem_cons.1 hd with rfl | hd
  · exact hx
  · rw [List.mem_singleton.1 hd]; exact hy
theorem fillK2 {x y:List UInt8} (hx:x.length = 32) (hy:y.length = 32):fillL (fun i=>some (i * 32,32)) (repL 2 (Value.cells (.agg (List.replicate 32 (.int .u8 0)).toArray)).toList) [(0,.agg (bs x).toArray),(1,.agg (bs y).toArray)] = some (bs x ++ bs y):=by
  have e1:(Value.cells (.agg (bs x).toArray)).toList = bs x:=rfl
  have e3:(Value.cells (.agg (bs y).toArray)).toList = bs y:=rfl
  have e2:(repL 2 (Value.cells (.agg (List.replicate 32 (.int .u8 0)).toArray)).toList) = List.replicate 64 (.int .u8 0):=rfl
  rw [e2]
  unfold fillL
  simp only [Nat.zero_mul,e1,bs_length,hx,Nat.zero_add,List.length_replicate]
  rw [show (Nat.beq 32 32 && Nat.ble 32 64) = true from rfl]
  simp only [cond_true,List.take_zero,List.nil_append]
  rw [show List.drop 32 (List.replicate 64 (Value.int .u8 0)) = List.replicate 32 (Value.int .u8 0) from rfl]
  unfold fillL
  simp only [Nat.one_mul,e3,bs_length,hx,hy,List.length_append,List.length_replicate]
  rw [show (Nat.beq 32 32 && Nat.ble (32 + 32) (32 + 32)) = true from rfl]
  simp only [cond_true]
  rw [List.take_append_of_le_length (by rw [bs_length]; omega),List.take_of_length_le (by rw [bs_length]; omega),List.drop_eq_nil_of_le (by rw [List.length_append,bs_length,List.length_replicate]; omega),List.append_nil]
  rfl
end Eng
namespace Go.Proofs.YtegfmbefhpagmaaGreatDoor
open Go Eng Gf Sha Sig Wr Cod Cha Rst Tp
set_option maxRecDepth 100000
set_option linter.all false
theorem leaf_no (w:World) (d v l ver:Int) (gone:Bool) (dn:Nat) (hd:d = ((dn:Nat):Int)) (hd2:dn < 9223372036854775808) (hg:LS w) :
    Pure Tryz.prog 75 [.agg #[I d,I v,I l,I ver,.bool gone],.bool true] w (.agg (bs (emD dn)).toArray):=by
  subst hd
  refine enter Tryz.func75 Tryz.ntmps75 ?_
  refine c_seq<|c_reg<|s_box rfl fun b2=>s_alloc fun b4=>s_nil<|q_then<|c_seq<|c_reg<|s_alloc fun b5=>s_nil<|q_then<|c_nilrow 5 1<|c_seq<|c_seq<|c_reg<|s_y y_mv<|s_nil<|q_then<|c_t<|c_seq<|c_reg<|s_y y_fa<|s_y (y_ld (b:=b2) (v:=I ((dn:Nat):Int)))<|s_bslr (cs:=[I ((dn:Nat):Int)]) fun b9=>?_
  refine s_updL (ps0:=[bblk b5 186 none 0 0,.row none 0 5 1 0 []]) (l2:=[.row (some ⟨b9,0,none⟩) 1 3 1 1 [I ((dn:Nat):Int)],.blk b4 (.cells (bs (List.replicate 32 0)).toArray 69 (0,0)),.blk b2 (.cells #[I ((dn:Nat):Int),I v,I l,I ver,.bool gone] 49 (0,0))]) (up2.trans (.cons _ (.swap _ _ _))) (fun w' hw=>numbers_ok w' b5 186 none 0 [] [dn] (some ⟨b9,0,none⟩) 1 hw.has.1 hw.has.2 (rdR (.tail _ (.tail _ (.head _))) w' hw) (fun k' hk'=>hw.sep (.head _) hk') (one63 hd2) (.inl ⟨rfl,rfl,rfl⟩) (Nat.zero_lt_succ _) (by simp)) (fun x hx=>?_)
  rw [List.nil_append]
  refine s_pure (fun w' hw=>d_under_ok w' b5 (some ⟨x.1,0,none⟩) x.2 lbEmp (bey [dn]) (rdB (.head _) (fun i v h=>by rw [Nat.zero_add]; simpa using h) w' hw) (rdR (.tail _ (.head _)) w' hw) (hg.st hw) (by decide) (by rw [bey_length]; show 8 * 1 ≤ 1000000; decide))<|s_sta (b:=b4) (vs:=(bs (emD dn)).toArray) (cs:=(bs (List.replicate 32 0)).toArray) (h1:=fun v hv=>bs_one (by simpa using hv)) (hl:=(hz32 (tagged_length _ _)).trans (hz32 List.length_replicate).symm) (hs1:=hz32 (tagged_length _ _)) ?_
  refine s_nil<|q_then<|c_ret<|q_ret<|?_
  exact ret1 Tryz.results75 (rv_ca (hl:=hz32 (tagged_length _ _))) fun w' hw=>⟨rfl,hw.sub (List.nil_sublist _)⟩
theorem leaf_yt (w:World) (d v l ver:Nat) (h4:∀ n ∈ [d,v,l,ver],n < 9223372036854775808) (hg:LS w) :
    Pure Tryz.prog 75 [.agg #[I (d:Nat),I (v:Nat),I (l:Nat),I (ver:Nat),.bool true],.bool false] w (.agg (bs (tagged lbLst (bey [d,v,l,ver] ++ [1]))).toArray):=by
  have hbl:(bey [d,v,l,ver]).length = 32:=bey_length _
  refine enter Tryz.func75 Tryz.ntmps75 ?_
  refine c_seq<|c_reg<|s_box rfl fun b2=>s_alloc fun b4=>s_nil<|q_then<|c_seq<|c_reg<|s_alloc fun b5=>s_nil<|q_then<|c_nilrow 5 1<|c_seq<|c_seq<|c_reg<|s_y y_mv<|s_nil<|q_then<|c_f<|c_skip<|q_then<|c_seq<|c_reg<|s_y y_fa<|s_y (y_ld (b:=b2) (v:=I ((d:Nat):Int)))<|s_y y_fa<|s_y (y_ld (b:=b2) (v:=I ((v:Nat):Int)))<|s_y y_fa<|s_y (y_ld (b:=b2) (v:=I ((l:Nat):Int)))<|s_y y_fa<|s_y (y_ld (b:=b2) (v:=I ((ver:Nat):Int)))<|s_bslr (cs:=[I ((d:Nat):Int),I ((v:Nat):Int),I ((l:Nat):Int),I ((ver:Nat):Int)]) fun b20=>?_
  refine s_updL (ps0:=[bblk b5 186 none 0 0,.row none 0 5 1 0 []]) (l2:=[.row (some ⟨b20,0,none⟩) 4 3 1 4 [I ((d:Nat):Int),I ((v:Nat):Int),I ((l:Nat):Int),I ((ver:Nat):Int)],.blk b4 (.cells (bs (List.replicate 32 0)).toArray 69 (0,0)),.blk b2 (.cells #[I ((d:Nat):Int),I ((v:Nat):Int),I ((l:Nat):Int),I ((ver:Nat):Int),.bool true] 49 (0,0))]) (up2.trans (.cons _ (.swap _ _ _))) (fun w' hw=>numbers_ok w' b5 186 none 0 [] [d,v,l,ver] (some ⟨b20,0,none⟩) 4 hw.has.1 hw.has.2 (rdR (.tail _ (.tail _ (.head _))) w' hw) (fun k' hk'=>hw.sep (.head _) hk') h4 (.inl ⟨rfl,rfl,rfl⟩) (Nat.zero_lt_succ _) (by simp)) (fun x hx=>?_)
  rw [List.nil_append]
  refine s_nil<|q_then<|?_
  refine c_seq<|c_seq<|c_reg<|s_y y_fa<|s_y (y_ld (b:=b2) (v:=.bool true))<|s_nil<|q_then<|c_t<|c_reg<|s_y y_fa<|?_
  refine s_updL (ps0:=[bblk b5 186 (some ⟨x.1,0,none⟩) (bey [d,v,l,ver]).length x.2,.row (some ⟨x.1,0,none⟩) x.2 5 1 (bey [d,v,l,ver]).length (bs (bey [d,v,l,ver]))]) (l2:=[.row (some ⟨b20,0,none⟩) 4 3 1 4 [I ((d:Nat):Int),I ((v:Nat):Int),I ((l:Nat):Int),I ((ver:Nat):Int)],.blk b4 (.cells (bs (List.replicate 32 0)).toArray 69 (0,0)),.blk b2 (.cells #[I ((d:Nat):Int),I ((v:Nat):Int),I ((l:Nat):Int),I ((ver:Nat):Int),.bool true] 49 (0,0))]) (.refl _) (fun w' hw=>Buffer_WriteByte_ok w' b5 186 (some ⟨x.1,0,none⟩) x.2 (bey [d,v,l,ver]) 1 hw.has.1 hw.has.2 (BufI.some hx (by rw [hbl]; decide)) (by rw [hbl]; decide)) (fun y hy=>?_)
  refine s_nil<|q_then<|c_seq<|c_reg<|s_pure (fun w' hw=>d_under_ok w' b5 (some ⟨y.1,0,none⟩) y.2 lbLst (bey [d,v,l,ver] ++ [1]) (rdB (.head _) (fun i v h=>by rw [Nat.zero_add]; simpa using h) w' hw) (rdR (.tail _ (.head _)) w' hw) (hg.st hw) (by decide) (by rw [List.length_append,hbl]; decide))<|s_sta (b:=b4) (vs:=(bs (tagged lbLst (bey [d,v,l,ver] ++ [1]))).toArray) (cs:=(bs (List.replicate 32 0)).toArray) (h1:=fun v hv=>bs_one (by simpa using hv)) (hl:=(hz32 (tagged_length _ _)).trans (hz32 List.length_replicate).symm) (hs1:=hz32 (tagged_length _ _)) ?_
  refine s_nil<|q_then<|c_ret<|?_
  exact ret1 Tryz.results75 (rv_ca (hl:=hz32 (tagged_length _ _))) fun w' hw=>⟨rfl,hw.sub (List.nil_sublist _)⟩
theorem leaf_yf (w:World) (d v l ver:Nat) (h4:∀ n ∈ [d,v,l,ver],n < 9223372036854775808) (hg:LS w) :
    Pure Tryz.prog 75 [.agg #[I (d:Nat),I (v:Nat),I (l:Nat),I (ver:Nat),.bool false],.bool false] w (.agg (bs (tagged lbLst (bey [d,v,l,ver] ++ [0]))).toArray):=by
  have hbl:(bey [d,v,l,ver]).length = 32:=bey_length _
  refine enter Tryz.func75 Tryz.ntmps75 ?_
  refine c_seq<|c_reg<|s_box rfl fun b2=>s_alloc fun b4=>s_nil<|q_then<|c_seq<|c_reg<|s_alloc fun b5=>s_nil<|q_then<|c_nilrow 5 1<|c_seq<|c_seq<|c_reg<|s_y y_mv<|s_nil<|q_then<|c_f<|c_skip<|q_then<|c_seq<|c_reg<|s_y y_fa<|s_y (y_ld (b:=b2) (v:=I ((d:Nat):Int)))<|s_y y_fa<|s_y (y_ld (b:=b2) (v:=I ((v:Nat):Int)))<|s_y y_fa<|s_y (y_ld (b:=b2) (v:=I ((l:Nat):Int)))<|s_y y_fa<|s_y (y_ld (b:=b2) (v:=I ((ver:Nat):Int)))<|s_bslr (cs:=[I ((d:Nat):Int),I ((v:Nat):Int),I ((l:Nat):Int),I ((ver:Nat):Int)]) fun b20=>?_
  refine s_updL (ps0:=[bblk b5 186 none 0 0,.row none 0 5 1 0 []]) (l2:=[.row (some ⟨b20,0,none⟩) 4 3 1 4 [I ((d:Nat):Int),I ((v:Nat):Int),I ((l:Nat):Int),I ((ver:Nat):Int)],.blk b4 (.cells (bs (List.replicate 32 0)).toArray 69 (0,0)),.blk b2 (.cells #[I ((d:Nat):Int),I ((v:Nat):Int),I ((l:Nat):Int),I ((ver:Nat):Int),.bool false] 49 (0,0))]) (up2.trans (.cons _ (.swap _ _ _))) (fun w' hw=>numbers_ok w' b5 186 none 0 [] [d,v,l,ver] (some ⟨b20,0,none⟩) 4 hw.has.1 hw.has.2 (rdR (.tail _ (.tail _ (.head _))) w' hw) (fun k' hk'=>hw.sep (.head _) hk') h4 (.inl ⟨rfl,rfl,rfl⟩) (Nat.zero_lt_succ _) (by simp)) (fun x hx=>?_)
  rw [List.nil_append]
  refine s_nil<|q_then<|?_
  refine c_seq<|c_seq<|c_reg<|s_y y_fa<|s_y (y_ld (b:=b2) (v:=.bool false))<|s_nil<|q_then<|c_f<|c_reg<|s_y y_fa<|?_
  refine s_updL (ps0:=[bblk b5 186 (some ⟨x.1,0,none⟩) (bey [d,v,l,ver]).length x.2,.row (some ⟨x.1,0,none⟩) x.2 5 1 (bey [d,v,l,ver]).length (bs (bey [d,v,l,ver]))]) (l2:=[.row (some ⟨b20,0,none⟩) 4 3 1 4 [I ((d:Nat):Int),I ((v:Nat):Int),I ((l:Nat):Int),I ((ver:Nat):Int)],.blk b4 (.cells (bs (List.replicate 32 0)).toArray 69 (0,0)),.blk b2 (.cells #[I ((d:Nat):Int),I ((v:Nat):Int),I ((l:Nat):Int),I ((ver:Nat):Int),.bool false] 49 (0,0))]) (.refl _) (fun w' hw=>Buffer_WriteByte_ok w' b5 186 (some ⟨x.1,0,none⟩) x.2 (bey [d,v,l,ver]) 0 hw.has.1 hw.has.2 (BufI.some hx (by rw [hbl]; decide)) (by rw [hbl]; decide)) (fun y hy=>?_)
  refine s_nil<|q_then<|c_seq<|c_reg<|s_pure (fun w' hw=>d_under_ok w' b5 (some ⟨y.1,0,none⟩) y.2 lbLst (bey [d,v,l,ver] ++ [0]) (rdB (.head _) (fun i v h=>by rw [Nat.zero_add]; simpa using h) w' hw) (rdR (.tail _ (.head _)) w' hw) (hg.st hw) (by decide) (by rw [List.length_append,hbl]; decide))<|s_sta (b:=b4) (vs:=(bs (tagged lbLst (bey [d,v,l,ver] ++ [0]))).toArray) (cs:=(bs (List.replicate 32 0)).toArray) (h1:=fun v hv=>bs_one (by simpa using hv)) (hl:=(hz32 (tagged_length _ _)).trans (hz32 List.length_replicate).symm) (hs1:=hz32 (tagged_length _ _)) ?_
  refine s_nil<|q_then<|c_ret<|?_
  exact ret1 Tryz.results75 (rv_ca (hl:=hz32 (tagged_length _ _))) fun w' hw=>⟨rfl,hw.sub (List.nil_sublist _)⟩
theorem leaf_z (w:World) (z:Ls) (hz:LsRt z) (hg:LS w):Pure Tryz.prog 75 [.agg #[I z.d,I z.v,I z.l,I z.ver,.bool z.gone],.bool false] w (.agg (bs (lsD z)).toArray):=by
  obtain ⟨d,v,l,ver,gone⟩:=z
  obtain ⟨h1,h2,h3,h4⟩:=hz
  obtain ⟨v,rfl,hv⟩:=Wr.el_El (chk_0.1 h2)
  obtain ⟨l,rfl,hl⟩:=Wr.el_El (chk_0.1 h3)
  obtain ⟨d,rfl⟩:∃ n:Nat,d = (n:Int):=⟨d.toNat,by simp only at h1; omega⟩
  obtain ⟨ver,rfl⟩:∃ n:Nat,ver = (n:Int):=⟨ver.toNat,by simp only at h4; omega⟩
  simp only at h1 h4
  have hn:∀ n ∈ [d,v,l,ver],n < 9223372036854775808:=by
    intro n hn
    simp only [List.mem_cons,List.not_mem_nil,or_false] at hn
    rcases hn with rfl | rfl | rfl | rfl
    · omega
    · exact hv.l63
    · exact hl.l63
    · omega
  cases gone with
  | true=>exact leaf_yt w d v l ver hn hg
  | false=>exact leaf_yf w d v l ver hn hg
theorem pair_ok (w:World) (x y:List UInt8) (hx:x.length = 32) (hy:y.length = 32) (hg:LS w):Pure Tryz.prog 131 [.agg (bs x).toArray,.agg (bs y).toArray] w (.agg (bs (pairD x y)).toArray):=by
  have h64:(bs x ++ bs y).length = 64:=by rw [List.length_append,bs_length,bs_length,hx,hy]
  have hfl:[x,y].flatten = x ++ y:=by simp
  refine enter Tryz.func131 Tryz.ntmps131 ?_
  refine c_seq<|c_reg<|s_box rfl fun b2=>s_box rfl fun b3=>s_alloc fun b4=>s_nil<|q_then<|c_seq<|c_reg<|s_alloc fun b5=>s_nil<|q_then<|c_nilrow 5 1<|c_seq<|c_reg<|s_y (y_lda (b:=b2) (cs:=(bs x).toArray) (hl:=hz32 hx))<|s_y (y_lda (b:=b3) (cs:=(bs y).toArray) (hl:=hz32 hy))<|s_bslr (cs:=bs x ++ bs y) (hf:=fillK2 hx hy) (hsz:=h64) fun b8=>?_
  rw [← bs_append,← hfl]
  refine s_updL (ps0:=[bblk b5 186 none 0 0,.row none 0 5 1 0 []]) (l2:=[.row (some ⟨b8,0,none⟩) 2 69 32 2 (bs [x,y].flatten),.blk b4 (.cells (bs (List.replicate 32 0)).toArray 69 (0,0)),.blk b3 (.cells (bs y).toArray 69 (0,0)),.blk b2 (.cells (bs x).toArray 69 (0,0))]) (up2.trans (.cons _ (.swap _ _ _))) (fun w' hw=>digests_ok w' b5 186 none 0 [] [x,y] (some ⟨b8,0,none⟩) 2 hw.has.1 hw.has.2 (rdR (.tail _ (.tail _ (.head _))) w' hw) (fun k' hk'=>hw.sep (.head _) hk') (two32 hx hy) (.inl ⟨rfl,rfl,rfl⟩) (Nat.zero_lt_succ _) (by simp)) (fun z hz=>?_)
  rw [List.nil_append,hfl]
  refine s_pure (fun w' hw=>d_under_ok w' b5 (some ⟨z.1,0,none⟩) z.2 lbPair (x ++ y) (rdB (.head _) (fun i v h=>by rw [Nat.zero_add]; simpa using h) w' hw) (rdR (.tail _ (.head _)) w' hw) (hg.st hw) (by decide) (by rw [List.length_append]; omega))<|s_sta (b:=b4) (vs:=(bs (pairD x y)).toArray) (cs:=(bs (List.replicate 32 0)).toArray) (h1:=fun v hv=>bs_one (by simpa using hv)) (hl:=(hz32 (tagged_length _ _)).trans (hz32 List.length_replicate).symm) (hs1:=hz32 (tagged_length _ _)) ?_
  refine s_nil<|q_then<|c_ret<|?_
  exact ret1 Tryz.results131 (rv_ca (hl:=hz32 (tagged_length _ _))) fun w' hw=>⟨rfl,hw.sub (List.nil_sublist _)⟩
end Go.Proofs.YtegfmbefhpagmaaGreatDoor
end
section
namespace Tp
open Go Eng Gf Sha Sig Wr Cod Cha Rst Go.Proofs.YtegfmbefhpagmaaGreatDoor
theorem fidx_some {L:List Ls} {d:Int} {z:Ls} (h:lsAt L d = some z):∃ i:Nat,L[i]? = some z ∧ fidx (fun x:Ls=>decide (x.d = d)) L = (i:Int):=by
  obtain ⟨h1,i,hi,h2,h3⟩:=List.find?_eq_some_iff_getElem.1 h
  refine ⟨i,by rw [List.getElem?_eq_getElem hi,h2],fidx_hit (d:=default) hi (fun j hj=>?_) ?_⟩
  · rw [List.getD_eq_getElem?_getD,List.getElem?_eq_getElem (by omega)]
    have:=h3 j hj
    simpa using this
  · rw [List.getD_eq_getElem?_getD,List.getElem?_eq_getElem hi,h2]
    exact h1
theorem fidx_non {L:List Ls} {d:Int} (h:lsAt L d = none):fidx (fun x:Ls=>decide (x.d = d)) L = -1 :=
  fidx_none (d:=default) fun j hj=>by
    have:=List.find?_eq_none.1 h (L[j]'hj) (List.getElem_mem hj)
    rw [List.getD_eq_getElem?_getD,List.getElem?_eq_getElem hj]
    simpa using this
end Tp
namespace Go.Proofs.YtegfmbefhpagmaaGreatDoor
open Go Eng Gf Sha Sig Wr Cod Cha Rst Tp
set_option maxRecDepth 100000
set_option linter.all false
theorem of1_ok (w:World) (b:Nat) (dev:Int) (z:Ls) (hb:Rd w (some ⟨b,0,none⟩) [I dev]):Pure Tryz.prog 100 ([.agg z.cell.toArray] ++ [.pointer (some ⟨b,0,none⟩)]) w (.bool (decide (z.d = dev))):=by
  obtain ⟨d,v,l,ver,gone⟩:=z
  refine enter Tryz.func100 Tryz.ntmps100 ?_
  refine c_seq<|c_reg<|s_box rfl fun b2=>s_y y_as<|s_nil<|q_then<|c_seq<|c_reg<|s_y y_fa<|s_y (y_ld (b:=b2) (v:=I d))<|s_y (y_ldr (a:=some ⟨b,0,none⟩) (i:=0) (xs:=[I dev]) (v:=I dev) rfl (hr:=rdW0 hb))<|s_y (y_eql (p:=d) (q:=dev))<|s_y y_as<|s_nil<|q_then<|c_ret<|?_
  exact ret1 Tryz.results100 rv_t fun w' hw=>⟨rfl,hw.sub (List.nil_sublist _)⟩
theorem of_some (w:World) (L:List Ls) (dev:Int) (la:Option Addr) (lc:Nat) (hr:Rd w la (lsc L)) (hl:L.length ≤ 1000000) (z:Ls) (hz:lsAt L dev = some z) :
    Pure Tryz.prog 38 [.slice la L.length lc,I dev] w (.tuple #[.agg #[I z.d,I z.v,I z.l,I z.ver,.bool z.gone],.bool true]):=by
  obtain ⟨i,hi,hf⟩:=fidx_some hz
  have hil:=(List.getElem?_eq_some_iff.1 hi).1
  refine enter Tryz.func38 Tryz.ntmps38 ?_
  refine c_seq<|c_reg<|s_box rfl fun b3=>s_alloc fun b4=>s_y y_as<|s_nil<|q_then<|c_seq<|c_reg<|s_y y_mv<|s_y y_func<|s_pure (fun w' hw=>(by
    have h9:=IxF_Ls w' la lc L 100 [.pointer (some ⟨b3,0,none⟩)] (fun x:Ls=>decide (x.d = dev)) (hr.st hw) (by omega) (fun x _ w2 h2=>of1_ok w2 b3 dev x (((rdB (xs:=[I dev]) (.tail _ (.head _)) (fun i v h=>by rw [Nat.zero_add]; show (#[I dev])[i]? = some v; simpa using h) w' hw:Rd w' _ _)).st h2))
    rw [hf] at h9
    exact h9))<|s_y y_as<|s_nil<|q_then<|c_seq<|c_seq<|c_reg<|s_y y_mv<|s_kf (y_lss (p:=((i:Nat):Int)) (q:=0)) (by omega)<|s_nil<|q_then<|c_f<|c_skip<|q_then<|c_seq<|c_reg<|s_y y_mv<|s_y y_mv<|s_y (y_ixs (xs:=lsc L) (i:=((i:Nat):Int)) (hr:=rdW0 hr) (hl:=by rw [lsc_length]; omega))<|s_y (y_ldra (i:=i * 5) (cs:=[I z.d,I z.v,I z.l,I z.ver,.bool z.gone]) (rdW0 hr) rfl (fun j v h=>lsc_at hi h))<|s_sta (b:=b4) (vs:=#[I z.d,I z.v,I z.l,I z.ver,.bool z.gone]) (cs:=#[I 0,I 0,I 0,I 0,.bool false]) (h1:=one_allA rfl) (hl:=rfl) (hs1:=rfl) ?_
  refine s_y y_as<|s_nil<|q_then<|c_ret<|?_
  exact ret2 Tryz.results38 (rv_ca (b:=b4) (cs:=#[I z.d,I z.v,I z.l,I z.ver,.bool z.gone]) (hl:=rfl)) rv_t fun w' hw=>⟨rfl,hw.sub (List.nil_sublist _)⟩
theorem of_none (w:World) (L:List Ls) (dev:Int) (la:Option Addr) (lc:Nat) (hr:Rd w la (lsc L)) (hl:L.length ≤ 1000000) (hz:lsAt L dev = none) :
    Pure Tryz.prog 38 [.slice la L.length lc,I dev] w (.tuple #[.agg #[I dev,I 0,I 0,I 0,.bool false],.bool false]):=by
  have hf:=fidx_non hz
  refine enter Tryz.func38 Tryz.ntmps38 ?_
  refine c_seq<|c_reg<|s_box rfl fun b3=>s_alloc fun b4=>s_y y_as<|s_nil<|q_then<|c_seq<|c_reg<|s_y y_mv<|s_y y_func<|s_pure (fun w' hw=>(by
    have h9:=IxF_Ls w' la lc L 100 [.pointer (some ⟨b3,0,none⟩)] (fun x:Ls=>decide (x.d = dev)) (hr.st hw) (by omega) (fun x _ w2 h2=>of1_ok w2 b3 dev x (((rdB (xs:=[I dev]) (.tail _ (.head _)) (fun i v h=>by rw [Nat.zero_add]; show (#[I dev])[i]? = some v; simpa using h) w' hw:Rd w' _ _)).st h2))
    rw [hf] at h9
    exact h9))<|s_y y_as<|s_nil<|q_then<|c_seq<|c_seq<|c_reg<|s_y y_mv<|s_kt (y_lss (p:=-1) (q:=0)) (by omega)<|s_nil<|q_then<|c_t<|c_seq<|c_reg<|s_y (y_ld (b:=b3) (v:=I dev))<|s_y (y_blst (cs:=[I dev,I 0,I 0,I 0,.bool false]))<|s_sta (b:=b4) (vs:=#[I dev,I 0,I 0,I 0,.bool false]) (cs:=#[I 0,I 0,I 0,I 0,.bool false]) (h1:=one_allA rfl) (hl:=rfl) (hs1:=rfl) ?_
  refine s_y y_as<|s_nil<|q_then<|c_ret<|q_ret<|?_
  exact ret2 Tryz.results38 (rv_ca (b:=b4) (cs:=#[I dev,I 0,I 0,I 0,.bool false]) (hl:=rfl)) rv_t fun w' hw=>⟨rfl,hw.sub (List.nil_sublist _)⟩
abbrev atV (b1 b3:Nat):Value:=.func (.func 130) #[] #[.pointer (some ⟨b1,0,none⟩),.pointer (some ⟨b3,0,none⟩)]
theorem hashed_ok (w:World) (la:Option Addr) (n lc:Nat):Gives Tryz.prog 73 [.slice la n lc] w [] (fun y:Nat × Nat=>atV y.1 y.2) (fun y=>[.blk y.2 (.cells #[atV y.1 y.2] 142 (0,0)),.blk y.1 (.cells #[.slice la n lc] 33 (0,0))]) (fun _=>True):=by
  refine enter Tryz.func73 Tryz.ntmps73 ?_
  refine c_seq<|c_reg<|s_box rfl fun b1=>s_y y_as<|s_nil<|q_then<|c_seq<|c_reg<|s_alloc fun b3=>s_nil<|q_then<|c_seq<|c_reg<|s_y y_func<|s_st (b:=b3) (v:=atV b1 b3) (cs:=#[.nilFunc]) (hl:=by decide) ?_
  refine s_nil<|q_then<|c_seq<|c_reg<|s_y (y_ld (b:=b3) (v:=atV b1 b3))<|s_y y_as<|s_nil<|q_then<|c_ret<|?_
  exact ret1 Tryz.results73 rv_t fun w' hw=>⟨(b1,b3),trivial,rfl,hw⟩
theorem at_ok (L:List Ls) (la:Option Addr) (lc b1 b3:Nat) (hl:L.length ≤ 1000000) (hz:∀ z ∈ L,LsRt z):∀ (k:Nat) (w:World) (node:Nat),2 ^ (9 - k) ≤ node → node < 2 ^ (10 - k) → k ≤ 9 → LS w → Rd w la (lsc L) → Rd w (some ⟨b1,0,none⟩) [.slice la L.length lc] → Rd w (some ⟨b3,0,none⟩) [atV b1 b3] →
    Pure Tryz.prog 130 [I (node:Nat),.pointer (some ⟨b1,0,none⟩),.pointer (some ⟨b3,0,none⟩)] w (.agg (bs (ndD L k node)).toArray)
  | 0,w,node,h1,h2,h3,hg,hr,hb1,hb3=>by
    obtain ⟨dev,rfl⟩:∃ d,node = 512 + d:=⟨node - 512,by simp at h1; omega⟩
    have hdv:dev < 512:=by simp at h2; omega
    refine enter Tryz.func130 Tryz.ntmps130 ?_
    refine c_seq<|c_reg<|s_alloc fun b4=>s_nil<|q_then<|c_seq<|c_seq<|c_reg<|s_y y_mv<|s_kt (y_geq (p:=((512 + dev:Nat):Int)) (q:=512)) (by omega)<|s_nil<|q_then<|c_t<|c_seq<|c_reg<|s_y (y_ldr (a:=some ⟨b1,0,none⟩) (i:=0) (xs:=[.slice la L.length lc]) (v:=.slice la L.length lc) rfl (hr:=rdW0 hb1))<|s_y y_mv<|s_y (y_sub (p:=((512 + dev:Nat):Int)) (q:=512))<|?_
    rw [show ((512 + dev:Nat):Int) - 512 = ((dev:Nat):Int) by omega]
    cases hat:lsAt L ((dev:Nat):Int) with
    | some z =>
      have e:ndD L 0 (512 + dev) = lsD z:=by rw [ndD,Nat.add_sub_cancel_left,lfD,hat]
      have hzz:=hz z (List.mem_of_find?_eq_some hat)
      rw [e]
      refine s_pure (fun w' hw=>of_some w' L ((dev:Nat):Int) la lc (hr.st hw) hl z hat)<|s_y y_mv<|s_y y_ext<|s_y y_ext<|s_alloc fun b5=>s_sta (b:=b5) (vs:=#[I z.d,I z.v,I z.l,I z.ver,.bool z.gone]) (cs:=#[I 0,I 0,I 0,I 0,.bool false]) (h1:=one_allA rfl) (hl:=rfl) (hs1:=rfl) ?_
      refine s_y y_as<|s_nil<|q_then<|c_seq<|c_reg<|s_y (y_lda (b:=b5) (cs:=#[I z.d,I z.v,I z.l,I z.ver,.bool z.gone]) (hl:=rfl))<|s_y y_mv<|s_y (v:=.bool false) (y_not (b:=true))<|s_pure (fun w' hw=>leaf_z w' z hzz (hg.st hw))<|s_sta (b:=b4) (vs:=(bs (lsD z)).toArray) (cs:=(bs (List.replicate 32 0)).toArray) (h1:=fun v hv=>bs_one (by simpa using hv)) (hl:=(hz32 (lsD_length _)).trans (hz32 List.length_replicate).symm) (hs1:=hz32 (lsD_length _)) ?_
      refine s_nil<|q_then<|c_ret<|q_ret<|?_
      exact ret1 Tryz.results130 (rv_ca (hl:=hz32 (lsD_length _))) fun w' hw=>⟨rfl,hw.sub (List.nil_sublist _)⟩
    | none =>
      have e:ndD L 0 (512 + dev) = emD dev:=by rw [ndD,Nat.add_sub_cancel_left,lfD,hat]
      rw [e]
      refine s_pure (fun w' hw=>of_none w' L ((dev:Nat):Int) la lc (hr.st hw) hl hat)<|s_y y_mv<|s_y y_ext<|s_y y_ext<|s_alloc fun b5=>s_sta (b:=b5) (vs:=#[I ((dev:Nat):Int),I 0,I 0,I 0,.bool false]) (cs:=#[I 0,I 0,I 0,I 0,.bool false]) (h1:=one_allA rfl) (hl:=rfl) (hs1:=rfl) ?_
      refine s_y y_as<|s_nil<|q_then<|c_seq<|c_reg<|s_y (y_lda (b:=b5) (cs:=#[I ((dev:Nat):Int),I 0,I 0,I 0,.bool false]) (hl:=rfl))<|s_y y_mv<|s_y (v:=.bool true) (y_not (b:=false))<|s_pure (fun w' hw=>leaf_no w' ((dev:Nat):Int) 0 0 0 false dev rfl (by omega) (hg.st hw))<|s_sta (b:=b4) (vs:=(bs (emD dev)).toArray) (cs:=(bs (List.replicate 32 0)).toArray) (h1:=fun v hv=>bs_one (by simpa using hv)) (hl:=(hz32 (emD_length _)).trans (hz32 List.length_replicate).symm) (hs1:=hz32 (emD_length _)) ?_
      refine s_nil<|q_then<|c_ret<|q_ret<|?_
      exact ret1 Tryz.results130 (rv_ca (hl:=hz32 (emD_length _))) fun w' hw=>⟨rfl,hw.sub (List.nil_sublist _)⟩
  | k + 1,w,node,h1,h2,h3,hg,hr,hb1,hb3=>by
    have hp1:2 ^ (9 - k) = 2 * 2 ^ (9 - (k + 1)):=by rw [show 9 - k = 9 - (k + 1) + 1 by omega,Nat.pow_succ]; omega
    have hp2:2 ^ (10 - k) = 2 * 2 ^ (10 - (k + 1)):=by rw [show 10 - k = 10 - (k + 1) + 1 by omega,Nat.pow_succ]; omega
    have hn5:node < 512:=Nat.lt_of_lt_of_le h2 (Nat.le_trans (Nat.pow_le_pow_right (by decide) (show 10 - (k + 1) ≤ 9 by omega)) (by decide))
    have hl1:=ndD_length L k (2 * node)
    have hl2:=ndD_length L k (2 * node + 1)
    have hpl:(pairD (ndD L k (2 * node)) (ndD L k (2 * node + 1))).length = 32:=pairD_length _ _
    have ih:=at_ok L la lc b1 b3 hl hz k
    rw [show ndD L (k + 1) node = pairD (ndD L k (2 * node)) (ndD L k (2 * node + 1)) from rfl]
    refine enter Tryz.func130 Tryz.ntmps130 ?_
    refine c_seq<|c_reg<|s_alloc fun b4=>s_nil<|q_then<|c_seq<|c_seq<|c_reg<|s_y y_mv<|s_kf (y_geq (p:=((node:Nat):Int)) (q:=512)) (by omega)<|s_nil<|q_then<|c_f<|c_skip<|q_then<|c_seq<|c_regL []<|r_y 0 rfl (y_ldr (a:=some ⟨b3,0,none⟩) (i:=0) (xs:=[atV b1 b3]) (v:=atV b1 b3) rfl (hr:=rdW0 hb3))<|r_y 1 rfl y_mv<|r_y 2 rfl (y_mul (p:=2) (q:=((node:Nat):Int)))<|r_y 4 rfl (y_ldr (a:=some ⟨b3,0,none⟩) (i:=0) (xs:=[atV b1 b3]) (v:=atV b1 b3) rfl (hr:=rdW0 hb3))<|r_y 5 rfl y_mv<|r_y 6 rfl (y_mul (p:=2) (q:=((node:Nat):Int)))<|r_y 7 rfl (y_add (p:=2 * ((node:Nat):Int)) (q:=1))<|?_
    rw [show 2 * ((node:Nat):Int) + 1 = ((2 * node + 1:Nat):Int) by omega,show 2 * ((node:Nat):Int) = ((2 * node:Nat):Int) by omega]
    refine r_W 3 rfl<|s_pure (fun w' hw=>ih w' (2 * node) (by omega) (by omega) (by omega) (hg.st hw) (hr.st hw) (hb1.st hw) (hb3.st hw))<|r_K<|r_W 8 rfl<|s_pure (fun w' hw=>ih w' (2 * node + 1) (by omega) (by omega) (by omega) (hg.st hw) (hr.st hw) (hb1.st hw) (hb3.st hw))<|r_K<|r_W 9 rfl<|s_pure (fun w' hw=>pair_ok w' (ndD L k (2 * node)) (ndD L k (2 * node + 1)) hl1 hl2 (hg.st hw))<|r_K<|r_W 10 rfl<|s_sta (b:=b4) (vs:=(bs (pairD (ndD L k (2 * node)) (ndD L k (2 * node + 1)))).toArray) (cs:=(bs (List.replicate 32 0)).toArray) (h1:=fun v hv=>bs_one (by simpa using hv)) (hl:=(hz32 hpl).trans (hz32 List.length_replicate).symm) (hs1:=hz32 hpl) ?_
    refine r_K<|r_E<|q_then<|c_ret<|?_
    exact ret1 Tryz.results130 (rv_ca (hl:=hz32 hpl)) fun w' hw=>⟨rfl,hw.sub (List.nil_sublist _)⟩
theorem Digest_ok (w:World) (L:List Ls) (la:Option Addr) (lc:Nat) (hl:L.length ≤ 1000000) (hz:∀ z ∈ L,LsRt z) (hg:LS w) (hr:Rd w la (lsc L)):Pure Tryz.prog 104 [.slice la L.length lc] w (.agg (bs (ndD L 9 1)).toArray):=by
  have hpl:=ndD_length L 9 1
  refine enter Tryz.func104 Tryz.ntmps104 ?_
  refine c_seq<|c_reg<|s_alloc fun b2=>s_nil<|q_then<|c_seq<|c_reg<|s_y y_mv<|s_gives (fun w' hw=>hashed_ok w' la L.length lc) fun x _=>s_pure (v:=.agg (bs (ndD L 9 1)).toArray) (fun w' hw=>at_ok L la lc x.1 x.2 hl hz 9 w' 1 (by decide) (by decide) (by decide) (hg.st hw) (hr.st hw) (rdB (xs:=[.slice la L.length lc]) (.tail _ (.head _)) (fun i v h=>by rw [Nat.zero_add]; simpa using h) w' hw) (rdB (xs:=[atV x.1 x.2]) (.head _) (fun i v h=>by rw [Nat.zero_add]; simpa using h) w' hw))<|s_sta (b:=b2) (vs:=(bs (ndD L 9 1)).toArray) (cs:=(bs (List.replicate 32 0)).toArray) (h1:=fun v hv=>bs_one (by simpa using hv)) (hl:=(hz32 hpl).trans (hz32 List.length_replicate).symm) (hs1:=hz32 hpl) ?_
  refine s_nil<|q_then<|c_ret<|?_
  exact ret1 Tryz.results104 (rv_ca (hl:=hz32 hpl)) fun w' hw=>⟨rfl,hw.sub (List.nil_sublist _)⟩
end Go.Proofs.YtegfmbefhpagmaaGreatDoor
end
section
namespace Eng
open Go
end Eng
namespace Tp
open Go Eng Gf Sha Sig Wr Cod Cha Rst Go.Proofs.YtegfmbefhpagmaaGreatDoor
theorem rc_dg {x:Rt} {j:Nat} {v:Value} (h:(bs x.dg)[j]? = some v):x.cell.toArray[1 + j]? = some v:=by
  rw [List.getElem?_toArray,Nat.add_comm]
  show (bs x.dg ++ (bs x.pv ++ [I x.r,I x.s]))[j]? = some v
  rw [List.getElem?_append_left (List.getElem?_eq_some_iff.1 h).1]; exact h
theorem rc_off {x:Rt} (hx:RtOk x) (j:Nat):x.cell.toArray[33 + j]? = (bs x.pv ++ [I x.r,I x.s])[j]?:=by
  rw [List.getElem?_toArray,show 33 + j = (32 + j) + 1 by omega]
  show (bs x.dg ++ (bs x.pv ++ [I x.r,I x.s]))[32 + j]? = _
  rw [List.getElem?_append_right (by rw [bs_length,hx.dg]; omega),bs_length,hx.dg,Nat.add_sub_cancel_left]
theorem rc_pv {x:Rt} (hx:RtOk x) {j:Nat} {v:Value} (h:(bs x.pv)[j]? = some v):x.cell.toArray[33 + j]? = some v:=by
  rw [rc_off hx,List.getElem?_append_left (List.getElem?_eq_some_iff.1 h).1]; exact h
theorem rc_r {x:Rt} (hx:RtOk x):x.cell.toArray[0 + 65 + 0]? = some (I ((x.r:Nat):Int)):=by
  have:=rc_off hx 32
  rw [List.getElem?_append_right (by rw [bs_length,hx.pv]; omega),bs_length,hx.pv] at this
  exact this
theorem rc_s {x:Rt} (hx:RtOk x):x.cell.toArray[0 + 65 + 1]? = some (I ((x.s:Nat):Int)):=by
  have:=rc_off hx 33
  rw [List.getElem?_append_right (by rw [bs_length,hx.pv]; omega),bs_length,hx.pv] at this
  exact this
end Tp
namespace Go.Proofs.YtegfmbefhpagmaaGreatDoor
open Go Eng Gf Sha Sig Wr Cod Cha Rst Tp
set_option maxRecDepth 100000
set_option linter.all false
theorem message_ok (w:World) (x:Rt) (hx:RtOk x):Gives Tryz.prog 106 [.agg x.cell.toArray] w [] (fun y:Nat × Nat × Nat=>.pointer (some ⟨y.1,0,none⟩)) (fun y=>[bblk y.1 186 (some ⟨y.2.1,0,none⟩) (rtM x).length y.2.2,.row (some ⟨y.2.1,0,none⟩) y.2.2 5 1 (rtM x).length (bs (rtM x))]) (fun y=>y.2.2 = 64 ∨ 128 ≤ y.2.2):=by
  have h64:(bs x.dg ++ bs x.pv).length = 64:=by rw [List.length_append,bs_length,bs_length,hx.dg,hx.pv]
  have hfl:[x.dg,x.pv].flatten = x.dg ++ x.pv:=by simp
  have hb8:(bey [x.no]).length = 8:=bey_length _
  have hno:=hx.no
  have hM:bey [x.no] ++ [x.dg,x.pv].flatten = rtM x:=by rw [bey_one,hfl,← List.append_assoc]; rfl
  refine enter Tryz.func106 Tryz.ntmps106 ?_
  refine c_seq<|c_reg<|s_box rfl fun b1=>s_y y_as<|s_nil<|q_then<|c_seq<|c_reg<|s_alloc fun b3=>s_nil<|q_then<|c_nilrow 5 1<|c_seq<|?_
  refine c_regL [.blk b1 (.cells x.cell.toArray 71 (0,0))]<|r_y 0 rfl y_fa<|r_y 1 rfl (y_ld (b:=b1) (v:=I ((x.no:Nat):Int)))<|r_y 4 rfl y_fa<|r_y 5 rfl (y_ldin (b:=b1) (off:=1) (cs:=x.cell.toArray) (ys:=bs x.dg) (hl:=by rw [bs_length,hx.dg]) (hv:=fun j v h=>rc_dg h))<|r_y 6 rfl y_fa<|r_y 7 rfl (y_ldin (b:=b1) (off:=33) (cs:=x.cell.toArray) (ys:=bs x.pv) (hl:=by rw [bs_length,hx.pv]) (hv:=fun j v h=>rc_pv hx h))<|r_w2 2 8 rfl rfl ?_ ?_ (hsub:=by repeat (first | exact List.nil_sublist _ | exact List.Sublist.refl _ | apply List.Sublist.cons_cons | apply List.Sublist.cons))
  · refine s_bslr (cs:=[I ((x.no:Nat):Int)]) fun b6=>?_
    refine r_K<|r_w2 3 8 rfl rfl ?_ ?_ (hsub:=by repeat (first | exact List.nil_sublist _ | exact List.Sublist.refl _ | apply List.Sublist.cons_cons | apply List.Sublist.cons))
    · refine s_updL (ps0:=[bblk b3 186 none 0 0,.row none 0 5 1 0 []]) (l2:=[.row (some ⟨b6,0,none⟩) 1 3 1 1 [I ((x.no:Nat):Int)],.blk b1 (.cells x.cell.toArray 71 (0,0))]) (List.Perm.trans (.swap _ _ _) up2) (fun w' hw=>numbers_ok w' b3 186 none 0 [] [x.no] (some ⟨b6,0,none⟩) 1 hw.has.1 hw.has.2 (rdR (.tail _ (.tail _ (.head _))) w' hw) (fun k' hk'=>hw.sep (.head _) hk') (one63 (by omega)) (.inl ⟨rfl,rfl,rfl⟩) (Nat.zero_lt_succ _) (by simp)) (fun y hy=>?_)
      rw [List.nil_append]
      refine r_K<|r_W 8 rfl<|s_bslr (cs:=bs x.dg ++ bs x.pv) (hf:=fillK2 hx.dg hx.pv) (hsz:=h64) fun b12=>?_
      rw [← bs_append,← hfl]
      refine r_K<|r_W 9 rfl<|s_updL (ps0:=[bblk b3 186 (some ⟨y.1,0,none⟩) (bey [x.no]).length y.2,.row (some ⟨y.1,0,none⟩) y.2 5 1 (bey [x.no]).length (bs (bey [x.no]))]) (l2:=[.row (some ⟨b12,0,none⟩) 2 69 32 2 (bs [x.dg,x.pv].flatten),.row (some ⟨b6,0,none⟩) 1 3 1 1 [I ((x.no:Nat):Int)],.blk b1 (.cells x.cell.toArray 71 (0,0))]) (up2.trans up2) (fun w' hw=>digests_ok w' b3 186 (some ⟨y.1,0,none⟩) y.2 (bey [x.no]) [x.dg,x.pv] (some ⟨b12,0,none⟩) 2 hw.has.1 hw.has.2 (rdR (.tail _ (.tail _ (.head _))) w' hw) (fun k' hk'=>hw.sep (.head _) hk') (two32 hx.dg hx.pv) (BufI.some hy (by rw [hb8]; decide)) (Nat.zero_lt_succ _) (by rw [hb8]; simp)) (fun z hz=>?_)
      rw [hM]
      refine r_K<|r_y 10 rfl y_as<|r_E<|q_then<|c_ret<|?_
      exact ret1 Tryz.results106 rv_t fun w' hw=>⟨(b3,z.1,z.2),hz,rfl,hw.sub (.cons_cons _ (.cons_cons _ (List.nil_sublist _)))⟩
    · refine s_bslr (cs:=bs x.dg ++ bs x.pv) (hf:=fillK2 hx.dg hx.pv) (hsz:=h64) fun b12=>?_
      rw [← bs_append,← hfl]
      refine r_K<|r_W 3 rfl<|s_updL (ps0:=[bblk b3 186 none 0 0,.row none 0 5 1 0 []]) (l2:=[.row (some ⟨b12,0,none⟩) 2 69 32 2 (bs [x.dg,x.pv].flatten),.row (some ⟨b6,0,none⟩) 1 3 1 1 [I ((x.no:Nat):Int)],.blk b1 (.cells x.cell.toArray 71 (0,0))]) (up2.trans up3) (fun w' hw=>numbers_ok w' b3 186 none 0 [] [x.no] (some ⟨b6,0,none⟩) 1 hw.has.1 hw.has.2 (rdR (.tail _ (.tail _ (.tail _ (.head _)))) w' hw) (fun k' hk'=>hw.sep (.tail _ (.head _)) hk') (one63 (by omega)) (.inl ⟨rfl,rfl,rfl⟩) (Nat.zero_lt_succ _) (by simp)) (fun y hy=>?_)
      rw [List.nil_append]
      refine r_K<|r_W 9 rfl<|s_updL (ps0:=[bblk b3 186 (some ⟨y.1,0,none⟩) (bey [x.no]).length y.2,.row (some ⟨y.1,0,none⟩) y.2 5 1 (bey [x.no]).length (bs (bey [x.no]))]) (l2:=[.row (some ⟨b12,0,none⟩) 2 69 32 2 (bs [x.dg,x.pv].flatten),.row (some ⟨b6,0,none⟩) 1 3 1 1 [I ((x.no:Nat):Int)],.blk b1 (.cells x.cell.toArray 71 (0,0))]) (List.Perm.trans (.swap _ _ _) (.swap _ _ _)) (fun w' hw=>digests_ok w' b3 186 (some ⟨y.1,0,none⟩) y.2 (bey [x.no]) [x.dg,x.pv] (some ⟨b12,0,none⟩) 2 hw.has.1 hw.has.2 (rdR (.tail _ (.tail _ (.head _))) w' hw) (fun k' hk'=>hw.sep (.head _) hk') (two32 hx.dg hx.pv) (BufI.some hy (by rw [hb8]; decide)) (Nat.zero_lt_succ _) (by rw [hb8]; simp)) (fun z hz=>?_)
      rw [hM]
      refine r_K<|r_y 10 rfl y_as<|r_E<|q_then<|c_ret<|?_
      exact ret1 Tryz.results106 rv_t fun w' hw=>⟨(b3,z.1,z.2),hz,rfl,hw.sub (.cons_cons _ (.cons_cons _ (List.nil_sublist _)))⟩
  · refine s_bslr (cs:=bs x.dg ++ bs x.pv) (hf:=fillK2 hx.dg hx.pv) (hsz:=h64) fun b12=>?_
    rw [← bs_append,← hfl]
    refine r_K<|r_W 2 rfl<|s_bslr (cs:=[I ((x.no:Nat):Int)]) fun b6=>?_
    refine r_K<|r_W 3 rfl<|s_updL (ps0:=[bblk b3 186 none 0 0,.row none 0 5 1 0 []]) (l2:=[.row (some ⟨b6,0,none⟩) 1 3 1 1 [I ((x.no:Nat):Int)],.row (some ⟨b12,0,none⟩) 2 69 32 2 (bs [x.dg,x.pv].flatten),.blk b1 (.cells x.cell.toArray 71 (0,0))]) (up2.trans up3) (fun w' hw=>numbers_ok w' b3 186 none 0 [] [x.no] (some ⟨b6,0,none⟩) 1 hw.has.1 hw.has.2 (rdR (.tail _ (.tail _ (.head _))) w' hw) (fun k' hk'=>hw.sep (.head _) hk') (one63 (by omega)) (.inl ⟨rfl,rfl,rfl⟩) (Nat.zero_lt_succ _) (by simp)) (fun y hy=>?_)
    rw [List.nil_append]
    refine r_K<|r_W 9 rfl<|s_updL (ps0:=[bblk b3 186 (some ⟨y.1,0,none⟩) (bey [x.no]).length y.2,.row (some ⟨y.1,0,none⟩) y.2 5 1 (bey [x.no]).length (bs (bey [x.no]))]) (l2:=[.row (some ⟨b6,0,none⟩) 1 3 1 1 [I ((x.no:Nat):Int)],.row (some ⟨b12,0,none⟩) 2 69 32 2 (bs [x.dg,x.pv].flatten),.blk b1 (.cells x.cell.toArray 71 (0,0))]) (List.Perm.trans (.swap _ _ _) (.swap _ _ _)) (fun w' hw=>digests_ok w' b3 186 (some ⟨y.1,0,none⟩) y.2 (bey [x.no]) [x.dg,x.pv] (some ⟨b12,0,none⟩) 2 hw.has.1 hw.has.2 (rdR (.tail _ (.tail _ (.tail _ (.head _)))) w' hw) (fun k' hk'=>hw.sep (.tail _ (.head _)) hk') (two32 hx.dg hx.pv) (BufI.some hy (by rw [hb8]; decide)) (Nat.zero_lt_succ _) (by rw [hb8]; simp)) (fun z hz=>?_)
    rw [hM]
    refine r_K<|r_y 10 rfl y_as<|r_E<|q_then<|c_ret<|?_
    exact ret1 Tryz.results106 rv_t fun w' hw=>⟨(b3,z.1,z.2),hz,rfl,hw.sub (.cons_cons _ (.cons_cons _ (List.nil_sublist _)))⟩
theorem ID_ok (w:World) (x:Rt) (hx:RtOk x) (hg:LS w):Pure Tryz.prog 105 [.agg x.cell.toArray] w (.agg (bs (rtI x)).toArray):=by
  have hml:(rtM x).length = 72:=rmsg_length hx.dg hx.pv
  refine enter Tryz.func105 Tryz.ntmps105 ?_
  refine c_seq<|c_reg<|s_box rfl fun b1=>s_alloc fun b2=>s_nil<|q_then<|c_seq<|?_
  refine c_regL [.blk b1 (.cells x.cell.toArray 71 (0,0))]<|r_y 0 rfl (y_lda (b:=b1) (cs:=x.cell.toArray) (hl:=by simpa using Rt.cell_length hx))<|r_y 2 rfl y_fa<|r_y 3 rfl y_fa<|r_y 4 rfl (y_ld (b:=b1) (v:=I ((x.r:Nat):Int)) (hv:=rc_r hx))<|r_y 5 rfl y_fa<|r_y 6 rfl y_fa<|r_y 7 rfl (y_ld (b:=b1) (v:=I ((x.s:Nat):Int)) (hv:=rc_s hx))<|r_w2 1 8 rfl rfl ?_ ?_ (hsub:=by repeat (first | exact List.nil_sublist _ | exact List.Sublist.refl _ | apply List.Sublist.cons_cons | apply List.Sublist.cons))
  · refine s_gives (fun w' hw=>message_ok w' x hx) fun (y:Nat × Nat × Nat) hy=>?_
    refine r_K<|r_W 8 rfl<|s_bslr (cs:=[I ((x.r:Nat):Int),I ((x.s:Nat):Int)]) fun b11=>?_
    refine r_K<|r_W 9 rfl<|s_updL (ps0:=[bblk y.1 186 (some ⟨y.2.1,0,none⟩) (rtM x).length y.2.2,.row (some ⟨y.2.1,0,none⟩) y.2.2 5 1 (rtM x).length (bs (rtM x))]) (l2:=[.row (some ⟨b11,0,none⟩) 2 3 1 2 [I ((x.r:Nat):Int),I ((x.s:Nat):Int)],.blk b2 (.cells (bs (List.replicate 32 0)).toArray 69 (0,0)),.blk b1 (.cells x.cell.toArray 71 (0,0))]) (up2.trans up2) (fun w' hw=>numbers_ok w' y.1 186 (some ⟨y.2.1,0,none⟩) y.2.2 (rtM x) [x.r,x.s] (some ⟨b11,0,none⟩) 2 hw.has.1 hw.has.2 (rdR (.tail _ (.tail _ (.head _))) w' hw) (fun k' hk'=>hw.sep (.head _) hk') (two63 hx.r hx.s) (BufI.some hy (by rw [hml]; decide)) (Nat.zero_lt_succ _) (by rw [hml]; simp)) (fun z hz=>?_)
    refine r_K<|r_W 10 rfl<|s_pure (fun w' hw=>d_under_ok w' y.1 (some ⟨z.1,0,none⟩) z.2 lbRoot (rtM x ++ bey [x.r,x.s]) (rdB (.head _) (fun i v h=>by rw [Nat.zero_add]; simpa using h) w' hw) (rdR (.tail _ (.head _)) w' hw) (hg.st hw) (by decide) (by rw [List.length_append,hml,bey_length]; simp))<|r_K<|r_W 11 rfl<|s_sta (b:=b2) (vs:=(bs (rtI x)).toArray) (cs:=(bs (List.replicate 32 0)).toArray) (h1:=fun v hv=>bs_one (by simpa using hv)) (hl:=(hz32 (rtI_length _)).trans (hz32 List.length_replicate).symm) (hs1:=hz32 (rtI_length _)) ?_
    refine r_K<|r_E<|q_then<|c_ret<|?_
    exact ret1 Tryz.results105 (rv_ca (hl:=hz32 (rtI_length _))) fun w' hw=>⟨rfl,hw.sub (List.nil_sublist _)⟩
  · refine s_bslr (cs:=[I ((x.r:Nat):Int),I ((x.s:Nat):Int)]) fun b11=>?_
    refine r_K<|r_W 1 rfl<|s_gives (fun w' hw=>message_ok w' x hx) fun (y:Nat × Nat × Nat) hy=>?_
    refine r_K<|r_W 9 rfl<|s_updL (ps0:=[bblk y.1 186 (some ⟨y.2.1,0,none⟩) (rtM x).length y.2.2,.row (some ⟨y.2.1,0,none⟩) y.2.2 5 1 (rtM x).length (bs (rtM x))]) (l2:=[.row (some ⟨b11,0,none⟩) 2 3 1 2 [I ((x.r:Nat):Int),I ((x.s:Nat):Int)],.blk b2 (.cells (bs (List.replicate 32 0)).toArray 69 (0,0)),.blk b1 (.cells x.cell.toArray 71 (0,0))]) (List.Perm.trans (.swap _ _ _) (.swap _ _ _)) (fun w' hw=>numbers_ok w' y.1 186 (some ⟨y.2.1,0,none⟩) y.2.2 (rtM x) [x.r,x.s] (some ⟨b11,0,none⟩) 2 hw.has.1 hw.has.2 (rdR (.tail _ (.tail _ (.head _))) w' hw) (fun k' hk'=>hw.sep (.head _) hk') (two63 hx.r hx.s) (BufI.some hy (by rw [hml]; decide)) (Nat.zero_lt_succ _) (by rw [hml]; simp)) (fun z hz=>?_)
    refine r_K<|r_W 10 rfl<|s_pure (fun w' hw=>d_under_ok w' y.1 (some ⟨z.1,0,none⟩) z.2 lbRoot (rtM x ++ bey [x.r,x.s]) (rdB (.head _) (fun i v h=>by rw [Nat.zero_add]; simpa using h) w' hw) (rdR (.tail _ (.head _)) w' hw) (hg.st hw) (by decide) (by rw [List.length_append,hml,bey_length]; simp))<|r_K<|r_W 11 rfl<|s_sta (b:=b2) (vs:=(bs (rtI x)).toArray) (cs:=(bs (List.replicate 32 0)).toArray) (h1:=fun v hv=>bs_one (by simpa using hv)) (hl:=(hz32 (rtI_length _)).trans (hz32 List.length_replicate).symm) (hs1:=hz32 (rtI_length _)) ?_
    refine r_K<|r_E<|q_then<|c_ret<|?_
    exact ret1 Tryz.results105 (rv_ca (hl:=hz32 (rtI_length _))) fun w' hw=>⟨rfl,hw.sub (List.nil_sublist _)⟩
theorem ClipR_ok (w:World) (a:Option Addr) (n c:Nat) (hn:n ≤ c):Pure Tryz.prog 108 [.slice a n c] w (.slice a n n):=by
  refine enter Tryz.func108 Tryz.ntmps108 ?_
  refine c_seq<|c_reg<|s_y y_as<|s_nil<|q_then<|c_seq<|c_reg<|s_y y_mv<|s_y y_mv<|s_y y_len<|s_y y_mv<|s_y y_len<|s_y (y_slhmB (j:=((n:Nat):Int)) (h:=((n:Nat):Int)))<|s_y y_as<|s_nil<|q_then<|c_ret<|?_
  exact ret1 Tryz.results108 rv_t fun w' hw=>⟨rfl,hw⟩
theorem private_ok (w:World) (x:Nat) (h0:1 ≤ x) (h:x < 2305843009213688669):Pure Tryz.prog 23 [I (x:Nat)] w (.bool true):=by
  refine enter Tryz.func23 Tryz.ntmps23 ?_
  refine c_seq<|c_reg<|s_y y_as<|s_nil<|q_then<|c_seq<|c_reg<|s_y y_mv<|s_kt (y_leq (p:=1) (q:=(x:Nat))) (by omega)<|s_y y_mv<|s_y y_mv<|s_kt (y_lss (p:=(x:Nat)) (q:=2305843009213688669)) (by omega)<|s_y y_pk<|s_y y_as<|s_nil<|q_then<|c_ret<|?_
  exact ret1 Tryz.results23 rv_t fun w' hw=>⟨rfl,hw⟩
end Go.Proofs.YtegfmbefhpagmaaGreatDoor
end
section
namespace Eng
open Go
theorem fill1 {n:Nat} {cs:List Value} {z:Value} (h:cs.length = n) (hz:z.cells.toList.length = n):fillL (fun i=>some (i * n,n)) (repL 1 z.cells.toList) [(0,.agg cs.toArray)] = some cs:=by
  have e1:(Value.cells (.agg cs.toArray)).toList = cs:=by show cs.toArray.toList = cs; simp
  have e2:repL 1 z.cells.toList = z.cells.toList:=by show z.cells.toList ++ [] = _; rw [List.append_nil]
  rw [e2]
  unfold fillL
  simp only [Nat.zero_mul,e1,h,Nat.zero_add,hz]
  rw [show (Nat.beq n n && Nat.ble n n) = true by simp]
  simp only [cond_true,List.take_zero,List.nil_append]
  rw [List.drop_eq_nil_of_le (by rw [hz]; exact Nat.le_refl _),List.append_nil]
  rfl
end Eng
namespace Tp
open Go Eng Gf Sha Sig Wr Cod Cha Rst Go.Proofs.YtegfmbefhpagmaaGreatDoor
theorem rt_one (x:Rt):∀ v ∈ x.cell.toArray.toList,v.oneCell' = true:=fun v hv=>by
  have hv:v ∈ x.cell:=by simpa using hv
  unfold Rt.cell at hv
  rcases List.mem_cons.1 hv with rfl | hv
  · rfl
  rcases List.mem_append.1 hv with hv | hv
  · exact bs_one hv
  rcases List.mem_append.1 hv with hv | hv
  · exact bs_one hv
  rcases List.mem_cons.1 hv with rfl | hv
  · rfl
  · rw [List.mem_singleton.1 hv]; rfl
theorem snoc_or {α:Type} (R:List α):R = [] ∨ ∃ Q z,R = Q ++ [z]:=by
  rcases List.eq_nil_or_concat R with h | ⟨Q,z,h⟩
  · exact .inl h
  · exact .inr ⟨Q,z,by rw [h,List.concat_eq_append]⟩
theorem nRt_ok {k:Nat} {L:List Ls} {R:List Rt} (h:R.length + 1 < 1000000):RtOk (nRt k L R):=⟨h,ndD_length _ _ _,prvI_length _,Sig.pp63 _ _,Nat.lt_trans (sgS_lt _ _) (by decide)⟩
theorem rtc_snoc (R:List Rt) (z:Rt):rtc (R ++ [z]) = rtc R ++ z.cell:=by
  rw [rtc_append]; congr 1; exact List.append_nil _
theorem st_pv {no:Nat} {dg pv pv':List UInt8} {r s:Nat} (h:RtOk (Rt.mk no dg pv r s)) (hp:pv'.length = 32):(Rt.mk no dg pv r s).cell.take (0 + 33) ++ bs pv' ++ (Rt.mk no dg pv r s).cell.drop (0 + 33 + (bs pv').length) = (Rt.mk no dg pv' r s).cell:=by
  have hd:dg.length = 32:=h.dg
  have hq:pv.length = 32:=h.pv
  rw [bs_length,hp]
  show (I no :: (bs dg ++ (bs pv ++ [I r,I s]))).take 33 ++ bs pv' ++ (I no :: (bs dg ++ (bs pv ++ [I r,I s]))).drop 65 = I no :: (bs dg ++ (bs pv' ++ [I r,I s]))
  rw [List.take_succ_cons,List.drop_succ_cons,List.take_append_of_le_length (by rw [bs_length,hd]; exact Nat.le_refl _),List.take_of_length_le (by rw [bs_length,hd]; exact Nat.le_refl _),show (64:Nat) = (bs dg).length + 32 by rw [bs_length,hd],List.drop_append,show (32:Nat) = (bs pv).length + 0 by rw [bs_length,hq]]
  simp
theorem st_sg {no:Nat} {dg pv:List UInt8} {r s:Nat} (h:RtOk (Rt.mk no dg pv r s)) (r' s':Nat):(Rt.mk no dg pv r s).cell.take (0 + 65) ++ [I ((r':Nat):Int),I ((s':Nat):Int)] ++ (Rt.mk no dg pv r s).cell.drop (0 + 65 + [I ((r':Nat):Int),I ((s':Nat):Int)].length) = (Rt.mk no dg pv r' s').cell:=by
  have hd:dg.length = 32:=h.dg
  have hq:pv.length = 32:=h.pv
  have hl:(I ((no:Nat):Int) :: (bs dg ++ bs pv)).length = 65:=by rw [List.length_cons,List.length_append,bs_length,bs_length,hd,hq]
  have e:∀ a b:Nat,(Rt.mk no dg pv a b).cell = (I ((no:Nat):Int) :: (bs dg ++ bs pv)) ++ [I ((a:Nat):Int),I ((b:Nat):Int)]:=fun a b=>by
    show I ((no:Nat):Int) :: (bs dg ++ (bs pv ++ [I ((a:Nat):Int),I ((b:Nat):Int)])) = _
    rw [List.cons_append,List.append_assoc]
  rw [e,e,List.take_append_of_le_length (by omega),List.take_of_length_le (by omega),List.drop_eq_nil_of_le (by rw [List.length_append,hl]; exact Nat.le_refl _),List.append_nil]
theorem fillRoot {no:Int} {dg:List UInt8} (h:dg.length = 32):fillL (fun i=>(#[(0,1),(1,32),(33,32),(65,2)]:Array (Nat × Nat))[i]?) (I 0 :: (bs (List.replicate 32 0) ++ (bs (List.replicate 32 0) ++ [I 0,I 0]))) [(0,I no),(1,.agg (bs dg).toArray)] = some (I no :: (bs dg ++ (bs (List.replicate 32 0) ++ [I 0,I 0]))):=by
  have e1:(Value.cells (.agg (bs dg).toArray)).toList = bs dg:=rfl
  have e0:(Value.cells (I no)).toList = [I no]:=rfl
  unfold fillL
  rw [show (#[(0,1),(1,32),(33,32),(65,2)]:Array (Nat × Nat))[0]? = some (0,1) from rfl]
  simp only [e0]
  rw [show (Nat.beq [I no].length 1 && Nat.ble (0 + 1) (I 0 :: (bs (List.replicate 32 0) ++ (bs (List.replicate 32 0) ++ [I 0,I 0]))).length) = true by rfl]
  simp only [cond_true,List.take_zero,List.nil_append,Nat.zero_add,List.drop_succ_cons,List.drop_zero]
  unfold fillL
  rw [show (#[(0,1),(1,32),(33,32),(65,2)]:Array (Nat × Nat))[1]? = some (1,32) from rfl]
  simp only [e1,bs_length,h]
  rw [show (Nat.beq 32 32 && Nat.ble (1 + 32) ([I no] ++ (bs (List.replicate 32 0) ++ (bs (List.replicate 32 0) ++ [I 0,I 0]))).length) = true by rfl]
  simp only [cond_true]
  unfold fillL
  rfl
end Tp
namespace Go.Proofs.YtegfmbefhpagmaaGreatDoor
open Go Eng Gf Sha Sig Wr Cod Cha Rst Tp
set_option maxRecDepth 100000
set_option linter.all false
theorem y_broot {n:Nat} {D:List Deferred} {W:World} {Bo:List Nat} {F:List (Nat × Value)} {l:SH} {d:Option Tmp} {ty:TypeId} {ps:String} {af:Array Edge} {g:Option (Nat × Bool)} {parts:Array (Nat × Operand)} {no:Int} {dg:List UInt8} (h:dg.length = 32)
    (hp:evP F parts.toList = some [(0,I no),(1,.agg (bs dg).toArray)]:=by rfl) :
    Y Tryz.prog n D W Bo ⟨d,.build 71 parts,ty,ps,af,g⟩ F l (.agg (I no :: (bs dg ++ (bs (List.replicate 32 0) ++ [I 0,I 0]))).toArray) :=
  y_blds Tryz.underlying71 (fun w=>by kernel_rfl) hp (fillRoot h)
theorem Tick_ok (w:World) (k:Nat) (L:List Ls) (R:List Rt) (la ra:Option Addr) (lc rc:Nat) (hg:LS w) (hl:Rd w la (lsc L)) (hr:Rd w ra (rtc R)) (hd:DirOk L) (hR:∀ x ∈ R,RtOk x) (hLl:L.length ≤ 1000000) (hRl:R.length < 65536) (hrc:R.length ≤ rc) (hk0:1 ≤ k) (hk1:k < 2305843009213688669) :
    Gives Tryz.prog 45 [.agg #[I ((k:Nat):Int),.slice la L.length lc,.slice ra R.length rc]] w [] (fun y:Option Addr × Nat=>.tuple #[.agg #[I ((k:Nat):Int),.slice la L.length lc,.slice y.1 (R.length + 1) y.2],I 0]) (fun y=>[.row y.1 y.2 71 67 (R.length + 1) (rtc (R ++ [nRt k L R]))]) (fun y=>R.length + 1 ≤ y.2):=by
  have hzL:=(dir_pw hd).1
  have hdl:=ndD_length L 9 1
  have hrl:=rtc_length hR
  have h0:RtOk (Rt.mk (R.length + 1) (ndD L 9 1) (List.replicate 32 0) 0 0):=⟨(show R.length + 1 < 1000000 by omega),hdl,List.length_replicate,(show 0 < 9223372036854775808 by decide),(show 0 < 9223372036854775808 by decide)⟩
  have h1:RtOk (Rt.mk (R.length + 1) (ndD L 9 1) (prvI R) 0 0):=⟨(show R.length + 1 < 1000000 by omega),hdl,prvI_length _,(show 0 < 9223372036854775808 by decide),(show 0 < 9223372036854775808 by decide)⟩
  have h2:RtOk (nRt k L R):=nRt_ok (by omega)
  have hzz:RtOk (Rt.mk 0 (List.replicate 32 0) (List.replicate 32 0) 0 0):=⟨(show 0 < 1000000 by decide),List.length_replicate,List.length_replicate,(show 0 < 9223372036854775808 by decide),(show 0 < 9223372036854775808 by decide)⟩
  refine enter Tryz.func45 Tryz.ntmps45 ?_
  refine c_seq<|c_reg<|s_box rfl fun b1=>s_alloc fun b2=>s_y y_as<|s_nil<|q_then<|c_seq<|c_seq<|c_reg<|s_y y_fa<|s_y (y_ld (b:=b1) (v:=I ((k:Nat):Int)))<|s_pure (fun w' hw=>private_ok w' k hk0 hk1)<|s_y (v:=.bool false) (y_not (b:=true))<|s_nil<|q_then<|c_f<|c_skip<|q_then<|c_seq<|c_seq<|c_reg<|s_y y_fa<|s_y (y_ld (b:=b1) (v:=.slice la L.length lc))<|s_pure (fun w' hw=>(by have h9:=dirCheck_ok w' L la lc (hl.st hw) hLl; rw [dirE_t hd] at h9; exact h9))<|s_y y_as<|s_nil<|q_then<|c_seq<|c_reg<|s_y y_mv<|s_nf (y_neq (p:=0) (q:=0)) (by trivial)<|s_nil<|q_then<|c_f<|c_skip<|q_then<|c_seq<|c_seq<|c_reg<|s_y y_fa<|s_y (y_ld (b:=b1) (v:=.slice ra R.length rc))<|s_y y_len<|s_kf (y_geq (p:=R.length) (q:=65536)) (by omega)<|s_nil<|q_then<|c_f<|c_skip<|q_then<|c_seq<|?_
  refine c_cut (R:=fun a' w'=>∃ b4:Nat,Fr 68 [(1,.pointer (some ⟨b1,0,none⟩)),(2,.pointer (some ⟨b2,0,none⟩)),(4,.pointer (some ⟨b4,0,none⟩))] [] a' ∧ St w [] w' [.blk b4 (.cells (Rt.mk (R.length + 1) (ndD L 9 1) (List.replicate 32 0) 0 0).cell.toArray 71 (0,0)),.blk b2 (.cells #[I 0,.slice none 0 0,.slice none 0 0] 36 (0,0)),.blk b1 (.cells #[I ((k:Nat):Int),.slice la L.length lc,.slice ra R.length rc] 36 (0,0))]) ?_ ?_
  · refine c_regL [.blk b1 (.cells #[I ((k:Nat):Int),.slice la L.length lc,.slice ra R.length rc] 36 (0,0))]<|r_y 0 rfl y_fa<|r_y 1 rfl (y_ld (b:=b1) (v:=.slice ra R.length rc))<|r_y 2 rfl y_len<|r_y 3 rfl (y_add (p:=R.length) (q:=1))<|?_
    rw [show ((R.length:Nat):Int) + 1 = ((R.length + 1:Nat):Int) by omega]
    refine r_y 4 rfl y_fa<|r_y 5 rfl (y_ld (b:=b1) (v:=.slice la L.length lc))<|r_w2 6 8 rfl rfl ?_ ?_ (hsub:=by repeat (first | exact List.nil_sublist _ | exact List.Sublist.refl _ | apply List.Sublist.cons_cons | apply List.Sublist.cons))
    · refine s_pure (fun w' hw=>Digest_ok w' L la lc hLl hzL (hg.st hw) (hl.st hw))<|r_K<|r_y 7 rfl (y_broot hdl)<|r_W 8 rfl<|s_alloc fun b4=>r_K<|r_W 9 rfl<|s_sta (b:=b4) (vs:=(Rt.mk (R.length + 1) (ndD L 9 1) (List.replicate 32 0) 0 0).cell.toArray) (cs:=(Rt.mk 0 (List.replicate 32 0) (List.replicate 32 0) 0 0).cell.toArray) (h1:=rt_one _) (hl:=by rw [List.size_toArray,List.size_toArray,Rt.cell_length h0,Rt.cell_length hzz]) (hs1:=by rw [List.size_toArray,Rt.cell_length h0]) ?_
      refine r_K<|r_E ?_
      exact fun a' w' ha hw=>⟨rfl,b4,ha.weaken ⟨rfl,rfl,rfl,trivial⟩,hw⟩
    · refine s_alloc fun b4=>r_K<|r_W 6 rfl<|s_pure (fun w' hw=>Digest_ok w' L la lc hLl hzL (hg.st hw) (hl.st hw))<|r_K<|r_y 7 rfl (y_broot hdl)<|r_W 9 rfl<|s_sta (b:=b4) (vs:=(Rt.mk (R.length + 1) (ndD L 9 1) (List.replicate 32 0) 0 0).cell.toArray) (cs:=(Rt.mk 0 (List.replicate 32 0) (List.replicate 32 0) 0 0).cell.toArray) (h1:=rt_one _) (hl:=by rw [List.size_toArray,List.size_toArray,Rt.cell_length h0,Rt.cell_length hzz]) (hs1:=by rw [List.size_toArray,Rt.cell_length h0]) ?_
      refine r_K<|r_E ?_
      exact fun a' w' ha hw=>⟨rfl,b4,ha.weaken ⟨rfl,rfl,rfl,trivial⟩,hw⟩
  rintro a8 w8 ⟨b4,ha8,hw8⟩
  refine (show CP none Tryz.prog 68 [] w [] _ _ [(1,.pointer (some ⟨b1,0,none⟩)),(2,.pointer (some ⟨b2,0,none⟩)),(4,.pointer (some ⟨b4,0,none⟩))] [.blk b4 (.cells (Rt.mk (R.length + 1) (ndD L 9 1) (List.replicate 32 0) 0 0).cell.toArray 71 (0,0)),.blk b2 (.cells #[I 0,.slice none 0 0,.slice none 0 0] 36 (0,0)),.blk b1 (.cells #[I ((k:Nat):Int),.slice la L.length lc,.slice ra R.length rc] 36 (0,0))] from ?_) a8 w8 ha8 hw8
  clear ha8 hw8
  refine c_seq<|?_
  refine c_cut (R:=fun a' w'=>Fr 68 [(1,.pointer (some ⟨b1,0,none⟩)),(2,.pointer (some ⟨b2,0,none⟩)),(4,.pointer (some ⟨b4,0,none⟩))] [] a' ∧ St w [] w' [.blk b4 (.cells (Rt.mk (R.length + 1) (ndD L 9 1) (prvI R) 0 0).cell.toArray 71 (0,0)),.blk b2 (.cells #[I 0,.slice none 0 0,.slice none 0 0] 36 (0,0)),.blk b1 (.cells #[I ((k:Nat):Int),.slice la L.length lc,.slice ra R.length rc] 36 (0,0))]) ?_ ?_
  · rcases snoc_or R with rfl | ⟨Q,z,rfl⟩
    · refine c_seq<|c_reg<|s_y y_fa<|s_y (y_ld (b:=b1) (v:=.slice ra 0 rc))<|s_y y_len<|s_kf (y_gtr (p:=((0:Nat):Int)) (q:=0)) (by omega)<|s_nil<|q_then<|c_f<|c_skip<|?_
      exact fun a' w' ha hw=>⟨rfl,ha.weaken ⟨rfl,rfl,rfl,trivial⟩,hw⟩
    · have hql:(Q ++ [z]).length = Q.length + 1:=by rw [List.length_append,List.length_singleton]
      have hz9:RtOk z:=hR z (List.mem_append_right _ (.head _))
      have hpv:prvI (Q ++ [z]) = rtI z:=by unfold prvI; rw [List.getLast?_concat]
      refine c_seq<|c_reg<|s_y y_fa<|s_y (y_ld (b:=b1) (v:=.slice ra (Q ++ [z]).length rc))<|s_y y_len<|s_kt (y_gtr (p:=((Q ++ [z]).length:Nat)) (q:=0)) (by omega)<|s_nil<|q_then<|c_t<|?_
      refine c_reg<|s_y y_fa<|s_y (y_ld (b:=b1) (v:=.slice ra (Q ++ [z]).length rc))<|s_y y_fa<|s_y (y_ld (b:=b1) (v:=.slice ra (Q ++ [z]).length rc))<|s_y y_len<|s_y (y_sub (p:=((Q ++ [z]).length:Nat)) (q:=1))<|?_
      rw [show (((Q ++ [z]).length:Nat):Int) - 1 = ((Q.length:Nat):Int) by omega]
      refine s_y (y_ixs (xs:=rtc (Q ++ [z])) (i:=((Q.length:Nat):Int)) (hr:=rdW0 hr) (hl:=by rw [hrl]; omega))<|s_y (y_ldra (i:=Q.length * 67) (cs:=z.cell) (rdW0 hr) (Rt.cell_length hz9) (fun j v h=>rtc_last (fun x hx=>hR x (List.mem_append_left _ hx)) z h))<|s_pure (fun w' hw=>ID_ok w' z hz9 (hg.st hw))<|s_y y_fa<|s_stinR (b:=b4) (off:=0 + 33) (cs:=(Rt.mk ((Q ++ [z]).length + 1) (ndD L 9 1) (List.replicate 32 0) 0 0).cell) (cs':=(Rt.mk ((Q ++ [z]).length + 1) (ndD L 9 1) (rtI z) 0 0).cell) (vs:=bs (rtI z)) (hcs:=st_pv h0 (rtI_length z)) (hl:=by rw [Rt.cell_length h0,bs_length,rtI_length]; decide) (h1:=fun v hv=>bs_one hv) (hs1:=by rw [bs_length,rtI_length]) ?_
      rw [hpv]
      refine s_nil<|?_
      exact fun a' w' ha hw=>⟨rfl,ha.weaken ⟨rfl,rfl,rfl,trivial⟩,hw⟩
  rintro a9 w9 ⟨ha9,hw9⟩
  refine (show CP none Tryz.prog 68 [] w [] _ _ [(1,.pointer (some ⟨b1,0,none⟩)),(2,.pointer (some ⟨b2,0,none⟩)),(4,.pointer (some ⟨b4,0,none⟩))] [.blk b4 (.cells (Rt.mk (R.length + 1) (ndD L 9 1) (prvI R) 0 0).cell.toArray 71 (0,0)),.blk b2 (.cells #[I 0,.slice none 0 0,.slice none 0 0] 36 (0,0)),.blk b1 (.cells #[I ((k:Nat):Int),.slice la L.length lc,.slice ra R.length rc] 36 (0,0))] from ?_) a9 w9 ha9 hw9
  clear ha9 hw9
  refine c_seq<|c_seq<|c_regL [.blk b1 (.cells #[I ((k:Nat):Int),.slice la L.length lc,.slice ra R.length rc] 36 (0,0))]<|r_y 0 rfl y_fa<|r_y 1 rfl (y_ld (b:=b1) (v:=I ((k:Nat):Int)))<|r_W 2 rfl<|s_y (y_lda (b:=b4) (cs:=(Rt.mk (R.length + 1) (ndD L 9 1) (prvI R) 0 0).cell.toArray) (hl:=by rw [List.size_toArray,Rt.cell_length h1]))<|r_K<|r_W 3 rfl<|s_gives (fun w' hw=>message_ok w' (Rt.mk (R.length + 1) (ndD L 9 1) (prvI R) 0 0) h1) fun (y:Nat × Nat × Nat) hy=>r_K<|r_y 4 rfl y_nc<|r_y 5 rfl y_fa<|r_W 6 rfl<|s_pure (fun w' hw=>Buffer_Bytes_ok w' y.1 (some ⟨y.2.1,0,none⟩) (rtM (Rt.mk (R.length + 1) (ndD L 9 1) (prvI R) 0 0)).length y.2.2 (rdB (.head _) (fun i v h=>by rw [Nat.zero_add]; simpa using h) w' hw))<|r_K<|r_W 7 rfl<|s_pure (fun w' hw=>sSign_yes w' (some ⟨y.2.1,0,none⟩) y.2.2 (rtM (Rt.mk (R.length + 1) (ndD L 9 1) (prvI R) 0 0)) k (hg.st hw) (rdR (.tail _ (.head _)) w' hw) (by rw [show (rtM (Rt.mk (R.length + 1) (ndD L 9 1) (prvI R) 0 0)).length = 72 from rmsg_length h1.dg h1.pv]; decide) hk0 hk1)<|r_K<|r_y 8 rfl y_mv<|r_y 9 rfl y_ext<|r_y 10 rfl y_ext<|r_y 11 rfl y_fa<|r_W 12 rfl<|s_stinR (b:=b4) (off:=0 + 65) (cs:=(Rt.mk (R.length + 1) (ndD L 9 1) (prvI R) 0 0).cell) (cs':=(nRt k L R).cell) (vs:=[I (sgR k (rtM (Rt.mk (R.length + 1) (ndD L 9 1) (prvI R) 0 0)):Nat),I (sgS k (rtM (Rt.mk (R.length + 1) (ndD L 9 1) (prvI R) 0 0)):Nat)]) (hcs:=st_sg h1 _ _) (hl:=by rw [Rt.cell_length h1]; exact Nat.le_refl _) (h1:=one_allA rfl) (hs1:=rfl) ?_
  refine r_K<|r_y 13 rfl y_as<|r_E<|q_then<|c_seq<|c_reg<|s_y y_mv<|s_nf (y_neq (p:=0) (q:=0)) (by trivial)<|s_nil<|q_then<|c_f<|c_skip<|q_then<|c_seq<|?_
  obtain ⟨Y1,hY1⟩:∃ Y1:Res,Y1 = bblk y.1 186 (some ⟨y.2.1,0,none⟩) (rtM (Rt.mk (R.length + 1) (ndD L 9 1) (prvI R) 0 0)).length y.2.2:=⟨_,rfl⟩
  refine c_sub (l':=[.blk b4 (.cells (nRt k L R).cell.toArray 71 (0,0)),.blk b2 (.cells #[I 0,.slice none 0 0,.slice none 0 0] 36 (0,0)),.blk b1 (.cells #[I ((k:Nat):Int),.slice la L.length lc,.slice ra R.length rc] 36 (0,0))]) (.cons _ (.cons _ (.refl _))) ?_
  refine c_regF 7<|f_y 0 rfl y_fa<|f_y 1 rfl (y_ld (b:=b1) (v:=.slice ra R.length rc))<|f_y 3 rfl (y_lda (b:=b4) (cs:=(nRt k L R).cell.toArray) (hl:=by rw [List.size_toArray,Rt.cell_length h2]))<|f_w2 2 4 rfl rfl ?_ ?_
  · refine s_pure (fun w' hw=>ClipR_ok w' ra R.length rc hrc)<|f_k<|f_w 4 rfl<|s_bslr (cs:=(nRt k L R).cell) (hf:=fill1 (Rt.cell_length h2) rfl) (hsz:=Rt.cell_length h2) fun b64=>f_k<|f_w 5 rfl<|s_appN (m:=1) (xs:=rtc R) (rdW0 hr) (fun w' hw=>Src.slice (rdR (.head _) w' hw) (by rw [Rt.cell_length h2])) (hl:=hrl) (hud:=.inl ⟨_,rfl⟩) fun b65 c65=>?_
    rw [← rtc_snoc]
    refine f_k<|f_y 6 rfl y_fa<|f_w 7 rfl<|s_st (b:=b1) (v:=.slice (some ⟨b65,0,none⟩) (R.length + 1) c65) (cs:=#[I ((k:Nat):Int),.slice la L.length lc,.slice ra R.length rc]) (hl:=show 0 + 2 < 3 by decide) ?_
    refine f_z<|q_then<|c_seq<|c_reg<|s_y (y_lda (b:=b1) (cs:=#[I ((k:Nat):Int),.slice la L.length lc,.slice (some ⟨b65,0,none⟩) (R.length + 1) c65]) (hl:=rfl))<|s_sta (b:=b2) (vs:=#[I ((k:Nat):Int),.slice la L.length lc,.slice (some ⟨b65,0,none⟩) (R.length + 1) c65]) (cs:=#[I 0,.slice none 0 0,.slice none 0 0]) (h1:=one_allA rfl) (hl:=rfl) (hs1:=rfl) ?_
    refine s_row (fun hk9 _=>?_) (hm:=.head _)
    refine s_y y_as<|s_nil<|q_then<|c_ret<|?_
    exact ret2 Tryz.results45 (rv_ca (b:=b2) (cs:=#[I ((k:Nat):Int),.slice la L.length lc,.slice (some ⟨b65,0,none⟩) (R.length + 1) c65]) (hl:=rfl)) rv_t fun w' hw=>⟨(some ⟨b65,0,none⟩,c65),hk9,rfl,hw.sub (.cons_cons _ (List.nil_sublist _))⟩
  · refine s_bslr (cs:=(nRt k L R).cell) (hf:=fill1 (Rt.cell_length h2) rfl) (hsz:=Rt.cell_length h2) fun b64=>f_k<|f_w 2 rfl<|s_pure (fun w' hw=>ClipR_ok w' ra R.length rc hrc)<|f_k<|f_w 5 rfl<|s_appN (m:=1) (xs:=rtc R) (rdW0 hr) (fun w' hw=>Src.slice (rdR (.head _) w' hw) (by rw [Rt.cell_length h2])) (hl:=hrl) (hud:=.inl ⟨_,rfl⟩) fun b65 c65=>?_
    rw [← rtc_snoc]
    refine f_k<|f_y 6 rfl y_fa<|f_w 7 rfl<|s_st (b:=b1) (v:=.slice (some ⟨b65,0,none⟩) (R.length + 1) c65) (cs:=#[I ((k:Nat):Int),.slice la L.length lc,.slice ra R.length rc]) (hl:=show 0 + 2 < 3 by decide) ?_
    refine f_z<|q_then<|c_seq<|c_reg<|s_y (y_lda (b:=b1) (cs:=#[I ((k:Nat):Int),.slice la L.length lc,.slice (some ⟨b65,0,none⟩) (R.length + 1) c65]) (hl:=rfl))<|s_sta (b:=b2) (vs:=#[I ((k:Nat):Int),.slice la L.length lc,.slice (some ⟨b65,0,none⟩) (R.length + 1) c65]) (cs:=#[I 0,.slice none 0 0,.slice none 0 0]) (h1:=one_allA rfl) (hl:=rfl) (hs1:=rfl) ?_
    refine s_row (fun hk9 _=>?_) (hm:=.head _)
    refine s_y y_as<|s_nil<|q_then<|c_ret<|?_
    exact ret2 Tryz.results45 (rv_ca (b:=b2) (cs:=#[I ((k:Nat):Int),.slice la L.length lc,.slice (some ⟨b65,0,none⟩) (R.length + 1) c65]) (hl:=rfl)) rv_t fun w' hw=>⟨(some ⟨b65,0,none⟩,c65),hk9,rfl,hw.sub (.cons_cons _ (List.nil_sublist _))⟩
end Go.Proofs.YtegfmbefhpagmaaGreatDoor
end
section
namespace Eng
open Go Go.RowKit
section
variable {r:Option Nat} {P:Program} {n:Nat} {D:List Deferred} {W:World} {Bo:List Nat} {F:List (Nat × Value)} {l:SH}
  {d:Option Tmp} {dd:Nat} {ty:TypeId} {ps:String} {af:Array Edge} {g:Option (Nat × Bool)} {v:Value}
  {Q:Exit → Act → World → Prop} {ops:Array Oper} {rest:List Oper}
theorem s_extern {k:FuncId} {fo:Operand} {vs:List Value} {ao:Array Operand} {ts:Array TypeId} (hrun:∀ w,St W Bo w l → (callFunc k vs.toArray).run P w = .ok (.value v) w)
    (h:LP r P n D W Bo ops Q rest ((dd,v) :: F) l) (hfo:evO F fo = some (.func (.func k) #[] #[]):=by rfl) (hargs:evL F ao.toList = some vs:=by rfl) (hn:Nat.blt dd n = true:=by rfl) (hg:Wn ops F g:=by first | exact .none | exact .some rfl rfl) :
    LP r P n D W Bo ops Q (⟨some dd,.call ⟨.value fo,ao,ts⟩,ty,ps,af,g⟩ :: rest) F l :=
  s_new (fun _:Unit=>v) (fun _=>l) (fun _=>True) (by simp) (fun ac w ha hw=>⟨(),w,trivial,by
    have e:=hrun w hw
    simp only [execOp,resolve,ha.eval hfo,evs ha hargs,Deferred.ofValue,Sem.run_bind,Sem.run_pure,Result.andThen_ok,invoke]
    simpa using e,hw⟩) (hn:=hn) (hg:=hg) (h:=fun _ _=>h)
end
theorem Res.shape {w:World} {b c:Nat} {e:TypeId} {s m:Nat} {xs:List Value} (h:(Res.row (some ⟨b,0,none⟩) c e s m xs).holds w):w.shape? b = some (e,c * s) ∧ ∀ o,w.frozen? ⟨b,o,none⟩ = false:=by
  obtain ⟨_,_,h⟩:=h
  rcases h with ⟨h0,_⟩ | ⟨g,cur,hb,h1,_,h2,_⟩
  · cases h0
  · obtain rfl:b = g:=by cases hb; rfl
    refine ⟨by unfold World.shape?; rw [h1]; simp [h2],fun o=>?_⟩
    unfold World.frozen?
    simp [h1]
end Eng
namespace Tp
open Go Eng Gf Sha Sig Wr Cod Cha Rst Go.Proofs.YtegfmbefhpagmaaGreatDoor
theorem lsc_append (a b:List Ls):lsc (a ++ b) = lsc a ++ lsc b:=List.flatMap_append
theorem lsc_one (x:Ls):lsc [x] = x.cell:=List.append_nil _
theorem lsc_ocell (l:List Ls):∀ v ∈ lsc l,v.oneCell' = true:=fun v hv=>by
  obtain ⟨x,_,hx⟩:=List.mem_flatMap.1 hv
  unfold Ls.cell at hx
  simp only [List.mem_cons,List.not_mem_nil,or_false] at hx
  rcases hx with rfl | rfl | rfl | rfl | rfl <;> rfl
theorem ins_a {A B':List Ls} {b:Ls} {cur:List Value} {n:Nat} (hn:(A ++ b :: B').length = n) (ht:cur.take (n * 5) = lsc (A ++ b :: B')) :
    (cur.take ((A.length + 1) * 5) ++ lsc (b :: B') ++ cur.drop ((A.length + 1) * 5 + (b :: B').length * 5)).take ((n + 1) * 5) = lsc (A ++ [b]) ++ lsc (b :: B'):=by
  have h1:cur.take ((A.length + 1) * 5) = lsc (A ++ [b]):=by
    have h2:(cur.take (n * 5)).take ((A.length + 1) * 5) = cur.take ((A.length + 1) * 5):=by
      rw [List.take_take,Nat.min_eq_left (by rw [← hn,List.length_append,List.length_cons]; omega)]
    rw [← h2,ht,show A ++ b :: B' = (A ++ [b]) ++ B' by simp,lsc_append (A ++ [b]),List.take_append_of_le_length (by rw [lsc_length,List.length_append,List.length_singleton]; exact Nat.le_refl _),List.take_of_length_le (by rw [lsc_length,List.length_append,List.length_singleton]; exact Nat.le_refl _)]
  rw [h1]
  have hl:(lsc (A ++ [b]) ++ lsc (b :: B')).length = (n + 1) * 5:=by
    rw [List.length_append,lsc_length,lsc_length,← hn]; simp only [List.length_append,List.length_cons,List.length_nil]; omega
  rw [List.take_append_of_le_length (by omega),List.take_of_length_le (by omega)]
theorem ins_b {A B':List Ls} {b x:Ls} {cur:List Value} {n:Nat} (hn:(A ++ b :: B').length = n) (ht:cur.take ((n + 1) * 5) = lsc (A ++ [b]) ++ lsc (b :: B')) :
    (cur.take (A.length * 5) ++ x.cell ++ cur.drop (A.length * 5 + 1 * 5)).take ((n + 1) * 5) = lsc (A ++ x :: b :: B'):=by
  have hl:(lsc (A ++ [b]) ++ lsc (b :: B')).length = (n + 1) * 5:=by
    rw [List.length_append,lsc_length,lsc_length,← hn]; simp only [List.length_append,List.length_cons,List.length_nil]; omega
  have hb5:b.cell.length = 5:=rfl
  have e:cur = lsc A ++ (b.cell ++ (lsc (b :: B') ++ cur.drop ((n + 1) * 5))):=by
    conv=>lhs; rw [← List.take_append_drop ((n + 1) * 5) cur]
    rw [ht,lsc_append,lsc_one]; simp only [List.append_assoc]
  have hA:(lsc A).length = A.length * 5:=lsc_length A
  have h1:cur.take (A.length * 5) = lsc A:=by rw [e,List.take_append_of_le_length (by omega),List.take_of_length_le (by omega)]
  have h2:cur.drop (A.length * 5 + 1 * 5) = lsc (b :: B') ++ cur.drop ((n + 1) * 5):=by
    conv=>lhs; rw [e,← List.append_assoc]
    rw [List.drop_append,List.drop_eq_nil_of_le (by rw [List.length_append]; omega),List.length_append,hA,hb5,List.nil_append,show A.length * 5 + 1 * 5 - (A.length * 5 + 5) = 0 by omega,List.drop_zero]
  have hx:lsc (A ++ x :: b :: B') = lsc A ++ x.cell ++ lsc (b :: B'):=by rw [lsc_append,show x :: b :: B' = [x] ++ (b :: B') from rfl,lsc_append,lsc_one,List.append_assoc]
  rw [h1,h2,← List.append_assoc,← hx,List.take_append_of_le_length (by rw [lsc_length,← hn]; simp only [List.length_append,List.length_cons]; omega),List.take_of_length_le (by rw [lsc_length,← hn]; simp only [List.length_append,List.length_cons]; omega)]
theorem ins_c {A:List Ls} {x:Ls} {cur zs:List Value} {m:Nat} (hm:A.length + 1 ≤ m) (ht:cur.take (m * 5) = lsc A ++ zs) :
    (cur.take (A.length * 5) ++ x.cell ++ cur.drop (A.length * 5 + 1 * 5)).take ((A.length + 1) * 5) = lsc (A ++ [x]):=by
  have hA:(lsc A).length = A.length * 5:=lsc_length A
  have h1:cur.take (A.length * 5) = lsc A:=by
    have h2:(cur.take (m * 5)).take (A.length * 5) = cur.take (A.length * 5):=by rw [List.take_take,Nat.min_eq_left (by omega)]
    rw [← h2,ht,List.take_append_of_le_length (by omega),List.take_of_length_le (by omega)]
  have hx5:x.cell.length = 5:=rfl
  rw [h1,lsc_append,lsc_one,List.take_append_of_le_length (by rw [List.length_append]; omega),List.take_of_length_le (by rw [List.length_append]; omega)]
theorem ins_d {A B:List Ls} {x:Ls} {cur:List Value} (ht:cur.take ((A.length + 1) * 5) = lsc (A ++ [x])) :
    (cur.take ((A.length + 1) * 5) ++ lsc B ++ cur.drop ((A.length + 1) * 5 + B.length * 5)).take ((A.length + B.length + 1) * 5) = lsc (A ++ x :: B):=by
  have e:lsc (A ++ x :: B) = lsc (A ++ [x]) ++ lsc B:=by rw [← lsc_append]; simp
  have hl:(lsc (A ++ [x]) ++ lsc B).length = (A.length + B.length + 1) * 5:=by
    rw [List.length_append,lsc_length,lsc_length]; simp only [List.length_append,List.length_cons,List.length_nil]; omega
  rw [ht,e,List.take_append_of_le_length (by omega),List.take_of_length_le (by omega)]
end Tp
namespace Go.Proofs.YtegfmbefhpagmaaGreatDoor
open Go Eng Gf Sha Sig Wr Cod Cha Rst Tp
set_option maxRecDepth 100000
set_option linter.all false
theorem Set1_ok (w:World) (z:Ls) (dev:Int):Pure Tryz.prog 41 [.agg #[I z.d,I z.v,I z.l,I z.ver,.bool z.gone],I dev] w (I (cmpI z.d dev)):=by
  refine enter Tryz.func41 Tryz.ntmps41 ?_
  refine c_seq<|c_reg<|s_box rfl fun b2=>s_y y_as<|s_nil<|q_then<|c_seq<|c_reg<|s_y y_fa<|s_y (y_ld (b:=b2) (v:=I z.d))<|s_y y_mv<|s_pure (fun w' hw=>Compare_ok w' z.d dev)<|s_y y_as<|s_nil<|q_then<|c_ret<|?_
  exact ret1 Tryz.results41 rv_t fun w' hw=>⟨rfl,hw.sub (List.nil_sublist _)⟩
theorem BSF_ok (w:World) (A B:List Ls) (dev:Int) (la:Option Addr) (lc n:Nat) (hr:Rd w la (lsc (A ++ B))) (hn:(A ++ B).length = n) (hA:∀ a ∈ A,a.d < dev) (hB:∀ b ∈ B,dev < b.d) (hl:n ≤ 1000000) :
    Pure Tryz.prog 40 [.slice la n lc,I dev,.func (.func 41) #[] #[]] w (.tuple #[I (A.length:Nat),.bool false]):=by
  have hlc:(lsc (A ++ B)).length = n * 5:=by rw [lsc_length,hn]
  have hAn:A.length ≤ n:=by rw [← hn,List.length_append]; omega
  refine enter Tryz.func40 Tryz.ntmps40 ?_
  refine c_seq<|c_reg<|s_y y_as<|s_y y_as<|s_nil<|q_then<|c_seq<|c_reg<|s_y y_mv<|s_y y_len<|s_y y_as<|s_nil<|q_then<|c_seq<|c_reg<|s_y y_mv<|s_y y_as<|s_y y_as<|s_nil<|q_then<|c_seq<|c_block<|?_
  refine c_loop2 (fun (i j:Nat)=>[(0,.slice la n lc),(1,I dev),(2,.func (.func 41) #[] #[]),(8,I (n:Nat)),(9,I (i:Nat)),(10,I (j:Nat))]) (fun _ _=>[]) (fun i j=>i ≤ A.length ∧ A.length ≤ j ∧ j ≤ n) (fun i j=>j - i) 0 n ⟨Nat.zero_le _,hAn,Nat.le_refl _⟩ ⟨rfl,rfl,rfl,rfl,rfl,rfl,trivial⟩ (.refl _) ?_
  rintro i j ⟨hi,hj,hjn⟩
  by_cases hij:i < j
  · obtain ⟨h,hh⟩:∃ h,(i + j) / 2 = h:=⟨_,rfl⟩
    have hhn:h < n:=by omega
    obtain ⟨z,hz⟩:∃ z,(A ++ B)[h]? = some z:=⟨_,List.getElem?_eq_getElem (by omega)⟩
    refine c_seq<|c_seq<|c_reg<|s_y y_mv<|s_y y_mv<|s_kt (y_lss (p:=(i:Nat)) (q:=(j:Nat))) (by omega)<|s_nil<|q_then<|c_t<|c_skip<|q_then<|c_block<|c_seq<|c_reg<|s_y y_mv<|s_y y_mv<|s_y (y_add (p:=(i:Nat)) (q:=(j:Nat)))<|?_
    rw [show ((i:Nat):Int) + ((j:Nat):Int) = ((i + j:Nat):Int) by omega]
    refine s_y (y_cvn (k:=.u64) (p:=((i + j:Nat):Int)) (hw:=wrap_u64 (by omega) (by omega)))<|s_y (y_shr (p:=i + j) (q:=1))<|?_
    rw [show (i + j) / 2 ^ (1:Int).toNat = h from hh]
    refine s_y (y_cvn (k:=.i64) (p:=((h:Nat):Int)) (hw:=wrap_i64 (by unfold R64; omega)))<|s_y y_as<|s_nil<|q_then<|c_seq<|c_reg<|s_y y_mv<|s_y y_mv<|s_y y_mv<|s_y (y_ixs (xs:=lsc (A ++ B)) (i:=((h:Nat):Int)) (hr:=rdW0 hr) (hl:=by rw [hlc]; omega))<|s_y (y_ldra (i:=h * 5) (cs:=[I z.d,I z.v,I z.l,I z.ver,.bool z.gone]) (rdW0 hr) rfl (fun j v h=>lsc_at hz h))<|s_y y_mv<|s_pure (v:=I (cmpI z.d dev)) (fun w' hw=>Set1_ok w' z dev)<|?_
    by_cases hhA:h < A.length
    · have hzA:z.d < dev:=by
        rw [List.getElem?_append_left hhA] at hz
        exact hA z (List.mem_of_getElem? hz)
      rw [show cmpI z.d dev = -1 by unfold cmpI; rw [if_pos hzA]]
      refine s_kt (y_lss (p:=-1) (q:=0)) (by omega)<|s_nil<|q_then<|c_t<|c_reg<|s_y y_mv<|s_y (y_add (p:=(h:Nat)) (q:=1))<|s_y y_as<|s_nil<|q_nb<|?_
      exact q_round2 (x:=i) (y:=j) (h + 1) j ⟨by omega,hj,hjn⟩ (by omega) ⟨rfl,rfl,rfl,rfl,rfl,rfl,trivial⟩ (.refl _)
    · have hzB:dev < z.d:=by
        rw [List.getElem?_append_right (by omega)] at hz
        exact hB z (List.mem_of_getElem? hz)
      rw [show cmpI z.d dev = 1 by unfold cmpI; rw [if_neg (by omega),if_pos hzB]]
      refine s_kf (y_lss (p:=1) (q:=0)) (by omega)<|s_nil<|q_then<|c_f<|c_reg<|s_y y_mv<|s_y y_as<|s_nil<|q_nb<|?_
      exact q_round2 (x:=i) (y:=j) i h ⟨hi,by omega,by omega⟩ (by omega) ⟨rfl,rfl,rfl,rfl,rfl,rfl,trivial⟩ (.refl _)
  · obtain rfl:i = A.length:=by omega
    refine c_seq<|c_seq<|c_reg<|s_y y_mv<|s_y y_mv<|s_kf (y_lss (p:=(A.length:Nat)) (q:=(j:Nat))) (by omega)<|s_nil<|q_then<|c_f<|c_exit<|q_ex<|q_ex<|q_exb<|q_then<|c_seq<|c_reg<|s_y y_mv<|s_y y_mv<|s_y y_mv<|?_
    by_cases hAn2:A.length < n
    · obtain ⟨z,hz⟩:∃ z,(A ++ B)[A.length]? = some z:=⟨_,List.getElem?_eq_getElem (by omega)⟩
      have hzB:dev < z.d:=by
        rw [List.getElem?_append_right (Nat.le_refl _)] at hz
        exact hB z (List.mem_of_getElem? hz)
      refine s_kt (y_lss (p:=(A.length:Nat)) (q:=(n:Nat))) (by omega)<|s_y y_mv<|s_y y_mv<|s_y y_mv<|s_y y_mv<|s_y (y_ixs (xs:=lsc (A ++ B)) (i:=((A.length:Nat):Int)) (hr:=rdW0 hr) (hl:=by rw [hlc]; omega))<|s_y (y_ldra (i:=A.length * 5) (cs:=[I z.d,I z.v,I z.l,I z.ver,.bool z.gone]) (rdW0 hr) rfl (fun j v h=>lsc_at hz h))<|s_y y_mv<|s_pure (v:=I (cmpI z.d dev)) (fun w' hw=>Set1_ok w' z dev)<|?_
      rw [show cmpI z.d dev = 1 by unfold cmpI; rw [if_neg (by omega),if_pos hzB]]
      refine s_kf (y_eql (p:=1) (q:=0)) (by omega)<|s_y y_pk<|s_y y_as<|s_y y_as<|s_nil<|q_then<|c_ret<|?_
      exact ret2 Tryz.results40 rv_t rv_t fun w' hw=>⟨rfl,hw⟩
    · refine s_kf (y_lss (p:=(A.length:Nat)) (q:=(n:Nat))) (by omega)<|s_y y_mv<|s_no<|s_no<|s_no<|s_no<|s_no<|s_no<|s_no<|s_no<|s_y y_pk<|s_y y_as<|s_y y_as<|s_nil<|q_then<|c_ret<|?_
      exact ret2 Tryz.results40 rv_t rv_t fun w' hw=>⟨rfl,hw⟩
theorem CloneL_ok (w:World) (a:Option Addr) (c:Nat) (q:List Ls) (hr:Rd w a (lsc q)) (hl:q.length ≤ 1000000) :
    Gives Tryz.prog 43 [.slice a q.length c] w [] (fun y:Option Addr × Nat=>.slice y.1 q.length y.2) (fun y=>[.row y.1 y.2 49 5 q.length (lsc q)]) (fun _=>True):=by
  refine enter Tryz.func43 Tryz.ntmps43 ?_
  cases hn:a.isNone with
  | true =>
    have ha:a = none:=by cases a with
      | none=>rfl
      | some _=>cases hn
    subst ha
    have hq:q = []:=by
      rcases hr with h | ⟨b,off,cs,t,fz,h,_⟩
      · have:=congrArg List.length h
        rw [lsc_length] at this
        exact List.eq_nil_of_length_eq_zero (by simp at this; omega)
      · cases h
    subst hq
    refine c_seq<|c_reg<|s_y y_as<|s_nil<|q_then<|c_seq<|c_seq<|c_reg<|s_y y_mv<|s_y y_eqln<|s_nil<|q_then<|c_t<|c_seq<|c_reg<|s_y y_as<|s_nil<|q_then<|c_ret<|q_ret<|?_
    exact ret1 Tryz.results43 rv_t fun w' hw=>⟨(none,0),trivial,rfl,(hw.nilRow _ _).sub (List.Sublist.refl _)⟩
  | false =>
    refine c_seq<|c_reg<|s_y y_as<|s_nil<|q_then<|c_seq<|c_seq<|c_reg<|s_y y_mv<|s_y y_eqln<|?_
    rw [hn]
    refine s_nil<|q_then<|c_f<|c_skip<|q_then<|c_seq<|c_reg<|s_bsl0 fun b5=>s_y y_mv<|s_app (m:=q.length) (fun w' hw=>Src.slice (rdW0 hr w' hw) (lsc_length q)) (h1:=lsc_ocell q) (hm:=.head _) (hrep:=fun _ _=>.head _) fun a7 c7 h7=>?_
    rw [List.nil_append,Nat.zero_add]
    refine s_y y_as<|s_nil<|q_then<|c_ret<|?_
    exact ret1 Tryz.results43 rv_t fun w' hw=>⟨(a7,c7),trivial,rfl,hw⟩
end Go.Proofs.YtegfmbefhpagmaaGreatDoor
end
section
namespace Eng
open Go
theorem Rd.preT {w:World} {a:Option Addr} {xs ys:List Value} (h:Rd w a (xs ++ ys)):Rd w a xs:=by
  rcases h with h | ⟨b,off,cs,t,fz,h1,h2,h3⟩
  · exact .inl (List.append_eq_nil_iff.1 h).1
  · exact .inr ⟨b,off,cs,t,fz,h1,h2,fun j v hj=>h3 j v (by rw [List.getElem?_append_left (List.getElem?_eq_some_iff.1 hj).1]; exact hj)⟩
theorem Res.oldT {W w:World} {Bo:List Nat} {l:SH} {p:Res} (h:p.holds W) (hs:St W Bo w l) (hb:∀ k,p.key = some k → k ∉ Bo):p.holds w:=Res.holds_congr h fun k hk=>hs.old k (Res.lt h hk) (hb k hk)
end Eng
namespace Go.Proofs.YtegfmbefhpagmaaGreatDoor
open Go Eng Gf Sha Sig Wr Cod Cha Rst Tp
set_option maxRecDepth 100000
set_option linter.all false
theorem overlaps_no (w:World) (vb vc g c n la lb cb off:Nat) (xs ys:List Value) (hv:(Res.row (some ⟨vb,0,none⟩) vc 49 5 la xs).holds w) (hs:(Res.row (some ⟨g,0,none⟩) c 49 5 n ys).holds w) (hne:vb ≠ g) (hc:0 < c) :
    (callFunc 102 [.slice (some ⟨vb,0,none⟩) la vc,.slice (some ⟨g,off,none⟩) lb cb].toArray).run Tryz.prog w = .ok (.value (.bool false)) w:=by
  obtain ⟨h1,h2⟩:=Res.shape hv
  obtain ⟨h3,h4⟩:=Res.shape hs
  have hov:=Lib.run_overlaps_apart (P:=Tryz.prog) w 33 4 49 Tryz.underlying33 5 (fun w=>by kernel_rfl) ⟨vb,0,none⟩ ⟨g,off,none⟩ la vc lb cb hne 49 49 (vc * 5) (c * 5) h1 h3 (by omega) (h2 0) (h2 (vc * 5))
  show (callFunc 102 #[.slice (some ⟨vb,0,none⟩) la vc,.slice (some ⟨g,off,none⟩) lb cb]).run Tryz.prog w = _
  rw [run_callFunc_extern Tryz.func102 (by kernel_rfl) (by kernel_rfl) (by kernel_rfl) (e:=Extern.SlicesOverlaps.overlaps #[33,33] #[4]) (by kernel_rfl),hov]
  rfl
theorem rd_subB {W:World} {Bo:List Nat} {l:SH} {g c n:Nat} {e:TypeId} {A B:List Ls} (hm:Res.row (some ⟨g,0,none⟩) c e 5 n (lsc (A ++ B)) ∈ l) (hac:A.length < c) (hll:(lsc (A ++ B)).length ≤ c * 5):RdS W Bo l (some ⟨g,A.length * 5,none⟩) (lsc B):=by
  have h9:=RdS.sa (rdR (W:=W) (Bo:=Bo) hm) (i:=A.length) (c:=c) (s:=5) hll
  have hdr:(lsc (A ++ B)).drop (A.length * 5) = lsc B:=by
    rw [lsc_append,List.drop_append,List.drop_eq_nil_of_le (by rw [lsc_length]; exact Nat.le_refl _),lsc_length,Nat.sub_self,List.drop_zero,List.nil_append]
  rw [hdr,sa_lt hac,Nat.zero_add] at h9
  exact h9
theorem Insert_end (w:World) (A:List Ls) (x:Ls) (a:Option Addr) (c n vb:Nat) (hn:A.length = n) (hrow:(Res.row a c 49 5 n (lsc A)).holds w) (hv:(Res.row (some ⟨vb,0,none⟩) 1 49 5 1 x.cell).holds w) (hne:a.map (·.block) ≠ some vb) (hl:n ≤ 1000000) :
    Gives Tryz.prog 44 [.slice a n c,I (n:Nat),.slice (some ⟨vb,0,none⟩) 1 1] w (keys [.row a c 49 5 n (lsc A)]) (fun y:Option Addr × Nat=>.slice y.1 (n + 1) y.2) (fun y=>[.row y.1 y.2 49 5 (n + 1) (lsc (A ++ [x]))]) (fun _=>True):=by
  have hrv:Rd w (some ⟨vb,0,none⟩) x.cell:=Res.rd hv
  have hsep:∀ b ∈ keys [Res.row a c 49 5 n (lsc A)],(some (⟨vb,0,none⟩:Addr)).map (·.block) ≠ some b:=fun b hb e=>by
    obtain ⟨q,hq,hk⟩:=mem_keys.1 hb
    rw [List.mem_singleton] at hq
    subst hq
    cases e
    exact hne hk
  have hcm:c ≤ maxLen:=by
    rcases hrow.2.2 with ⟨_,h9⟩ | ⟨_,_,_,_,h9,_⟩
    · rw [h9]; exact Nat.zero_le _
    · exact h9
  refine enterR Tryz.func44 Tryz.ntmps44 hrow ?_
  refine c_seq<|c_reg<|s_y y_as<|s_nil<|q_then<|c_seq<|c_reg<|s_y y_mv<|s_y y_mv<|s_y (y_sll (i:=((n:Nat):Int)))<|s_nil<|q_then<|c_seq<|c_reg<|s_y y_mv<|s_y y_len<|s_y y_as<|s_nil<|q_then<|c_seq<|c_seq<|c_reg<|s_y y_mv<|s_kf (y_eql (p:=((1:Nat):Int)) (q:=0)) (by omega)<|s_nil<|q_then<|c_f<|c_skip<|q_then<|c_seq<|c_reg<|s_y y_mv<|s_y y_len<|s_y y_as<|s_nil<|q_then<|c_seq<|c_seq<|c_reg<|s_y y_mv<|s_y y_mv<|s_kt (y_eql (p:=((n:Nat):Int)) (q:=((n:Nat):Int))) (by trivial)<|s_nil<|q_then<|c_t<|c_seq<|c_reg<|s_y y_mv<|s_y y_mv<|s_app (m:=1) (fun w' hw=>Src.slice (rdW hrv hsep w' hw) rfl) (h1:=one_allA rfl) (hm:=.head _) (hrep:=fun _ _=>.head _) fun a25 c25 h25=>?_
  rw [← lsc_one x,← lsc_append]
  refine s_y y_as<|s_nil<|q_then<|c_ret<|q_ret<|?_
  exact ret1 Tryz.results44 rv_t fun w' hw=>⟨(a25,c25),trivial,rfl,hw⟩
theorem Insert_mid (w:World) (A B':List Ls) (b x:Ls) (g c n vb:Nat) (hn:(A ++ b :: B').length = n) (hrow:(Res.row (some ⟨g,0,none⟩) c 49 5 n (lsc (A ++ b :: B'))).holds w) (hv:(Res.row (some ⟨vb,0,none⟩) 1 49 5 1 x.cell).holds w) (hne:vb ≠ g) (hl:n ≤ 1000000) :
    Gives Tryz.prog 44 [.slice (some ⟨g,0,none⟩) n c,I (A.length:Nat),.slice (some ⟨vb,0,none⟩) 1 1] w (keys [.row (some ⟨g,0,none⟩) c 49 5 n (lsc (A ++ b :: B'))]) (fun y:Nat × Nat=>.slice (some ⟨y.1,0,none⟩) (n + 1) y.2) (fun y=>[.row (some ⟨y.1,0,none⟩) y.2 49 5 (n + 1) (lsc (A ++ x :: b :: B'))]) (fun _=>True):=by
  have hrv:Rd w (some ⟨vb,0,none⟩) x.cell:=Res.rd hv
  have hAn:A.length + (b :: B').length = n:=by rw [← hn,List.length_append]
  have hBl:(b :: B').length = B'.length + 1:=rfl
  have hsep:∀ k ∈ keys [Res.row (some ⟨g,0,none⟩) c 49 5 n (lsc (A ++ b :: B'))],(some (⟨vb,0,none⟩:Addr)).map (·.block) ≠ some k:=fun k hk e=>by
    obtain ⟨q,hq,hk⟩:=mem_keys.1 hk
    rw [List.mem_singleton] at hq
    subst hq
    cases e
    cases hk
    exact hne rfl
  have hcm:c ≤ maxLen:=by
    rcases hrow.2.2 with ⟨h9,_⟩ | ⟨_,_,_,_,h9,_⟩
    · cases h9
    · exact h9
  have hnc:n ≤ c:=hrow.2.1
  have hm63:maxLen ≤ 9223372036854775807:=by decide
  have hll:(lsc (A ++ b :: B')).length = n * 5:=by rw [lsc_length,hn]
  have hdr:(lsc (A ++ b :: B')).drop (A.length * 5) = lsc (b :: B'):=by
    rw [lsc_append,List.drop_append,List.drop_eq_nil_of_le (by rw [lsc_length]; exact Nat.le_refl _),lsc_length,Nat.sub_self,List.drop_zero,List.nil_append]
  refine enterR Tryz.func44 Tryz.ntmps44 hrow ?_
  refine c_seq<|c_reg<|s_y y_as<|s_nil<|q_then<|c_seq<|c_reg<|s_y y_mv<|s_y y_mv<|s_y (y_sll (i:=((A.length:Nat):Int)))<|s_nil<|q_then<|c_seq<|c_reg<|s_y y_mv<|s_y y_len<|s_y y_as<|s_nil<|q_then<|c_seq<|c_seq<|c_reg<|s_y y_mv<|s_kf (y_eql (p:=((1:Nat):Int)) (q:=0)) (by omega)<|s_nil<|q_then<|c_f<|c_skip<|q_then<|c_seq<|c_reg<|s_y y_mv<|s_y y_len<|s_y y_as<|s_nil<|q_then<|c_seq<|c_seq<|c_reg<|s_y y_mv<|s_y y_mv<|s_kf (y_eql (p:=((A.length:Nat):Int)) (q:=((n:Nat):Int))) (by omega)<|s_nil<|q_then<|c_f<|c_skip<|q_then<|c_seq<|c_seq<|c_reg<|s_y y_mv<|s_y y_mv<|s_y (y_add (p:=((n:Nat):Int)) (q:=((1:Nat):Int)))<|s_y y_mv<|s_y y_cap<|?_
  by_cases hroom:n + 1 ≤ c
  · refine s_kf (y_gtr (p:=((n:Nat):Int) + ((1:Nat):Int)) (q:=((c:Nat):Int))) (by omega)<|s_nil<|q_then<|c_f<|c_skip<|q_then<|c_seq<|c_reg<|s_y y_mv<|s_y y_mv<|s_y y_mv<|s_y (y_add (p:=((n:Nat):Int)) (q:=((1:Nat):Int)))<|s_y (y_slh (j:=((n:Nat):Int) + ((1:Nat):Int)))<|?_
    rw [show (((n:Nat):Int) + ((1:Nat):Int)).toNat = n + 1 by omega]
    refine s_y y_as<|s_nil<|q_then<|c_seq<|c_seq<|c_reg<|s_y y_mv<|s_y y_mv<|s_y y_mv<|s_y y_mv<|s_y (y_add (p:=((A.length:Nat):Int)) (q:=((1:Nat):Int)))<|s_y (y_sll (i:=((A.length:Nat):Int) + ((1:Nat):Int)))<|?_
    rw [show (((A.length:Nat):Int) + ((1:Nat):Int)).toNat = A.length + 1 by omega,sa_lt (show A.length + 1 < c by omega),Nat.zero_add]
    refine s_extern (v:=.bool false) (fun w' hw=>overlaps_no w' vb 1 g c n 1 (n + 1 - (A.length + 1)) (c - (A.length + 1)) ((A.length + 1) * 5) x.cell (lsc (A ++ b :: B')) (Res.oldT hv hw (fun k hk hm=>hsep k hm hk)) (hw.own _ (.head _)).1 hne (by omega))<|s_y (v:=.bool true) (y_not (b:=false))<|s_nil<|q_then<|c_t<|?_
    refine c_seq<|c_regL []<|r_y 0 rfl y_mv<|r_y 1 rfl y_mv<|r_y 2 rfl y_mv<|r_y 3 rfl (y_add (p:=((A.length:Nat):Int)) (q:=((1:Nat):Int)))<|r_y 4 rfl (y_sll (i:=((A.length:Nat):Int) + ((1:Nat):Int)))<|?_
    rw [show (((A.length:Nat):Int) + ((1:Nat):Int)).toNat = A.length + 1 by omega,sa_lt (show A.length + 1 < c by omega),Nat.zero_add]
    refine r_y 5 rfl y_mv<|r_y 6 rfl y_mv<|r_y 7 rfl (y_sll (i:=((A.length:Nat):Int)))<|?_
    rw [show ((A.length:Nat):Int).toNat = A.length by omega,sa_lt (show A.length < c by omega),Nat.zero_add]
    refine r_W 8 rfl<|s_cprS (gb:=g) (off:=(A.length + 1) * 5) (mm:=n + 1 - (A.length + 1)) (mc:=c - (A.length + 1)) (cc:=c) (m:=n) (m':=n + 1) (a:=some ⟨g,A.length * 5,none⟩) (k:=(b :: B').length) (ks:=n + 1 - A.length) (kc:=c - A.length) (xs:=lsc (A ++ b :: B')) (ys:=lsc (b :: B')) (xs':=lsc (A ++ [b]) ++ lsc (b :: B')) (et:=49) (fun cur _ ht=>ins_a hn ht) (rd_subB (A:=A) (.head _) (by omega) (by rw [hll]; omega)) (lsc_length _) (lsc_ocell _) ((Nat.min_eq_right (by omega)).trans (by omega)) (by omega) hroom (.head _) ?_
    refine r_K<|r_E<|q_then<|c_seq<|c_reg<|s_y y_mv<|s_y y_mv<|s_y (y_sll (i:=((A.length:Nat):Int)))<|?_
    rw [show ((A.length:Nat):Int).toNat = A.length by omega,sa_lt (show A.length < c by omega),Nat.zero_add]
    refine s_y y_mv<|s_cprS (gb:=g) (off:=A.length * 5) (mm:=n + 1 - A.length) (mc:=c - A.length) (cc:=c) (m:=n + 1) (m':=n + 1) (a:=some ⟨vb,0,none⟩) (k:=1) (ks:=1) (kc:=1) (xs:=lsc (A ++ [b]) ++ lsc (b :: B')) (ys:=x.cell) (xs':=lsc (A ++ x :: b :: B')) (et:=49) (fun cur _ ht=>ins_b hn ht) (rdW hrv hsep) rfl (one_allA rfl) (Nat.min_eq_left (by omega)) (by omega) hroom (.head _) ?_
    refine s_nil<|q_then<|c_seq<|c_reg<|s_y y_mv<|s_y y_as<|s_nil<|q_then<|c_ret<|q_ret<|?_
    exact ret1 Tryz.results44 rv_t fun w' hw=>⟨(g,c),trivial,rfl,hw⟩
  · refine s_kt (y_gtr (p:=((n:Nat):Int) + ((1:Nat):Int)) (q:=((c:Nat):Int))) (by omega)<|s_nil<|q_then<|c_t<|c_seq<|c_reg<|s_y y_mv<|s_y y_mv<|s_y (y_slh (j:=((A.length:Nat):Int)))<|?_
    rw [show ((A.length:Nat):Int).toNat = A.length by omega]
    refine s_y y_mv<|s_y y_mv<|s_y (y_add (p:=((n:Nat):Int)) (q:=((1:Nat):Int)))<|s_y y_mv<|s_y (y_sub (p:=((n:Nat):Int) + ((1:Nat):Int)) (q:=((A.length:Nat):Int)))<|?_
    rw [show ((n:Nat):Int) + ((1:Nat):Int) - ((A.length:Nat):Int) = ((n + 1 - A.length:Nat):Int) by omega]
    refine s_apzN (a:=some ⟨g,0,none⟩) (k:=A.length) (cc:=c) (m:=n + 1 - A.length) (xs:=lsc A) (fun w' hw=>Rd.preT (by rw [← lsc_append]; exact rdR (.head _) w' hw)) (hl:=lsc_length A) (hc:=hcm) (fun b40 c40=>?_)
    refine s_row (fun hk40 _=>?_) (hm:=.head _)
    refine s_y y_as<|s_nil<|q_then<|c_seq<|c_reg<|s_y y_mv<|s_y y_mv<|s_y (y_sll (i:=((A.length:Nat):Int)))<|?_
    rw [show ((A.length:Nat):Int).toNat = A.length by omega,sa_lt (show A.length < c40 by omega),Nat.zero_add]
    refine s_y y_mv<|s_cprS (gb:=b40) (off:=A.length * 5) (mm:=A.length + (n + 1 - A.length) - A.length) (mc:=c40 - A.length) (cc:=c40) (m:=A.length + (n + 1 - A.length)) (m':=A.length + 1) (a:=some ⟨vb,0,none⟩) (k:=1) (ks:=1) (kc:=1) (ys:=x.cell) (xs':=lsc (A ++ [x])) (et:=49) (fun cur _ ht=>ins_c (by omega) ht) (rdW hrv hsep) rfl (one_allA rfl) (Nat.min_eq_left (by omega)) (by omega) (by omega) (.head _) ?_
    refine s_nil<|q_then<|c_seq<|c_regL []<|r_y 0 rfl y_mv<|r_y 1 rfl y_mv<|r_y 2 rfl y_mv<|r_y 3 rfl (y_add (p:=((A.length:Nat):Int)) (q:=((1:Nat):Int)))<|r_y 4 rfl (y_sll (i:=((A.length:Nat):Int) + ((1:Nat):Int)))<|?_
    rw [show (((A.length:Nat):Int) + ((1:Nat):Int)).toNat = A.length + 1 by omega,sa_lt (show A.length + 1 < c40 by omega),Nat.zero_add]
    refine r_y 5 rfl y_mv<|r_y 6 rfl y_mv<|r_y 7 rfl (y_sll (i:=((A.length:Nat):Int)))<|?_
    rw [show ((A.length:Nat):Int).toNat = A.length by omega,sa_lt (show A.length < c by omega),Nat.zero_add]
    refine r_W 8 rfl<|s_cprS (gb:=b40) (off:=(A.length + 1) * 5) (mm:=A.length + (n + 1 - A.length) - (A.length + 1)) (mc:=c40 - (A.length + 1)) (cc:=c40) (m:=A.length + 1) (m':=n + 1) (a:=some ⟨g,A.length * 5,none⟩) (k:=(b :: B').length) (ks:=n - A.length) (kc:=c - A.length) (xs:=lsc (A ++ [x])) (ys:=lsc (b :: B')) (xs':=lsc (A ++ x :: b :: B')) (et:=49) (fun cur _ ht=>(by rw [← hAn]; exact ins_d ht)) (rd_subB (A:=A) (.tail _ (.head _)) (by omega) (by rw [hll]; omega)) (lsc_length _) (lsc_ocell _) ((Nat.min_eq_left (by omega)).trans (by omega)) (by omega) (by omega) (.head _) ?_
    refine r_K<|r_E<|q_then<|c_seq<|c_reg<|s_y y_mv<|s_y y_as<|s_nil<|q_then<|c_ret<|q_ret<|?_
    rw [show A.length + (n + 1 - A.length) = n + 1 by omega]
    exact ret1 Tryz.results44 rv_t fun w' hw=>⟨(b40,c40),trivial,rfl,hw.sub (.cons_cons _ (List.nil_sublist _))⟩
end Go.Proofs.YtegfmbefhpagmaaGreatDoor
end
section
namespace Go.Proofs.YtegfmbefhpagmaaGreatDoor
open Go Eng Gf Sha Sig Wr Cod Cha Rst Tp
set_option maxRecDepth 100000
set_option linter.all false
theorem y_bdir {n:Nat} {D:List Deferred} {W:World} {Bo:List Nat} {F:List (Nat × Value)} {l:SH} {d:Option Tmp} {ty:TypeId} {ps:String} {af:Array Edge} {g:Option (Nat × Bool)} {parts:Array (Nat × Operand)} {vs:List (Nat × Value)} {cs:List Value}
    (hp:evP F parts.toList = some vs:=by rfl) (hf:fillL (fun i=>(#[(0,1),(1,1),(2,1)]:Array (Nat × Nat))[i]?) [I 0,.slice none 0 0,.slice none 0 0] vs = some cs:=by rfl) :
    Y Tryz.prog n D W Bo ⟨d,.build 36 parts,ty,ps,af,g⟩ F l (.agg cs.toArray) :=
  y_blds Tryz.underlying36 (fun w=>by kernel_rfl) hp hf
theorem Insert_ok (w:World) (A B:List Ls) (x:Ls) (a:Option Addr) (c n vb:Nat) (hn:(A ++ B).length = n) (hrow:(Res.row a c 49 5 n (lsc (A ++ B))).holds w) (hv:(Res.row (some ⟨vb,0,none⟩) 1 49 5 1 x.cell).holds w) (hne:a.map (·.block) ≠ some vb) (hl:n ≤ 1000000) :
    Gives Tryz.prog 44 [.slice a n c,I (A.length:Nat),.slice (some ⟨vb,0,none⟩) 1 1] w (keys [.row a c 49 5 n (lsc (A ++ B))]) (fun y:Option Addr × Nat=>.slice y.1 (n + 1) y.2) (fun y=>[.row y.1 y.2 49 5 (n + 1) (lsc (A ++ x :: B))]) (fun _=>True):=by
  cases B with
  | nil =>
    have e:A.length = n:=by rw [← hn,List.append_nil]
    rw [List.append_nil] at hrow ⊢
    rw [e]
    exact Insert_end w A x a c n vb e hrow hv hne hl
  | cons b B' =>
    obtain ⟨g,rfl⟩:∃ g,a = some ⟨g,0,none⟩:=by
      rcases hrow.2.2 with ⟨_,h9⟩ | ⟨g,_,h9,_⟩
      · have:=hrow.2.1
        rw [List.length_append,List.length_cons] at hn
        omega
      · exact ⟨g,h9⟩
    exact (Insert_mid w A B' b x g c n vb hn hrow hv (fun e=>hne (by rw [e]; rfl)) hl).mono fun e w' ⟨y,_,h2,h3⟩=>⟨(some ⟨y.1,0,none⟩,y.2),trivial,h2,h3⟩
theorem New_ok (w:World) (k:Nat) (h0:1 ≤ k) (h1:k < 2305843009213688669):Pure Tryz.prog 5 [I (k:Nat)] w (.tuple #[.agg #[I (k:Nat),.slice none 0 0,.slice none 0 0],I 0]):=by
  refine enter Tryz.func5 Tryz.ntmps5 ?_
  refine c_seq<|c_reg<|s_alloc fun b2=>s_y y_as<|s_nil<|q_then<|c_seq<|c_seq<|c_reg<|s_y y_mv<|s_pure (fun w' hw=>private_ok w' k h0 h1)<|s_y (v:=.bool false) (y_not (b:=true))<|s_nil<|q_then<|c_f<|c_skip<|q_then<|c_seq<|c_reg<|s_y y_mv<|s_y (y_bdir (cs:=[I (k:Nat),.slice none 0 0,.slice none 0 0]))<|s_sta (b:=b2) (vs:=#[I (k:Nat),.slice none 0 0,.slice none 0 0]) (cs:=#[I 0,.slice none 0 0,.slice none 0 0]) (h1:=one_allA rfl) (hl:=rfl) (hs1:=rfl) ?_
  refine s_y y_as<|s_nil<|q_then<|c_ret<|?_
  exact ret2 Tryz.results5 (rv_ca (b:=b2) (cs:=#[I (k:Nat),.slice none 0 0,.slice none 0 0]) (hl:=rfl)) rv_t fun w' hw=>⟨rfl,hw.sub (List.nil_sublist _)⟩
theorem Set_ok (w:World) (k:Nat) (A B:List Ls) (R:List Rt) (x:Ls) (la ra:Option Addr) (n lc rc:Nat) (hg:LS w) (hl:Rd w la (lsc (A ++ B))) (hr:Rd w ra (rtc R)) (hn:(A ++ B).length = n) (hd:DirOk (A ++ B)) (hx:LsRt x) (hv1:x.ver = 1) (hA:∀ a ∈ A,a.d < x.d) (hB:∀ b ∈ B,x.d < b.d) (hR:∀ x ∈ R,RtOk x) (hLl:n ≤ 100000) (hRl:R.length < 65536) (hrc:R.length ≤ rc) (hk0:1 ≤ k) (hk1:k < 2305843009213688669) :
    Gives Tryz.prog 10 [.agg #[I ((k:Nat):Int),.slice la n lc,.slice ra R.length rc],.agg #[I x.d,I x.v,I x.l,I x.ver,.bool x.gone]] w [] (fun y:(Option Addr × Nat) × (Option Addr × Nat)=>.tuple #[.agg #[I ((k:Nat):Int),.slice y.1.1 (n + 1) y.1.2,.slice y.2.1 (R.length + 1) y.2.2],I 0]) (fun y=>[.row y.2.1 y.2.2 71 67 (R.length + 1) (rtc (R ++ [nRt k (A ++ x :: B) R])),.row y.1.1 y.1.2 49 5 (n + 1) (lsc (A ++ x :: B))]) (fun y=>R.length + 1 ≤ y.2.2):=by
  have hat:lsAt (A ++ B) x.d = none:=lsAt_none fun z hz=>by
    rcases List.mem_append.1 hz with hz | hz
    · have:=hA z hz; omega
    · have:=hB z hz; omega
  have hln:(A ++ x :: B).length = n + 1:=by rw [← hn]; simp only [List.length_append,List.length_cons]; omega
  have hd2:=dir_ins hd hx hA hB
  refine enter Tryz.func10 Tryz.ntmps10 ?_
  refine c_seq<|c_reg<|s_box rfl fun b2=>s_box rfl fun b3=>s_alloc fun b4=>s_y y_as<|s_nil<|q_then<|c_seq<|c_seq<|c_reg<|s_y y_fa<|s_y (y_ld (b:=b2) (v:=I ((k:Nat):Int)))<|s_pure (fun w' hw=>private_ok w' k hk0 hk1)<|s_y (v:=.bool false) (y_not (b:=true))<|s_nil<|q_then<|c_f<|c_skip<|q_then<|c_seq<|c_seq<|c_reg<|s_y y_fa<|s_y (y_ld (b:=b2) (v:=.slice la n lc))<|s_pure (fun w' hw=>(by have h9:=dirCheck_ok w' (A ++ B) la lc (hl.st hw) (by omega); rw [dirE_t hd,hn] at h9; exact h9))<|s_y y_as<|s_nil<|q_then<|c_seq<|c_reg<|s_y y_mv<|s_nf (y_neq (p:=0) (q:=0)) (by trivial)<|s_nil<|q_then<|c_f<|c_skip<|q_then<|c_seq<|c_reg<|s_y y_fa<|s_y (y_ld (b:=b2) (v:=.slice la n lc))<|s_y y_fa<|s_y (y_ld (b:=b3) (v:=I x.d))<|s_pure (fun w' hw=>(by have h9:=of_none w' (A ++ B) x.d la lc (hl.st hw) (by omega) hat; rw [hn] at h9; exact h9))<|s_y y_mv<|s_y y_ext<|s_y y_ext<|s_alloc fun b6=>s_sta (b:=b6) (vs:=#[I x.d,I 0,I 0,I 0,.bool false]) (cs:=#[I 0,I 0,I 0,I 0,.bool false]) (h1:=one_allA rfl) (hl:=rfl) (hs1:=rfl) ?_
  refine s_y y_as<|s_nil<|q_then<|c_seq<|c_seq<|c_reg<|s_y (y_lda (b:=b3) (cs:=#[I x.d,I x.v,I x.l,I x.ver,.bool x.gone]) (hl:=rfl))<|s_pure (fun w' hw=>(by have h9:=fits_ok' w' x; rw [lsB_t.2 hx] at h9; exact h9))<|s_y (v:=.bool false) (y_not (b:=true))<|s_y y_mv<|s_y y_fa<|s_y (y_ld (b:=b3) (v:=I x.ver))<|s_y y_fa<|s_y (y_ld (b:=b6) (v:=I 0))<|s_y (y_add (p:=0) (q:=1))<|s_nf (y_neq (p:=x.ver) (q:=0 + 1)) (by omega)<|s_y y_pk<|s_nil<|q_then<|c_f<|c_skip<|q_then<|c_seq<|c_reg<|s_y y_fa<|s_y (y_ld (b:=b2) (v:=.slice la n lc))<|s_y y_fa<|s_y (y_ld (b:=b3) (v:=I x.d))<|s_pure (fun w' hw=>BSF_ok w' A B x.d la lc n (hl.st hw) hn hA hB (by omega))<|s_y y_mv<|s_y y_ext<|s_y y_ext<|s_y y_as<|s_y y_as<|s_nil<|q_then<|c_seq<|c_reg<|s_y y_fa<|s_y (y_ld (b:=b2) (v:=.slice la n lc))<|s_gives (fun w' hw=>(by have h9:=CloneL_ok w' la lc (A ++ B) (hl.st hw) (by omega); rw [hn] at h9; exact h9)) fun (x52:Option Addr × Nat) _=>s_y y_fa<|s_st (b:=b2) (v:=.slice x52.1 n x52.2) (cs:=#[I ((k:Nat):Int),.slice la n lc,.slice ra R.length rc]) (hl:=show 0 + 1 < 3 by decide) ?_
  refine s_nil<|q_then<|c_seq<|c_seq<|c_reg<|s_y y_mv<|s_nil<|q_then<|c_f<|c_reg<|s_y y_fa<|s_y (y_ld (b:=b2) (v:=.slice x52.1 n x52.2))<|s_y y_mv<|s_y (y_lda (b:=b3) (cs:=#[I x.d,I x.v,I x.l,I x.ver,.bool x.gone]) (hl:=rfl))<|s_bslr (cs:=x.cell) fun b64=>?_
  refine s_updL (ps0:=[.row x52.1 x52.2 49 5 n (lsc (A ++ B))]) (l2:=[.row (some ⟨b64,0,none⟩) 1 49 5 1 x.cell,.blk b6 (.cells #[I x.d,I 0,I 0,I 0,.bool false] 49 (0,0)),.blk b4 (.cells #[I 0,.slice none 0 0,.slice none 0 0] 36 (0,0)),.blk b3 (.cells #[I x.d,I x.v,I x.l,I x.ver,.bool x.gone] 49 (0,0)),.blk b2 (.cells #[I ((k:Nat):Int),.slice x52.1 n x52.2,.slice ra R.length rc] 36 (0,0))]) (.swap _ _ _) (fun w' hw=>Insert_ok w' A B x x52.1 x52.2 n b64 hn (hw.own _ (.head _)).1 (hw.own _ (.tail _ (.head _))).1 (fun e=>hw.sep (p1:=[.row x52.1 x52.2 49 5 n (lsc (A ++ B))]) (.head _) (mem_keys.2 ⟨_,.head _,e⟩) rfl) (by omega)) (fun x65 _=>?_)
  refine s_y y_fa<|s_st (b:=b2) (v:=.slice x65.1 (n + 1) x65.2) (cs:=#[I ((k:Nat):Int),.slice x52.1 n x52.2,.slice ra R.length rc]) (hl:=show 0 + 1 < 3 by decide) ?_
  refine s_nil<|q_then<|c_seq<|c_reg<|s_y (y_lda (b:=b2) (cs:=#[I ((k:Nat):Int),.slice x65.1 (n + 1) x65.2,.slice ra R.length rc]) (hl:=rfl))<|s_gives (fun w' hw=>(by have h9:=Tick_ok w' k (A ++ x :: B) R x65.1 ra x65.2 rc (hg.st hw) (rdR (.head _) w' hw) (hr.st hw) hd2 hR (by omega) hRl hrc hk0 hk1; rw [hln] at h9; exact h9)) fun (x68:Option Addr × Nat) h68=>s_y y_ext<|s_y y_ext<|s_sta (b:=b4) (vs:=#[I ((k:Nat):Int),.slice x65.1 (n + 1) x65.2,.slice x68.1 (R.length + 1) x68.2]) (cs:=#[I 0,.slice none 0 0,.slice none 0 0]) (h1:=one_allA rfl) (hl:=rfl) (hs1:=rfl) ?_
  refine s_y y_as<|s_nil<|q_then<|c_ret<|?_
  exact ret2 Tryz.results10 (rv_ca (b:=b4) (cs:=#[I ((k:Nat):Int),.slice x65.1 (n + 1) x65.2,.slice x68.1 (R.length + 1) x68.2]) (hl:=rfl)) rv_t fun w' hw=>⟨(x65,x68),h68,rfl,hw.sub (.cons_cons _ (.cons_cons _ (List.nil_sublist _)))⟩
end Go.Proofs.YtegfmbefhpagmaaGreatDoor
end
section
namespace Eng
open Go Go.RowKit
def nodf (os:List Oper):Bool:=os.all fun o=>match o.op with | .defer _=>false | _=>true
theorem nodf_spec {os:List Oper} (h:nodf os = true) {i:Nat} {o:Oper} (hi:os.toArray[i]? = some o):∀ c,o.op ≠ .defer c:=fun c e=>by
  have hm:o ∈ os:=by
    rw [List.getElem?_toArray] at hi
    exact List.mem_of_getElem? hi
  have:=List.all_eq_true.1 h o hm
  rw [e] at this
  cases this
section
variable {r:Option Nat} {P:Program} {n:Nat} {D:List Deferred} {W:World} {Bo:List Nat} {F:List (Nat × Value)} {l l':SH}
  {Q:Exit → Act → World → Prop}
theorem opFw {o:Oper} {a:Act} {w:World} {K:Act → World → Prop} (ho:∀ c,o.op ≠ .defer c) (h:o.wpIn (Fw none) 0 P a w K Q):o.wpIn (Fw r) 0 P a w K Q:=by
  unfold Oper.wpIn at *
  rw [semAt_eq _ ho] at h ⊢
  exact h
theorem anyFw {os:List Oper} (hd:nodf os = true):∀ (fuel:Nat) (listed:Array Bool) (a:Act) (w:World),wpAnyIn (Fw none) 0 P .any os.toArray Q fuel listed a w → wpAnyIn (Fw r) 0 P .any os.toArray Q fuel listed a w
  | 0,_,_,_,h=>h
  | fuel + 1,listed,a,w,h=>by
    refine ⟨h.1,fun i hi=>?_⟩
    have h2:=h.2 i hi
    have h3:=wpOpIn_mono (fun a w h=>anyFw hd fuel _ a w h) h2
    unfold wpOpIn at h3 ⊢
    cases ho:os.toArray[i]? with
    | none=>simp only [ho] at h3 ⊢; exact h3
    | some o =>
      simp only [ho] at h3 ⊢
      by_cases hw:Region.wanted o (yielded os.toArray a.tmps) = true
      · simp only [hw,if_true] at h3 ⊢
        exact opFw (nodf_spec hd ho) h3
      · rw [if_neg hw] at h3 ⊢
        exact h3
theorem c_regLR [hm:HM P] (lp:SH) {id:Nat} {os:List Oper} (h:DC P n D W Bo os.toArray Q lp os.length (Array.replicate os.length false) F l) (hs:Region.noSelect os.toArray = true:=by kernel_rfl) (hd:nodf os = true:=by kernel_rfl) :
    CP r P n D W Bo (.region id os.toArray true) Q F l:=by
  intro a w ha hw
  have h1:=(h hs a w.drew ha hw.drew).any
  have h2:(Code.region id os.toArray true).wpIn (Fw r) 0 P (Q0 Q) a w:=wpIn_region_any hm.h (by simpa using anyFw (r:=r) hd _ _ _ _ h1)
  exact wpIn_mono h2 fun e a w hq=>by obtain ⟨rfl,hq⟩:=hq; exact hq
end
end Eng
end
section
namespace Tp
open Go Eng Gf Sha Sig Wr Cod Cha Rst Go.Proofs.YtegfmbefhpagmaaGreatDoor
theorem xor_one (n:Nat):n ^^^ 1 = sib n:=by
  have h1:(n ^^^ 1) / 2 = n / 2:=by rw [Nat.xor_div_two]; simp
  have h2:(n ^^^ 1) % 2 = (n + 1) % 2:=by
    have h9:=Nat.testBit_xor n 1 0
    simp only [Nat.testBit_zero] at h9
    rcases Nat.mod_two_eq_zero_or_one n with h | h <;> rcases Nat.mod_two_eq_zero_or_one (n ^^^ 1) with h' | h' <;> simp [h,h'] at h9 <;> omega
  unfold sib
  split <;> omega
def sibs (n k:Nat):List Int:=(List.range k).map fun i=>((sib (up n i):Nat):Int)
theorem sibs_length (n k:Nat):(sibs n k).length = k:=by simp [sibs]
theorem sibs_succ' (n k:Nat):sibs n (k + 1) = sibs n k ++ [((sib (up n k):Nat):Int)]:=by simp [sibs,List.range_succ]
theorem sibs_succ (n k:Nat):is (sibs n (k + 1)) = is (sibs n k) ++ [I ((sib (up n k):Nat):Int)]:=by rw [sibs_succ']; simp [is]
end Tp
namespace Eng
open Go Go.RowKit Tp
section
variable {P:Program} {n:Nat} {D:List Deferred} {W:World} {Bo:List Nat} {F:List (Nat × Value)} {l:SH} {d:Option Tmp} {ty:TypeId} {ps:String} {af:Array Edge} {g:Option (Nat × Bool)} {x y:Operand} {ta tb:TypeId}
theorem y_xor1 {p:Nat} {q:Int} (hx:evO F x = some (I (p:Int)):=by rfl) (hy:evO F y = some (I q):=by rfl) (hq:q = 1) (hp:p < 4611686018427387904) :
    Y P n D W Bo ⟨d,.binOp .xor ta x y tb,ty,ps,af,g⟩ F l (I (sib p:Nat)) :=
  .mk (by simp) fun a w ha _=>by
    refine exec_bin P w w _ _ _ _ _ _ _ _ _ _ _ _ ⟨by simp,by simp⟩ ?_
    rw [ha.eval hx,ha.eval hy]
    subst hq
    simp only [binOp,ne_eq,not_true_eq_false,if_false,Op.intBits,Sem.run_pure]
    have e1:(BitVec.ofInt IntKind.i64.bits (p:Int)).toNat = p:=bitsn (k:=.i64) (by simp only [IntKind.bits]; omega)
    have e2:(BitVec.ofInt IntKind.i64.bits 1).toNat = 1:=by decide
    have e3:sib p ≤ p + 1:=by unfold sib; split <;> omega
    rw [BitVec.toNat_xor,e1,e2,xor_one,wrap_i64 (by unfold R64; omega)]
end
end Eng
namespace Go.Proofs.YtegfmbefhpagmaaGreatDoor
open Go Eng Gf Sha Sig Wr Cod Cha Rst Tp
set_option maxRecDepth 100000
set_option linter.all false
theorem parent_ok (w:World) (n:Nat) (h:n < 4611686018427387904):Pure Tryz.prog 193 [I (n:Nat)] w (I (n / 2:Nat)):=by
  refine enter Tryz.func193 Tryz.ntmps193 ?_
  refine c_seq<|c_reg<|s_y y_as<|s_nil<|q_then<|c_seq<|c_reg<|s_y y_mv<|s_y (y_quo (p:=((n:Nat):Int)) (q:=2))<|?_
  rw [show ((n:Nat):Int) / 2 = ((n / 2:Nat):Int) by omega]
  refine s_y y_as<|s_nil<|q_then<|c_ret<|?_
  exact ret1 Tryz.results193 rv_t fun w' hw=>⟨rfl,hw⟩
theorem sibling_ok (w:World) (n:Nat) (h:n < 4611686018427387904):Pure Tryz.prog 129 [I (n:Nat)] w (I (sib n:Nat)):=by
  refine enter Tryz.func129 Tryz.ntmps129 ?_
  refine c_seq<|c_reg<|s_y y_as<|s_nil<|q_then<|c_seq<|c_reg<|s_y y_mv<|s_y (y_xor1 (p:=n) (q:=1) (hq:=rfl) (hp:=h))<|s_y y_as<|s_nil<|q_then<|c_ret<|?_
  exact ret1 Tryz.results129 rv_t fun w' hw=>⟨rfl,hw⟩
theorem pLeaf_ok (w:World) (dn:Nat) (h:dn < 512):Pure Tryz.prog 162 [I (dn:Nat)] w (.tuple #[I ((512 + dn:Nat):Int),I 0]):=by
  refine enter Tryz.func162 Tryz.ntmps162 ?_
  refine c_seq<|c_reg<|s_y y_as<|s_y y_as<|s_nil<|q_then<|c_seq<|c_seq<|c_reg<|s_y y_mv<|s_kf (y_lss (p:=((dn:Nat):Int)) (q:=0)) (by omega)<|s_y y_mv<|s_y y_mv<|s_kf (y_geq (p:=((dn:Nat):Int)) (q:=512)) (by omega)<|s_y y_pk<|s_nil<|q_then<|c_f<|c_skip<|q_then<|c_seq<|c_reg<|s_y y_mv<|s_y (y_add (p:=512) (q:=((dn:Nat):Int)))<|?_
  rw [show (512:Int) + ((dn:Nat):Int) = ((512 + dn:Nat):Int) by omega]
  refine s_y y_as<|s_y y_as<|s_nil<|q_then<|c_ret<|?_
  exact ret2 Tryz.results162 rv_t rv_t fun w' hw=>⟨rfl,hw⟩
theorem pUp_ok (w:World) (n:Nat):Gives Tryz.prog 163 [I (n:Nat)] w [] (fun y:Nat=>.func (.func 192) #[] #[.pointer (some ⟨y,0,none⟩)]) (fun y=>[.blk y (.cells #[I (n:Nat)] 215 (0,0))]) (fun _=>True):=by
  refine enter Tryz.func163 Tryz.ntmps163 ?_
  refine c_seq<|c_reg<|s_box rfl fun b1=>s_y y_as<|s_nil<|q_then<|c_seq<|c_reg<|s_y y_func<|s_y y_as<|s_nil<|q_then<|c_ret<|?_
  exact ret1 Tryz.results163 rv_t fun w' hw=>⟨b1,trivial,rfl,hw⟩
abbrev upM (rc:Loop) (L Dk b1 n0:Nat) {τ:Type} (X:Nat → τ → SH) (i j:Nat) (y:τ):SH:=.blk L (.loop rc) :: .blk Dk (.deferred (some [])) :: .blk b1 (.cells #[I (up n0 i:Nat)] 215 (0,0)) :: X j y
theorem up1_ok (w':World) (rc:Loop) (L Dk b1 n0 m:Nat) {τ:Type} (X:Nat → τ → SH) (y0:τ) (hs:∀ p ∈ upM rc L Dk b1 n0 X 0 0 y0,p.holds w') (hnd:(keys (upM rc L Dk b1 n0 X 0 0 y0)).Nodup) (hpz:rc.params.size = 1) (hm:up n0 m = 1) (hgt:∀ i,i < m → 1 < up n0 i) (hbig:n0 < 4611686018427387904)
    (hround:∀ (i:Nat) (y:τ) (w2:World),i < m → St w' (keys (upM rc L Dk b1 n0 X 0 0 y0)) w2 (upM rc L Dk b1 n0 X i i y) → RoundIn (Fw none) 0 Tryz.prog L rc.fn ((rc.params.zip #[I (up n0 i:Nat)]).foldl (fun tmps (t,a)=>tmps.setIfInBounds t a) rc.tmps) rc.assign rc.body w2 fun e' w3=>∃ y':τ,True ∧ e' = .returned (.bool true) ∧ St w' (keys (upM rc L Dk b1 n0 X 0 0 y0)) w3 (upM rc L Dk b1 n0 X i (i + 1) y')) :
    Calls Tryz.prog 192 #[.func (.yield L) #[] #[],.pointer (some ⟨b1,0,none⟩)] w' fun e' w2=>(∃ v,e' = .returned v) ∧ ∃ y,St w' (keys (upM rc L Dk b1 n0 X 0 0 y0)) w2 (upM rc L Dk b1 n0 X m m y):=by
  refine enterL (args:=[.func (.yield L) #[] #[],.pointer (some ⟨b1,0,none⟩)]) Tryz.func192 Tryz.ntmps192 hs hnd ?_
  refine c_block<|?_
  refine c_loop2 (fun (_:Nat) (_:τ)=>[(0,.func (.yield L) #[] #[]),(1,.pointer (some ⟨b1,0,none⟩))]) (fun i y=>upM rc L Dk b1 n0 X i i y) (fun i _=>i ≤ m) (fun i _=>m - i) 0 y0 (Nat.zero_le _) ⟨rfl,rfl,trivial⟩ (.refl _) ?_
  intro i y hi
  have hul:up n0 i ≤ n0:=Nat.div_le_self _ _
  by_cases hlt:i < m
  · have h1:=hgt i hlt
    refine c_seq<|c_seq<|c_reg<|s_y (y_ld (b:=b1) (v:=I (up n0 i:Nat)))<|s_kt (y_gtr (p:=((up n0 i:Nat):Int)) (q:=1)) (by omega)<|s_y y_mv<|s_y y_mv<|s_y (y_ld (b:=b1) (v:=I (up n0 i:Nat)))<|?_
    refine s_yield (L:=L) (rc:=rc) (σ:=τ) (fun _=>.bool true) (fun y'=>upM rc L Dk b1 n0 X i (i + 1) y') (fun _=>True) (.head _) hpz (fun w2 h2=>hround i y w2 hlt h2) (fun y' _=>?_)
    refine s_y y_pk<|s_nil<|q_then<|c_t<|c_skip<|q_then<|c_seq<|c_block<|c_skip<|q_nb<|q_then<|c_reg<|s_y (y_ld (b:=b1) (v:=I (up n0 i:Nat)))<|s_pure (fun w' hw=>parent_ok w' (up n0 i) (by omega))<|?_
    rw [← up_succ]
    refine s_st (b:=b1) (v:=I (up n0 (i + 1):Nat)) (cs:=#[I (up n0 i:Nat)]) (hl:=Nat.zero_lt_one) ?_
    exact s_nil<|q_round2 (x:=i) (y:=y) (i + 1) y' (by omega) (by omega) ⟨rfl,rfl,trivial⟩ (.refl _)
  · obtain rfl:i = m:=by omega
    refine c_seq<|c_seq<|c_reg<|s_y (y_ld (b:=b1) (v:=I (up n0 i:Nat)))<|s_kf (y_gtr (p:=((up n0 i:Nat):Int)) (q:=1)) (by omega)<|s_y y_mv<|s_no<|s_no<|s_no<|s_y y_pk<|s_nil<|q_then<|c_f<|c_exit<|q_ex<|q_ex<|q_exb<|?_
    exact ret0 Tryz.results192 (fun w2 h2=>⟨⟨_,rfl⟩,y,h2⟩) _ (.inr rfl)
theorem along_ok (w:World) (dn:Nat) (h:dn < 512):Gives Tryz.prog 128 [I (dn:Nat),(.func (.func 129) #[] #[])] w [] (fun y:Option Addr × Nat=>.tuple #[.slice y.1 9 y.2,I 0]) (fun y=>[.row y.1 y.2 3 1 9 (is (sibs (512 + dn) 9))]) (fun _=>True):=by
  refine enterM Tryz.func128 Tryz.ntmps128 ?_
  refine c_seq<|c_reg<|s_box rfl fun b3=>s_alloc fun b4=>s_y y_as<|s_nil<|q_then<|c_seq<|c_reg<|s_y y_mv<|s_pure (fun w' hw=>pLeaf_ok w' dn h)<|s_y y_mv<|s_y y_ext<|s_y y_ext<|s_y y_as<|s_y y_as<|s_nil<|q_then<|c_seq<|c_seq<|c_reg<|s_y y_mv<|s_nf (y_neq (p:=0) (q:=0)) (by trivial)<|s_nil<|q_then<|c_f<|c_skip<|q_then<|c_seq<|c_seq<|c_reg<|s_y y_mv<|s_nilrow 3 1<|s_gives (fun w' hw=>pUp_ok w' (512 + dn)) fun b1 _=>s_nil<|q_then<|c_block<|?_
  refine c_rangeN (σ:=Option Addr × Nat) (fun y=>.blk b1 (.cells #[I (up (512 + dn) 9:Nat)] 215 (0,0)) :: (fun (j:Nat) (y:Option Addr × Nat)=>[.row y.1 y.2 3 1 j (is (sibs (512 + dn) j)),.blk b4 (.cells #[.slice y.1 j y.2] 25 (0,0)),.blk b3 (.cells #[(.func (.func 129) #[] #[])] 213 (0,0))]) 9 y) (fun _=>True) (fun fn tm Dk L hfr w' hw'=>?_) (fun Dk y _=>?_)
  rotate_left
  · refine q_nb<|q_then<|c_seq<|c_reg<|s_y (y_ld (b:=b4) (v:=.slice y.1 9 y.2))<|s_st (b:=b4) (v:=.slice y.1 9 y.2) (cs:=#[.slice y.1 9 y.2]) (hl:=Nat.zero_lt_one) ?_
    refine s_y y_as<|s_nil<|q_then<|c_ret<|?_
    exact ret2D Tryz.results128 (.head _) (rv_cf (b:=b4) (v:=.slice y.1 9 y.2)) rv_t fun w' hw=>⟨y,trivial,rfl,hw.sub (.cons _ (.cons _ (.cons_cons _ (List.nil_sublist _))))⟩
  · have hup0:up (512 + dn) 0 = (512 + dn):=by unfold up; omega
    have hup9:up (512 + dn) 9 = 1:=by unfold up; omega
    have hgt:∀ i,i < 9 → 1 < up (512 + dn) i:=fun i hi=>Nat.lt_of_lt_of_le (show 1 < 512 / 2 ^ 8 by decide) (Nat.le_trans (Nat.div_le_div_left (Nat.pow_le_pow_right (by decide) (by omega)) (Nat.pow_pos (by decide))) (Nat.div_le_div_right (by omega)))
    have cvt:∀ rc,St w [] w' (.blk L (.loop rc) :: .blk Dk (.deferred (some [])) :: .blk b1 (.cells #[I ((512 + dn):Nat)] 215 (0,0)) :: (fun (j:Nat) (y:Option Addr × Nat)=>[.row y.1 y.2 3 1 j (is (sibs (512 + dn) j)),.blk b4 (.cells #[.slice y.1 j y.2] 25 (0,0)),.blk b3 (.cells #[(.func (.func 129) #[] #[])] 213 (0,0))]) 0 (none,0)) → St w [] w' (upM rc L Dk b1 (512 + dn) (fun (j:Nat) (y:Option Addr × Nat)=>[.row y.1 y.2 3 1 j (is (sibs (512 + dn) j)),.blk b4 (.cells #[.slice y.1 j y.2] 25 (0,0)),.blk b3 (.cells #[(.func (.func 129) #[] #[])] 213 (0,0))]) 0 0 (none,0) ++ []):=fun rc h=>by rw [List.append_nil]; unfold upM; rw [hup0]; exact h
    have hw2:=cvt _ hw'
    have hps:=hw2.has
    refine (up1_ok w' _ L Dk b1 (512 + dn) 9 (fun (j:Nat) (y:Option Addr × Nat)=>[.row y.1 y.2 3 1 j (is (sibs (512 + dn) j)),.blk b4 (.cells #[.slice y.1 j y.2] 25 (0,0)),.blk b3 (.cells #[(.func (.func 129) #[] #[])] 213 (0,0))]) (none,0) hps.1 hps.2 rfl hup9 hgt (by omega) (fun i y w2 hi h2=>?_)).mono fun e' w2 ⟨hv,y,h2⟩=>⟨hv,y,trivial,by have h9:=hw2.transL (l2:=[]) (.refl _) h2; rw [List.append_nil] at h9; exact h9⟩
    have hul:up (512 + dn) i ≤ (512 + dn):=Nat.div_le_self _ _
    have hf9:=(hfr []).put 18 (I (up (512 + dn) i:Nat)) rfl
    refine round_ok (F1:=[(3,.pointer (some ⟨b3,0,none⟩)),(4,.pointer (some ⟨b4,0,none⟩)),(7,I (up (512 + dn) i:Nat))]) h2 hf9 (by simp [Act.put]) (by rfl) (.head _) (l1:=upM _ L Dk b1 (512 + dn) (fun (j:Nat) (y:Option Addr × Nat)=>[.row y.1 y.2 3 1 j (is (sibs (512 + dn) j)),.blk b4 (.cells #[.slice y.1 j y.2] 25 (0,0)),.blk b3 (.cells #[(.func (.func 129) #[] #[])] 213 (0,0))]) i i y) ?_ ?_
    · refine c_reg<|s_y y_as<|s_nil<|q_join ⟨rfl,rfl,rfl,trivial⟩ (List.Sublist.refl _)
    · skip
      refine c_block<|c_regLR [.blk b3 (.cells #[(.func (.func 129) #[] #[])] 213 (0,0))]<|r_y 1 rfl (y_ld (b:=b3) (v:=(.func (.func 129) #[] #[])))<|r_y 2 rfl y_mv<|r_w2 0 3 rfl rfl ?_ ?_ (hsub:=by repeat (first | exact List.nil_sublist _ | exact List.Sublist.refl _ | apply List.Sublist.cons_cons | apply List.Sublist.cons))
      · refine s_y (y_ld (b:=b4) (v:=.slice y.1 i y.2))<|?_
        refine r_K<|r_W 3 rfl<|s_pure (fun w3 h3=>sibling_ok w3 (up (512 + dn) i) (by omega))<|?_
        refine r_K<|r_W 4 rfl<|s_bslr (cs:=[I ((sib (up (512 + dn) i):Nat):Int)]) fun b23=>?_
        refine r_K<|r_W 5 rfl<|s_app (m:=1) (fun w3 h3=>Src.slice (rdR (.head _) w3 h3) rfl) (h1:=one_allA rfl) (hm:=.tail _ (.tail _ (.tail _ (.tail _ (.head _))))) (hrep:=fun _ _=>.tail _ (.tail _ (.tail _ (.tail _ (.head _))))) fun a24 c24 h24=>?_
        rw [← sibs_succ]
        refine r_K<|r_W 6 rfl<|s_st (b:=b4) (v:=.slice a24 (i + 1) c24) (cs:=#[.slice y.1 i y.2]) (hl:=Nat.zero_lt_one) ?_
        refine r_K<|r_E<|q_nb<|q_rn (.tail _ (.head _)) fun w3 h3=>⟨(a24,c24),trivial,rfl,h3.sub (.cons _ (.refl _))⟩
      · refine s_pure (fun w3 h3=>sibling_ok w3 (up (512 + dn) i) (by omega))<|?_
        refine r_K<|r_w2 0 4 rfl rfl ?_ ?_ (hsub:=by repeat (first | exact List.nil_sublist _ | exact List.Sublist.refl _ | apply List.Sublist.cons_cons | apply List.Sublist.cons))
        · refine s_y (y_ld (b:=b4) (v:=.slice y.1 i y.2))<|?_
          refine r_K<|r_W 4 rfl<|s_bslr (cs:=[I ((sib (up (512 + dn) i):Nat):Int)]) fun b23=>?_
          refine r_K<|r_W 5 rfl<|s_app (m:=1) (fun w3 h3=>Src.slice (rdR (.head _) w3 h3) rfl) (h1:=one_allA rfl) (hm:=.tail _ (.tail _ (.tail _ (.tail _ (.head _))))) (hrep:=fun _ _=>.tail _ (.tail _ (.tail _ (.tail _ (.head _))))) fun a24 c24 h24=>?_
          rw [← sibs_succ]
          refine r_K<|r_W 6 rfl<|s_st (b:=b4) (v:=.slice a24 (i + 1) c24) (cs:=#[.slice y.1 i y.2]) (hl:=Nat.zero_lt_one) ?_
          refine r_K<|r_E<|q_nb<|q_rn (.tail _ (.head _)) fun w3 h3=>⟨(a24,c24),trivial,rfl,h3.sub (.cons _ (.refl _))⟩
        · refine s_bslr (cs:=[I ((sib (up (512 + dn) i):Nat):Int)]) fun b23=>?_
          refine r_K<|r_W 0 rfl<|s_y (y_ld (b:=b4) (v:=.slice y.1 i y.2))<|?_
          refine r_K<|r_W 5 rfl<|s_app (m:=1) (fun w3 h3=>Src.slice (rdR (.head _) w3 h3) rfl) (h1:=one_allA rfl) (hm:=.tail _ (.tail _ (.tail _ (.tail _ (.head _))))) (hrep:=fun _ _=>.tail _ (.tail _ (.tail _ (.tail _ (.head _))))) fun a24 c24 h24=>?_
          rw [← sibs_succ]
          refine r_K<|r_W 6 rfl<|s_st (b:=b4) (v:=.slice a24 (i + 1) c24) (cs:=#[.slice y.1 i y.2]) (hl:=Nat.zero_lt_one) ?_
          refine r_K<|r_E<|q_nb<|q_rn (.tail _ (.head _)) fun w3 h3=>⟨(a24,c24),trivial,rfl,h3.sub (.cons _ (.refl _))⟩
theorem Copath_ok (w:World) (dn:Nat) (h:dn < 512):Gives Tryz.prog 72 [I (dn:Nat)] w [] (fun y:Option Addr × Nat=>.tuple #[.slice y.1 9 y.2,I 0]) (fun y=>[.row y.1 y.2 3 1 9 (is (sibs (512 + dn) 9))]) (fun _=>True):=by
  refine enter Tryz.func72 Tryz.ntmps72 ?_
  refine c_seq<|c_reg<|s_y y_as<|s_y y_as<|s_nil<|q_then<|c_seq<|c_reg<|s_y y_mv<|s_gives (fun w' hw=>along_ok w' dn h) fun (y:Option Addr × Nat) _=>s_y y_ext<|s_y y_ext<|s_y y_as<|s_y y_as<|s_nil<|q_then<|c_ret<|?_
  exact ret2 Tryz.results72 rv_t rv_t fun w' hw=>⟨y,trivial,rfl,hw⟩
end Go.Proofs.YtegfmbefhpagmaaGreatDoor
end
