/- Joined texts: RsA Slices RsB RsC RsR RsS ShM ShN ShO ShP ShQ ShR ShS ShT Law08 LawB08 ShU RsT EqI SigA RsQ RsU RsV RsW. -/
import Derived.WalkKit
import Derived.TacticsInMore
import Derived.OrdersIn
import Derived.RangeFuncCalls
import Derived.Deep.LoopGhost
import Derived.Deep.Quiet
import Derived.KernelRfl
import Derived.Laws.BytesString
import Derived.Laws.StructEq
import Derived.MapKept
import Derived.Laws.IdiomStrings
import Derived.Recover
import Derived.RangeFuncLeaves
import Derived.ChangeKeysEq
import Derived.Maps.RangeRun
import Derived.Laws.Build
import Derived.ProofKit
import Derived.LaidMore
import Derived.LaidHandle
import Derived.OpenShut
import Derived.FnData
import Derived.SizedLaws
import Derived.ChangeMaps5
import Derived.Deep.Slices
import Derived.JoinedOf
import Derived.SevenTiedAt
import Derived.Test.YtojohglifijnnaaGreatDoorChecked
import Derived.Test.YtojohglifijnnaaGreatDoorRows
import Derived.Test.YtojohglifijnnaaGreatDoorCards
import Derived.Test.YtojohglifijnnaaGreatDoorTie
import Derived.Test.YtojohglifijnnaaGreatDoorSg4
set_option linter.all false
section
namespace Go.Proofs.YtojohglifijnnaaGreatDoor
open Go Eng Gf Sha Sig Wr Cod Cha Rst
set_option maxRecDepth 100000
theorem y_brfail {n:Nat} {D:List Deferred} {W:World} {Bo:List Nat} {F:List (Nat × Value)} {l:SH} {d:Option Tmp} {ty:TypeId} {ps:String} {af:Array Edge} {g:Option (Nat × Bool)} {parts:Array (Nat × Operand)} {vs:List (Nat × Value)} {cs:List Value}
    (hp:evP F parts.toList = some vs:=by rfl) (hf:fillL (fun i=>(#[(0,1)]:Array (Nat × Nat))[i]?) [I 0] vs = some cs:=by rfl) :
    Y Tryz.prog n D W Bo ⟨d,.build 172 parts,ty,ps,af,g⟩ F l (.agg cs.toArray) :=
  y_blds Tryz.underlying172 (fun w=>by kernel_rfl) hp hf
theorem IxF_Ap (w:World) (a:Option Addr) (c:Nat) (q:List Ap) (kf:FuncId) (cs:List Value) [HF Tryz.prog kf] (p:Ap → Bool) (hr:Rd w a (apc q)) (hl:q.length ≤ 1000000000000000)
    (hf:∀ x ∈ q,∀ w',St w [] w' [] → Pure Tryz.prog kf ([.agg x.cell.toArray] ++ cs) w' (.bool (p x))) :
    Pure Tryz.prog 132 [.slice a q.length c,.func (.func kf) #[] cs.toArray] w (I (fidx p q)):=by
  have hcl:q.length ≤ (apc q).length:=by rw [apc_length]; omega
  refine enter Tryz.func132 Tryz.ntmps132 ?_
  refine c_seq<|c_reg<|s_y y_as<|s_nil<|q_then<|c_seq<|c_seq<|c_reg<|s_y y_mv<|s_y y_len<|s_y y_mv<|s_nil<|q_then<|c_block<|?_
  refine c_loop (fun i:Nat=>[(0,.slice a q.length c),(1,.func (.func kf) #[] cs.toArray),(7,I q.length),(8,I i)]) (fun _=>[]) (fun i=>i ≤ q.length ∧ ∀ j,j < i → p (q.getD j default) = false) (fun i=>q.length - i) 0 ⟨by omega,fun _ h=>by omega⟩ ⟨rfl,rfl,rfl,rfl,trivial⟩ (List.Sublist.refl _) ?_
  intro i ⟨hi,hj⟩
  refine c_seq<|c_reg<|s_y (y_lss (p:=i) (q:=q.length))<|s_nil<|q_then<|c_seq<|c_ifd (fun h9=>?_) (fun h9=>?_)
  · have hiq:i < q.length:=by omega
    obtain ⟨x,hx⟩:∃ x,q[i]? = some x:=⟨_,List.getElem?_eq_getElem hiq⟩
    have hgd:q.getD i default = x:=by rw [List.getD_eq_getElem?_getD,hx]; rfl
    refine c_skip<|q_then<|c_seq<|c_block<|c_seq<|c_reg<|s_y y_mv<|s_y y_as<|s_nil<|q_then<|c_seq<|c_reg<|s_y y_mv<|s_y y_mv<|s_y y_mv<|s_y (y_ixs (xs:=apc q) (i:=((i:Nat):Int)) (hl:=hcl))<|s_y (y_ldra (i:=i * 5) (cs:=x.cell) (rdW0 hr) rfl (fun j v h=>apc_at hx h))<|s_pure (fun w' hw=>hf x (List.mem_of_getElem? hx) w' hw)<|s_nil<|q_then<|c_if rfl (fun h16=>?_) (fun h16=>?_)
    · rw [fidx_hit (d:=default) hiq hj (by rw [hgd]; exact h16)]
      refine c_seq<|c_reg<|s_y y_mv<|s_y y_as<|s_nil<|q_then<|c_ret<|q_retb<|q_ret<|q_ret<|q_retb<|q_ret<|?_
      exact ret1 Tryz.results132 rv_t fun w' hw=>⟨rfl,hw⟩
    · refine c_skip<|q_nb<|q_then<|c_reg<|s_y (y_add (p:=i) (q:=1))<|s_y y_mv<|s_nil<|q_round (i + 1) ⟨by omega,fun j h=>(Nat.lt_or_ge j i).elim (hj j) fun h8=>by obtain rfl:j = i:=(by omega); rw [hgd]; exact h16⟩ (by omega) ⟨rfl,rfl,rfl,rfl,trivial⟩ (List.Sublist.refl _)
  · rw [fidx_none (d:=default) (p:=p) (l:=q) fun j h=>hj j (by omega)]
    refine c_exit<|q_ex<|q_ex<|q_exb<|q_then<|c_seq<|c_reg<|s_y y_as<|s_nil<|q_then<|c_ret<|?_
    exact ret1 Tryz.results132 rv_t fun w' hw=>⟨rfl,hw⟩
theorem CoF_Ap (w:World) (a:Option Addr) (c:Nat) (q:List Ap) (kf:FuncId) (cs:List Value) [HF Tryz.prog kf] (p:Ap → Bool) (hr:Rd w a (apc q)) (hl:q.length ≤ 1000000000000000)
    (hf:∀ x ∈ q,∀ w',St w [] w' [] → Pure Tryz.prog kf ([.agg x.cell.toArray] ++ cs) w' (.bool (p x))) :
    Pure Tryz.prog 59 [.slice a q.length c,.func (.func kf) #[] cs.toArray] w (.bool (q.any p)):=by
  rw [← fidx_any]
  refine enter Tryz.func59 Tryz.ntmps59 ?_
  refine c_seq<|c_reg<|s_y y_as<|s_nil<|q_then<|c_seq<|c_reg<|s_y y_mv<|s_y y_mv<|s_pure (fun w' hw=>IxF_Ap w' a c q kf cs p (hr.st hw) hl (fun x hx w2 h2=>hf x hx w2 (by have:=hw.trans h2; simpa using this)))<|s_y (y_geq (p:=fidx p q) (q:=0))<|s_y y_as<|s_nil<|q_then<|c_ret<|?_
  exact ret1 Tryz.results59 rv_t fun w' hw=>⟨rfl,hw⟩
theorem IxF_Vt (w:World) (a:Option Addr) (c:Nat) (q:List Vt) (kf:FuncId) (cs:List Value) [HF Tryz.prog kf] (p:Vt → Bool) (hr:Rd w a (vtc q)) (hl:q.length ≤ 1000000000000000)
    (hf:∀ x ∈ q,∀ w',St w [] w' [] → Pure Tryz.prog kf ([.agg x.cell.toArray] ++ cs) w' (.bool (p x))) :
    Pure Tryz.prog 145 [.slice a q.length c,.func (.func kf) #[] cs.toArray] w (I (fidx p q)):=by
  have hcl:q.length ≤ (vtc q).length:=by rw [vtc_length]; omega
  refine enter Tryz.func145 Tryz.ntmps145 ?_
  refine c_seq<|c_reg<|s_y y_as<|s_nil<|q_then<|c_seq<|c_seq<|c_reg<|s_y y_mv<|s_y y_len<|s_y y_mv<|s_nil<|q_then<|c_block<|?_
  refine c_loop (fun i:Nat=>[(0,.slice a q.length c),(1,.func (.func kf) #[] cs.toArray),(7,I q.length),(8,I i)]) (fun _=>[]) (fun i=>i ≤ q.length ∧ ∀ j,j < i → p (q.getD j default) = false) (fun i=>q.length - i) 0 ⟨by omega,fun _ h=>by omega⟩ ⟨rfl,rfl,rfl,rfl,trivial⟩ (List.Sublist.refl _) ?_
  intro i ⟨hi,hj⟩
  refine c_seq<|c_reg<|s_y (y_lss (p:=i) (q:=q.length))<|s_nil<|q_then<|c_seq<|c_ifd (fun h9=>?_) (fun h9=>?_)
  · have hiq:i < q.length:=by omega
    obtain ⟨x,hx⟩:∃ x,q[i]? = some x:=⟨_,List.getElem?_eq_getElem hiq⟩
    have hgd:q.getD i default = x:=by rw [List.getD_eq_getElem?_getD,hx]; rfl
    refine c_skip<|q_then<|c_seq<|c_block<|c_seq<|c_reg<|s_y y_mv<|s_y y_as<|s_nil<|q_then<|c_seq<|c_reg<|s_y y_mv<|s_y y_mv<|s_y y_mv<|s_y (y_ixs (xs:=vtc q) (i:=((i:Nat):Int)) (hl:=hcl))<|s_y (y_ldra (i:=i * 4) (cs:=x.cell) (rdW0 hr) rfl (fun j v h=>vtc_at hx h))<|s_pure (fun w' hw=>hf x (List.mem_of_getElem? hx) w' hw)<|s_nil<|q_then<|c_if rfl (fun h16=>?_) (fun h16=>?_)
    · rw [fidx_hit (d:=default) hiq hj (by rw [hgd]; exact h16)]
      refine c_seq<|c_reg<|s_y y_mv<|s_y y_as<|s_nil<|q_then<|c_ret<|q_retb<|q_ret<|q_ret<|q_retb<|q_ret<|?_
      exact ret1 Tryz.results145 rv_t fun w' hw=>⟨rfl,hw⟩
    · refine c_skip<|q_nb<|q_then<|c_reg<|s_y (y_add (p:=i) (q:=1))<|s_y y_mv<|s_nil<|q_round (i + 1) ⟨by omega,fun j h=>(Nat.lt_or_ge j i).elim (hj j) fun h8=>by obtain rfl:j = i:=(by omega); rw [hgd]; exact h16⟩ (by omega) ⟨rfl,rfl,rfl,rfl,trivial⟩ (List.Sublist.refl _)
  · rw [fidx_none (d:=default) (p:=p) (l:=q) fun j h=>hj j (by omega)]
    refine c_exit<|q_ex<|q_ex<|q_exb<|q_then<|c_seq<|c_reg<|s_y y_as<|s_nil<|q_then<|c_ret<|?_
    exact ret1 Tryz.results145 rv_t fun w' hw=>⟨rfl,hw⟩
theorem CoF_Vt (w:World) (a:Option Addr) (c:Nat) (q:List Vt) (kf:FuncId) (cs:List Value) [HF Tryz.prog kf] (p:Vt → Bool) (hr:Rd w a (vtc q)) (hl:q.length ≤ 1000000000000000)
    (hf:∀ x ∈ q,∀ w',St w [] w' [] → Pure Tryz.prog kf ([.agg x.cell.toArray] ++ cs) w' (.bool (p x))) :
    Pure Tryz.prog 78 [.slice a q.length c,.func (.func kf) #[] cs.toArray] w (.bool (q.any p)):=by
  rw [← fidx_any]
  refine enter Tryz.func78 Tryz.ntmps78 ?_
  refine c_seq<|c_reg<|s_y y_as<|s_nil<|q_then<|c_seq<|c_reg<|s_y y_mv<|s_y y_mv<|s_pure (fun w' hw=>IxF_Vt w' a c q kf cs p (hr.st hw) hl (fun x hx w2 h2=>hf x hx w2 (by have:=hw.trans h2; simpa using this)))<|s_y (y_geq (p:=fidx p q) (q:=0))<|s_y y_as<|s_nil<|q_then<|c_ret<|?_
  exact ret1 Tryz.results78 rv_t fun w' hw=>⟨rfl,hw⟩
theorem IxF_Ls (w:World) (a:Option Addr) (c:Nat) (q:List Ls) (kf:FuncId) (cs:List Value) [HF Tryz.prog kf] (p:Ls → Bool) (hr:Rd w a (lsc q)) (hl:q.length ≤ 1000000000000000)
    (hf:∀ x ∈ q,∀ w',St w [] w' [] → Pure Tryz.prog kf ([.agg x.cell.toArray] ++ cs) w' (.bool (p x))) :
    Pure Tryz.prog 76 [.slice a q.length c,.func (.func kf) #[] cs.toArray] w (I (fidx p q)):=by
  have hcl:q.length ≤ (lsc q).length:=by rw [lsc_length]; omega
  refine enter Tryz.func76 Tryz.ntmps76 ?_
  refine c_seq<|c_reg<|s_y y_as<|s_nil<|q_then<|c_seq<|c_seq<|c_reg<|s_y y_mv<|s_y y_len<|s_y y_mv<|s_nil<|q_then<|c_block<|?_
  refine c_loop (fun i:Nat=>[(0,.slice a q.length c),(1,.func (.func kf) #[] cs.toArray),(7,I q.length),(8,I i)]) (fun _=>[]) (fun i=>i ≤ q.length ∧ ∀ j,j < i → p (q.getD j default) = false) (fun i=>q.length - i) 0 ⟨by omega,fun _ h=>by omega⟩ ⟨rfl,rfl,rfl,rfl,trivial⟩ (List.Sublist.refl _) ?_
  intro i ⟨hi,hj⟩
  refine c_seq<|c_reg<|s_y (y_lss (p:=i) (q:=q.length))<|s_nil<|q_then<|c_seq<|c_ifd (fun h9=>?_) (fun h9=>?_)
  · have hiq:i < q.length:=by omega
    obtain ⟨x,hx⟩:∃ x,q[i]? = some x:=⟨_,List.getElem?_eq_getElem hiq⟩
    have hgd:q.getD i default = x:=by rw [List.getD_eq_getElem?_getD,hx]; rfl
    refine c_skip<|q_then<|c_seq<|c_block<|c_seq<|c_reg<|s_y y_mv<|s_y y_as<|s_nil<|q_then<|c_seq<|c_reg<|s_y y_mv<|s_y y_mv<|s_y y_mv<|s_y (y_ixs (xs:=lsc q) (i:=((i:Nat):Int)) (hl:=hcl))<|s_y (y_ldra (i:=i * 5) (cs:=x.cell) (rdW0 hr) rfl (fun j v h=>lsc_at hx h))<|s_pure (fun w' hw=>hf x (List.mem_of_getElem? hx) w' hw)<|s_nil<|q_then<|c_if rfl (fun h16=>?_) (fun h16=>?_)
    · rw [fidx_hit (d:=default) hiq hj (by rw [hgd]; exact h16)]
      refine c_seq<|c_reg<|s_y y_mv<|s_y y_as<|s_nil<|q_then<|c_ret<|q_retb<|q_ret<|q_ret<|q_retb<|q_ret<|?_
      exact ret1 Tryz.results76 rv_t fun w' hw=>⟨rfl,hw⟩
    · refine c_skip<|q_nb<|q_then<|c_reg<|s_y (y_add (p:=i) (q:=1))<|s_y y_mv<|s_nil<|q_round (i + 1) ⟨by omega,fun j h=>(Nat.lt_or_ge j i).elim (hj j) fun h8=>by obtain rfl:j = i:=(by omega); rw [hgd]; exact h16⟩ (by omega) ⟨rfl,rfl,rfl,rfl,trivial⟩ (List.Sublist.refl _)
  · rw [fidx_none (d:=default) (p:=p) (l:=q) fun j h=>hj j (by omega)]
    refine c_exit<|q_ex<|q_ex<|q_exb<|q_then<|c_seq<|c_reg<|s_y y_as<|s_nil<|q_then<|c_ret<|?_
    exact ret1 Tryz.results76 rv_t fun w' hw=>⟨rfl,hw⟩
theorem IxF_int (w:World) (a:Option Addr) (c:Nat) (q:List Int) (kf:FuncId) (cs:List Value) [HF Tryz.prog kf] (p:Int → Bool) (hr:Rd w a (is q)) (hl:q.length ≤ 1000000000000000)
    (hf:∀ x ∈ q,∀ w',St w [] w' [] → Pure Tryz.prog kf ([I x] ++ cs) w' (.bool (p x))) :
    Pure Tryz.prog 160 [.slice a q.length c,.func (.func kf) #[] cs.toArray] w (I (fidx p q)):=by
  refine enter Tryz.func160 Tryz.ntmps160 ?_
  refine c_seq<|c_reg<|s_y y_as<|s_nil<|q_then<|c_seq<|c_seq<|c_reg<|s_y y_mv<|s_y y_len<|s_y y_mv<|s_nil<|q_then<|c_block<|?_
  refine c_loop (fun i:Nat=>[(0,.slice a q.length c),(1,.func (.func kf) #[] cs.toArray),(7,I q.length),(8,I i)]) (fun _=>[]) (fun i=>i ≤ q.length ∧ ∀ j,j < i → p (q.getD j 0) = false) (fun i=>q.length - i) 0 ⟨by omega,fun _ h=>by omega⟩ ⟨rfl,rfl,rfl,rfl,trivial⟩ (List.Sublist.refl _) ?_
  intro i ⟨hi,hj⟩
  refine c_seq<|c_reg<|s_y (y_lss (p:=i) (q:=q.length))<|s_nil<|q_then<|c_seq<|c_ifd (fun h9=>?_) (fun h9=>?_)
  · have hiq:i < q.length:=by omega
    have hmem:q.getD i 0 ∈ q:=by rw [List.getD_eq_getElem?_getD,List.getElem?_eq_getElem hiq]; exact List.getElem_mem hiq
    refine c_skip<|q_then<|c_seq<|c_block<|c_seq<|c_reg<|s_y y_mv<|s_y y_as<|s_nil<|q_then<|c_seq<|c_reg<|s_y y_mv<|s_y y_mv<|s_y y_mv<|s_y (y_ixs1 (xs:=is q) (i:=((i:Nat):Int)))<|s_y (y_ldi (i:=i) (q:=q) (hi:=hiq))<|s_pure (fun w' hw=>hf _ hmem w' hw)<|s_nil<|q_then<|c_if rfl (fun h16=>?_) (fun h16=>?_)
    · rw [fidx_hit (d:=0) hiq hj h16]
      refine c_seq<|c_reg<|s_y y_mv<|s_y y_as<|s_nil<|q_then<|c_ret<|q_retb<|q_ret<|q_ret<|q_retb<|q_ret<|?_
      exact ret1 Tryz.results160 rv_t fun w' hw=>⟨rfl,hw⟩
    · refine c_skip<|q_nb<|q_then<|c_reg<|s_y (y_add (p:=i) (q:=1))<|s_y y_mv<|s_nil<|q_round (i + 1) ⟨by omega,fun j h=>(Nat.lt_or_ge j i).elim (hj j) fun h8=>by obtain rfl:j = i:=(by omega); exact h16⟩ (by omega) ⟨rfl,rfl,rfl,rfl,trivial⟩ (List.Sublist.refl _)
  · rw [fidx_none (d:=0) (p:=p) (l:=q) fun j h=>hj j (by omega)]
    refine c_exit<|q_ex<|q_ex<|q_exb<|q_then<|c_seq<|c_reg<|s_y y_as<|s_nil<|q_then<|c_ret<|?_
    exact ret1 Tryz.results160 rv_t fun w' hw=>⟨rfl,hw⟩
theorem CoF_int (w:World) (a:Option Addr) (c:Nat) (q:List Int) (kf:FuncId) (cs:List Value) [HF Tryz.prog kf] (p:Int → Bool) (hr:Rd w a (is q)) (hl:q.length ≤ 1000000000000000)
    (hf:∀ x ∈ q,∀ w',St w [] w' [] → Pure Tryz.prog kf ([I x] ++ cs) w' (.bool (p x))) :
    Pure Tryz.prog 105 [.slice a q.length c,.func (.func kf) #[] cs.toArray] w (.bool (q.any p)):=by
  rw [← fidx_any]
  refine enter Tryz.func105 Tryz.ntmps105 ?_
  refine c_seq<|c_reg<|s_y y_as<|s_nil<|q_then<|c_seq<|c_reg<|s_y y_mv<|s_y y_mv<|s_pure (fun w' hw=>IxF_int w' a c q kf cs p (hr.st hw) hl (fun x hx w2 h2=>hf x hx w2 (by have:=hw.trans h2; simpa using this)))<|s_y (y_geq (p:=fidx p q) (q:=0))<|s_y y_as<|s_nil<|q_then<|c_ret<|?_
  exact ret1 Tryz.results105 rv_t fun w' hw=>⟨rfl,hw⟩
theorem demand_ok (w:World) (c:Int):Pure Tryz.prog 57 [.bool true,I c] w (.tuple #[]):=by
  refine enter Tryz.func57 Tryz.ntmps57 ?_
  refine c_seq<|c_reg<|s_y y_mv<|s_y (v:=.bool false) (y_not (b:=true))<|s_nil<|q_then<|c_f<|c_skip<|?_
  exact ret0 Tryz.results57 (fun w' hw=>⟨rfl,hw⟩) _ (.inr rfl)
theorem demand_dies (w:World) (c:Int):Dies Tryz.prog 57 [.bool false,I c] w (.iface 172 (.agg #[I c])):=by
  refine enter Tryz.func57 Tryz.ntmps57 ?_
  refine c_seq<|c_reg<|s_y y_mv<|s_y (v:=.bool true) (y_not (b:=false))<|s_nil<|q_then<|c_t<|c_reg<|s_y y_mv<|s_y (y_brfail (cs:=[I c]))<|s_y y_mki<|s_panic<|?_
  exact Eng.die fun w' hw=>⟨rfl,hw⟩
theorem try_ok (w:World):Pure Tryz.prog 62 [I 0] w (.tuple #[]):=by
  refine enter Tryz.func62 Tryz.ntmps62 ?_
  refine c_reg<|s_y y_mv<|s_kt (y_eql (p:=0) (q:=0)) (by omega)<|s_y y_mv<|s_pure (fun w' hw=>demand_ok w' 0)<|s_nil<|?_
  exact ret0 Tryz.results62 (fun w' hw=>⟨rfl,hw⟩) _ (.inr rfl)
theorem try_dies (w:World) (c:Int) (h:c ≠ 0):Dies Tryz.prog 62 [I c] w (.iface 172 (.agg #[I c])):=by
  refine enter Tryz.func62 Tryz.ntmps62 ?_
  refine c_reg<|s_y y_mv<|s_kf (y_eql (p:=c) (q:=0)) h<|s_y y_mv<|s_dies (fun w' hw=>demand_dies w' c)<|?_
  exact Eng.die fun w' hw=>⟨rfl,hw⟩
theorem between_lo (w:World) (n a b:Int) (h:¬ a ≤ n):Pure Tryz.prog 61 [I n,I a,I b] w (.bool false):=by
  refine enter Tryz.func61 Tryz.ntmps61 ?_
  refine c_seq<|c_reg<|s_y y_as<|s_nil<|q_then<|c_seq<|c_reg<|s_y y_mv<|s_y y_mv<|s_kf (y_leq (p:=a) (q:=n)) h<|s_y y_mv<|s_no<|s_no<|s_no<|s_y y_pk<|s_y y_as<|s_nil<|q_then<|c_ret<|?_
  exact ret1 Tryz.results61 rv_t fun w' hw=>⟨rfl,hw.sub (List.nil_sublist _)⟩
theorem between_hi (w:World) (n a b:Int) (h:a ≤ n):Pure Tryz.prog 61 [I n,I a,I b] w (.bool (decide (n ≤ b))):=by
  refine enter Tryz.func61 Tryz.ntmps61 ?_
  refine c_seq<|c_reg<|s_y y_as<|s_nil<|q_then<|c_seq<|c_reg<|s_y y_mv<|s_y y_mv<|s_kt (y_leq (p:=a) (q:=n)) h<|s_y y_mv<|s_y y_mv<|s_y y_mv<|s_y (y_leq (p:=n) (q:=b))<|s_y y_pk<|s_y y_as<|s_nil<|q_then<|c_ret<|?_
  exact ret1 Tryz.results61 rv_t fun w' hw=>⟨rfl,hw.sub (List.nil_sublist _)⟩
theorem between_ok (w:World) (n a b:Int) (x:Bool) (h:(a ≤ n ∧ n ≤ b) ↔ x = true):Pure Tryz.prog 61 [I n,I a,I b] w (.bool x):=by
  by_cases h1:a ≤ n
  · have h2:=between_hi w n a b h1
    have e:decide (n ≤ b) = x:=by
      cases x with
      | true=>exact decide_eq_true (h.2 rfl).2
      | false=>exact decide_eq_false fun h3=>by have:=h.1 ⟨h1,h3⟩; cases this
    rwa [e] at h2
  · have e:x = false:=by
      cases x with
      | true=>exact absurd (h.2 rfl).1 h1
      | false=>rfl
    rw [e]; exact between_lo w n a b h1
theorem valid1_ok (w:World) (n:Int):Pure Tryz.prog 104 [I n] w (I n):=by
  refine enter Tryz.func104 Tryz.ntmps104 ?_
  refine c_seq<|c_reg<|s_y y_as<|s_nil<|q_then<|c_seq<|c_reg<|s_y y_mv<|s_y y_as<|s_nil<|q_then<|c_ret<|?_
  exact ret1 Tryz.results104 rv_t fun w' hw=>⟨rfl,hw.sub (List.nil_sublist _)⟩
theorem guardOf_ok' (w:World) (x:Ap):Pure Tryz.prog 120 [.agg #[I x.g,I x.u,.slice x.a x.q.length x.c,I x.r,I x.s]] w (I x.g):=by
  refine enter Tryz.func120 Tryz.ntmps120 ?_
  refine c_seq<|c_reg<|s_box rfl fun b1=>s_y y_as<|s_nil<|q_then<|c_seq<|c_reg<|s_y y_fa<|s_y (y_ld (b:=b1) (v:=I x.g))<|s_y y_as<|s_nil<|q_then<|c_ret<|?_
  exact ret1 Tryz.results120 rv_t fun w' hw=>⟨rfl,hw.sub (List.nil_sublist _)⟩
theorem deviceOf_ok' (w:World) (x:Vt):Pure Tryz.prog 122 [.agg #[I x.d,I x.no,I x.r,I x.s]] w (I x.d):=by
  refine enter Tryz.func122 Tryz.ntmps122 ?_
  refine c_seq<|c_reg<|s_box rfl fun b1=>s_y y_as<|s_nil<|q_then<|c_seq<|c_reg<|s_y y_fa<|s_y (y_ld (b:=b1) (v:=I x.d))<|s_y y_as<|s_nil<|q_then<|c_ret<|?_
  exact ret1 Tryz.results122 rv_t fun w' hw=>⟨rfl,hw.sub (List.nil_sublist _)⟩
theorem guardOf_ok (w:World) (x:Ap):Pure Tryz.prog 120 [.agg x.cell.toArray] w (I x.g):=guardOf_ok' w x
theorem deviceOf_ok (w:World) (x:Vt):Pure Tryz.prog 122 [.agg x.cell.toArray] w (I x.d):=deviceOf_ok' w x
theorem kvs_in {k:Int} {l:List Int} (h:k ∈ l):∃ p ∈ l.map (fun x=>(x,Value.bool true)),p.1 = k:=⟨_,List.mem_map.2 ⟨k,h,rfl⟩,rfl⟩
theorem kvs_all {k:Int} {l:List Int}:∀ p ∈ l.map (fun x=>(x,Value.bool true)),p.1 = k → p.2 = .bool true:=fun p hp _=>by
  obtain ⟨x,_,rfl⟩:=List.mem_map.1 hp; rfl
theorem kvs_no {k:Int} {l:List Int} (h:k ∉ l):∀ p ∈ l.map (fun x=>(x,Value.bool true)),p.1 ≠ k:=fun p hp e=>by
  obtain ⟨x,hx,rfl⟩:=List.mem_map.1 hp; exact h (e ▸ hx)
theorem take_nd {l:List Int} {k:Nat} {x:Int} (hx:l[k]? = some x) (h:(l.take k).Nodup) (hn:x ∉ l.take k):(l.take (k + 1)).Nodup ∧ l.take (k + 1) = l.take k ++ [x]:=by
  have e:l.take (k + 1) = l.take k ++ [x]:=by rw [List.take_add_one,hx]; rfl
  refine ⟨?_,e⟩
  rw [e,List.nodup_append]
  exact ⟨h,List.nodup_cons.2 ⟨by simp,List.nodup_nil⟩,fun a ha b hb=>by rw [List.mem_singleton] at hb; subst hb; exact fun e=>hn (e ▸ ha)⟩
theorem take_not {l:List Int} {k:Nat} {x:Int} (hx:l[k]? = some x) (hn:x ∈ l.take k):¬ l.Nodup:=fun h=>by
  obtain ⟨hk,rfl⟩:=List.getElem?_eq_some_iff.1 hx
  obtain ⟨j,hj,e⟩:=List.getElem_of_mem hn
  rw [List.getElem_take] at e
  have hjk:j < k:=by rw [List.length_take] at hj; omega
  exact List.pairwise_iff_getElem.1 h j k (by omega) hk hjk e
theorem dist_int (w:World) (a:Option Addr) (c:Nat) (q:List Int) (hr:Rd w a (is q)) (hl:q.length ≤ 1000000000000000) :
    Pure Tryz.prog 103 [.slice a q.length c,.func (.func 104) #[] #[]] w (.bool (decide q.Nodup)):=by
  refine enter Tryz.func103 Tryz.ntmps103 ?_
  refine c_seq<|c_reg<|s_y y_as<|s_nil<|q_then<|c_seq<|c_reg<|s_mkmap (.inl rfl) fun m8=>s_y y_as<|s_nil<|q_then<|c_seq<|c_seq<|c_reg<|s_y y_mv<|s_y y_len<|s_y y_mv<|s_nil<|q_then<|c_block<|?_
  refine c_loop (fun k:Nat=>[(0,.slice a q.length c),(1,.func (.func 104) #[] #[]),(5,.map (some m8)),(9,.slice a q.length c),(10,I q.length),(11,I k)]) (fun k=>[mblk m8 ((q.take k).map fun x=>(x,Value.bool true))]) (fun k=>k ≤ q.length ∧ (q.take k).Nodup) (fun k=>q.length - k) 0 ⟨by omega,by simp⟩ ⟨rfl,rfl,rfl,rfl,rfl,rfl,trivial⟩ (List.Sublist.refl _) ?_
  intro k ⟨hk,hnd⟩
  refine c_seq<|c_reg<|s_y (y_lss (p:=((k:Nat):Int)) (q:=((q.length:Nat):Int)))<|s_nil<|q_then<|c_seq<|c_ifd (fun h12=>?_) (fun h12=>?_)
  · have hkq:k < q.length:=by omega
    obtain ⟨x,hx⟩:∃ x,q[k]? = some x:=⟨_,List.getElem?_eq_getElem hkq⟩
    have hgd:q.getD k 0 = x:=by rw [List.getD_eq_getElem?_getD,hx]; rfl
    have hxk:q[k]? = some x:=hx
    refine c_skip<|q_then<|c_seq<|c_block<|c_seq<|c_reg<|s_y (y_ixs1 (xs:=is q) (i:=((k:Nat):Int)))<|s_y (y_ldi (i:=k) (q:=q) (hi:=hkq))<|?_
    rw [hgd]
    refine s_y y_as<|s_nil<|q_then<|c_seq<|c_seq<|c_reg<|s_y y_mv<|s_y y_mv<|s_y y_mv<|s_pure (fun w' hw=>valid1_ok w' x)<|?_
    by_cases hin:x ∈ q.take k
    · rw [decide_eq_false (take_not hxk hin)]
      refine s_y (v:=.bool true) (y_lookY (c2:=false) (k:=x) (kv:=((q.take k).map fun x=>(x,Value.bool true))) (kvs_in hin) kvs_all)<|s_nil<|q_then<|c_t<|c_seq<|c_reg<|s_y y_as<|s_nil<|q_then<|c_ret<|q_ret<|q_retb<|q_ret<|q_ret<|q_retb<|q_ret<|?_
      exact ret1 Tryz.results103 rv_t fun w' hw=>⟨rfl,hw.sub (List.nil_sublist _)⟩
    · obtain ⟨h1,h2⟩:=take_nd hxk hnd hin
      have e:((q.take k).map fun x=>(x,Value.bool true)) ++ [(x,Value.bool true)] = ((q.take (k + 1)).map fun x=>(x,Value.bool true)):=by rw [h2,List.map_append]; rfl
      refine s_y (v:=.bool false) (y_lookN (c2:=false) (k:=x) (kv:=((q.take k).map fun x=>(x,Value.bool true))) (kvs_no hin))<|s_nil<|q_then<|c_f<|c_skip<|q_then<|c_reg<|s_y y_mv<|s_y y_mv<|s_y y_mv<|s_pure (fun w' hw=>valid1_ok w' x)<|s_mupd (k:=x) (kv:=((q.take k).map fun x=>(x,Value.bool true))) (v:=.bool true) (hne:=kvs_no hin) ?_
      rw [e]
      refine s_nil<|q_nb<|q_then<|c_reg<|s_y (y_add (p:=((k:Nat):Int)) (q:=1))<|s_y y_mv<|s_nil<|?_
      exact q_round (k + 1) ⟨by omega,h1⟩ (by omega) ⟨rfl,rfl,rfl,rfl,rfl,rfl,trivial⟩ (by repeat (first | exact List.Sublist.refl _ | apply List.Sublist.cons))
  · have hkq:k = q.length:=by omega
    have e:q.Nodup:=by
      have h3:q.take k = q:=List.take_of_length_le (by omega)
      rwa [h3] at hnd
    rw [decide_eq_true e]
    refine c_exit<|q_ex<|q_ex<|q_exb<|q_then<|c_seq<|c_reg<|s_y y_as<|s_nil<|q_then<|c_ret<|?_
    exact ret1 Tryz.results103 rv_t fun w' hw=>⟨rfl,hw.sub (List.nil_sublist _)⟩
theorem dist_Ap (w:World) (a:Option Addr) (c:Nat) (q:List Ap) (hr:Rd w a (apc q)) (hl:q.length ≤ 1000000000000000) :
    Pure Tryz.prog 119 [.slice a q.length c,.func (.func 120) #[] #[]] w (.bool (decide (q.map Ap.g).Nodup)):=by
  have hcl:q.length ≤ (apc q).length:=by rw [apc_length]; omega
  refine enter Tryz.func119 Tryz.ntmps119 ?_
  refine c_seq<|c_reg<|s_y y_as<|s_nil<|q_then<|c_seq<|c_reg<|s_mkmap (.inl rfl) fun m8=>s_y y_as<|s_nil<|q_then<|c_seq<|c_seq<|c_reg<|s_y y_mv<|s_y y_len<|s_y y_mv<|s_nil<|q_then<|c_block<|?_
  refine c_loop (fun k:Nat=>[(0,.slice a q.length c),(1,.func (.func 120) #[] #[]),(5,.map (some m8)),(9,.slice a q.length c),(10,I q.length),(11,I k)]) (fun k=>[mblk m8 (((q.map Ap.g).take k).map fun x=>(x,Value.bool true))]) (fun k=>k ≤ q.length ∧ ((q.map Ap.g).take k).Nodup) (fun k=>q.length - k) 0 ⟨by omega,by simp⟩ ⟨rfl,rfl,rfl,rfl,rfl,rfl,trivial⟩ (List.Sublist.refl _) ?_
  intro k ⟨hk,hnd⟩
  refine c_seq<|c_reg<|s_y (y_lss (p:=((k:Nat):Int)) (q:=((q.length:Nat):Int)))<|s_nil<|q_then<|c_seq<|c_ifd (fun h12=>?_) (fun h12=>?_)
  · have hkq:k < q.length:=by omega
    obtain ⟨x,hx⟩:∃ x,q[k]? = some x:=⟨_,List.getElem?_eq_getElem hkq⟩
    have hxk:(q.map Ap.g)[k]? = some (Ap.g x):=by rw [List.getElem?_map,hx]; rfl
    refine c_skip<|q_then<|c_seq<|c_block<|c_seq<|c_reg<|s_y (y_ixs (xs:=apc q) (i:=((k:Nat):Int)) (hl:=hcl))<|s_y (y_ldra (i:=k * 5) (cs:=x.cell) (rdW0 hr) rfl (fun j v h=>apc_at hx h))<|s_alloc fun b7=>s_sta (b:=b7) (vs:=x.cell.toArray) (cs:=#[I 0,I 0,.slice none 0 0,I 0,I 0]) (h1:=fun v hv=>ap_one [x] v (by simpa [apc] using hv)) (hl:=rfl) (hs1:=rfl) ?_
    refine s_nil<|q_then<|c_seq<|c_seq<|c_reg<|s_y y_mv<|s_y y_mv<|s_y (y_lda (b:=b7) (cs:=x.cell.toArray) (hl:=rfl))<|s_pure (fun w' hw=>guardOf_ok w' x)<|?_
    by_cases hin:Ap.g x ∈ (q.map Ap.g).take k
    · rw [decide_eq_false (take_not hxk hin)]
      refine s_y (v:=.bool true) (y_lookY (c2:=false) (k:=Ap.g x) (kv:=(((q.map Ap.g).take k).map fun x=>(x,Value.bool true))) (kvs_in hin) kvs_all)<|s_nil<|q_then<|c_t<|c_seq<|c_reg<|s_y y_as<|s_nil<|q_then<|c_ret<|q_ret<|q_retb<|q_ret<|q_ret<|q_retb<|q_ret<|?_
      exact ret1 Tryz.results119 rv_t fun w' hw=>⟨rfl,hw.sub (List.nil_sublist _)⟩
    · obtain ⟨h1,h2⟩:=take_nd hxk hnd hin
      have e:(((q.map Ap.g).take k).map fun x=>(x,Value.bool true)) ++ [(Ap.g x,Value.bool true)] = (((q.map Ap.g).take (k + 1)).map fun x=>(x,Value.bool true)):=by rw [h2,List.map_append]; rfl
      refine s_y (v:=.bool false) (y_lookN (c2:=false) (k:=Ap.g x) (kv:=(((q.map Ap.g).take k).map fun x=>(x,Value.bool true))) (kvs_no hin))<|s_nil<|q_then<|c_f<|c_skip<|q_then<|c_reg<|s_y y_mv<|s_y y_mv<|s_y (y_lda (b:=b7) (cs:=x.cell.toArray) (hl:=rfl))<|s_pure (fun w' hw=>guardOf_ok w' x)<|s_mupd (k:=Ap.g x) (kv:=(((q.map Ap.g).take k).map fun x=>(x,Value.bool true))) (v:=.bool true) (hne:=kvs_no hin) ?_
      rw [e]
      refine s_nil<|q_nb<|q_then<|c_reg<|s_y (y_add (p:=((k:Nat):Int)) (q:=1))<|s_y y_mv<|s_nil<|?_
      exact q_round (k + 1) ⟨by omega,h1⟩ (by omega) ⟨rfl,rfl,rfl,rfl,rfl,rfl,trivial⟩ (by repeat (first | exact List.Sublist.refl _ | apply List.Sublist.cons))
  · have hkq:k = q.length:=by omega
    have e:(q.map Ap.g).Nodup:=by
      have h3:(q.map Ap.g).take k = (q.map Ap.g):=List.take_of_length_le (by rw [List.length_map]; omega)
      rwa [h3] at hnd
    rw [decide_eq_true e]
    refine c_exit<|q_ex<|q_ex<|q_exb<|q_then<|c_seq<|c_reg<|s_y y_as<|s_nil<|q_then<|c_ret<|?_
    exact ret1 Tryz.results119 rv_t fun w' hw=>⟨rfl,hw.sub (List.nil_sublist _)⟩
theorem dist_Vt (w:World) (a:Option Addr) (c:Nat) (q:List Vt) (hr:Rd w a (vtc q)) (hl:q.length ≤ 1000000000000000) :
    Pure Tryz.prog 121 [.slice a q.length c,.func (.func 122) #[] #[]] w (.bool (decide (q.map Vt.d).Nodup)):=by
  have hcl:q.length ≤ (vtc q).length:=by rw [vtc_length]; omega
  refine enter Tryz.func121 Tryz.ntmps121 ?_
  refine c_seq<|c_reg<|s_y y_as<|s_nil<|q_then<|c_seq<|c_reg<|s_mkmap (.inl rfl) fun m8=>s_y y_as<|s_nil<|q_then<|c_seq<|c_seq<|c_reg<|s_y y_mv<|s_y y_len<|s_y y_mv<|s_nil<|q_then<|c_block<|?_
  refine c_loop (fun k:Nat=>[(0,.slice a q.length c),(1,.func (.func 122) #[] #[]),(5,.map (some m8)),(9,.slice a q.length c),(10,I q.length),(11,I k)]) (fun k=>[mblk m8 (((q.map Vt.d).take k).map fun x=>(x,Value.bool true))]) (fun k=>k ≤ q.length ∧ ((q.map Vt.d).take k).Nodup) (fun k=>q.length - k) 0 ⟨by omega,by simp⟩ ⟨rfl,rfl,rfl,rfl,rfl,rfl,trivial⟩ (List.Sublist.refl _) ?_
  intro k ⟨hk,hnd⟩
  refine c_seq<|c_reg<|s_y (y_lss (p:=((k:Nat):Int)) (q:=((q.length:Nat):Int)))<|s_nil<|q_then<|c_seq<|c_ifd (fun h12=>?_) (fun h12=>?_)
  · have hkq:k < q.length:=by omega
    obtain ⟨x,hx⟩:∃ x,q[k]? = some x:=⟨_,List.getElem?_eq_getElem hkq⟩
    have hxk:(q.map Vt.d)[k]? = some (Vt.d x):=by rw [List.getElem?_map,hx]; rfl
    refine c_skip<|q_then<|c_seq<|c_block<|c_seq<|c_reg<|s_y (y_ixs (xs:=vtc q) (i:=((k:Nat):Int)) (hl:=hcl))<|s_y (y_ldra (i:=k * 4) (cs:=x.cell) (rdW0 hr) rfl (fun j v h=>vtc_at hx h))<|s_alloc fun b7=>s_sta (b:=b7) (vs:=x.cell.toArray) (cs:=#[I 0,I 0,I 0,I 0]) (h1:=fun v hv=>vt_one [x] v (by simpa [vtc] using hv)) (hl:=rfl) (hs1:=rfl) ?_
    refine s_nil<|q_then<|c_seq<|c_seq<|c_reg<|s_y y_mv<|s_y y_mv<|s_y (y_lda (b:=b7) (cs:=x.cell.toArray) (hl:=rfl))<|s_pure (fun w' hw=>deviceOf_ok w' x)<|?_
    by_cases hin:Vt.d x ∈ (q.map Vt.d).take k
    · rw [decide_eq_false (take_not hxk hin)]
      refine s_y (v:=.bool true) (y_lookY (c2:=false) (k:=Vt.d x) (kv:=(((q.map Vt.d).take k).map fun x=>(x,Value.bool true))) (kvs_in hin) kvs_all)<|s_nil<|q_then<|c_t<|c_seq<|c_reg<|s_y y_as<|s_nil<|q_then<|c_ret<|q_ret<|q_retb<|q_ret<|q_ret<|q_retb<|q_ret<|?_
      exact ret1 Tryz.results121 rv_t fun w' hw=>⟨rfl,hw.sub (List.nil_sublist _)⟩
    · obtain ⟨h1,h2⟩:=take_nd hxk hnd hin
      have e:(((q.map Vt.d).take k).map fun x=>(x,Value.bool true)) ++ [(Vt.d x,Value.bool true)] = (((q.map Vt.d).take (k + 1)).map fun x=>(x,Value.bool true)):=by rw [h2,List.map_append]; rfl
      refine s_y (v:=.bool false) (y_lookN (c2:=false) (k:=Vt.d x) (kv:=(((q.map Vt.d).take k).map fun x=>(x,Value.bool true))) (kvs_no hin))<|s_nil<|q_then<|c_f<|c_skip<|q_then<|c_reg<|s_y y_mv<|s_y y_mv<|s_y (y_lda (b:=b7) (cs:=x.cell.toArray) (hl:=rfl))<|s_pure (fun w' hw=>deviceOf_ok w' x)<|s_mupd (k:=Vt.d x) (kv:=(((q.map Vt.d).take k).map fun x=>(x,Value.bool true))) (v:=.bool true) (hne:=kvs_no hin) ?_
      rw [e]
      refine s_nil<|q_nb<|q_then<|c_reg<|s_y (y_add (p:=((k:Nat):Int)) (q:=1))<|s_y y_mv<|s_nil<|?_
      exact q_round (k + 1) ⟨by omega,h1⟩ (by omega) ⟨rfl,rfl,rfl,rfl,rfl,rfl,trivial⟩ (by repeat (first | exact List.Sublist.refl _ | apply List.Sublist.cons))
  · have hkq:k = q.length:=by omega
    have e:(q.map Vt.d).Nodup:=by
      have h3:(q.map Vt.d).take k = (q.map Vt.d):=List.take_of_length_le (by rw [List.length_map]; omega)
      rwa [h3] at hnd
    rw [decide_eq_true e]
    refine c_exit<|q_ex<|q_ex<|q_exb<|q_then<|c_seq<|c_reg<|s_y y_as<|s_nil<|q_then<|c_ret<|?_
    exact ret1 Tryz.results121 rv_t fun w' hw=>⟨rfl,hw.sub (List.nil_sublist _)⟩
theorem CloneI_ok (w:World) (a:Option Addr) (c:Nat) (q:List Int) (hr:Rd w a (is q)) (hl:q.length < 1000000000) :
    Gives Tryz.prog 36 [.slice a q.length c] w [] (fun y:Option Addr × Nat=>.slice y.1 q.length y.2) (fun y=>[.row y.1 y.2 3 1 q.length (is q)]) (fun _=>True):=by
  refine enter Tryz.func36 Tryz.ntmps36 ?_
  cases hn:a.isNone with
  | true =>
    have ha:a = none:=by cases a with
      | none=>rfl
      | some _=>cases hn
    subst ha
    have hq:q = []:=by
      rcases hr with h | ⟨b,off,cs,t,fz,h,_⟩
      · simpa [is] using h
      · cases h
    subst hq
    refine c_seq<|c_reg<|s_y y_as<|s_nil<|q_then<|c_seq<|c_seq<|c_reg<|s_y y_mv<|s_y y_eqln<|s_nil<|q_then<|c_t<|c_seq<|c_reg<|s_y y_as<|s_nil<|q_then<|c_ret<|q_ret<|?_
    exact ret1 Tryz.results36 rv_t fun w' hw=>⟨(none,0),trivial,rfl,(hw.nilRow _ _).sub (List.Sublist.refl _)⟩
  | false =>
    refine c_seq<|c_reg<|s_y y_as<|s_nil<|q_then<|c_seq<|c_seq<|c_reg<|s_y y_mv<|s_y y_eqln<|?_
    rw [hn]
    refine s_nil<|q_then<|c_f<|c_skip<|q_then<|c_seq<|c_reg<|s_bsl0 fun b5=>s_y y_mv<|s_app (m:=q.length) (fun w' hw=>Src.slice (rdW0 hr w' hw) (by rw [is_length,Nat.mul_one])) (h1:=fun v hv=>is_one hv) (hm:=.head _) (hrep:=fun _ _=>.head _) fun a7 c7 h7=>?_
    rw [List.nil_append,Nat.zero_add]
    refine s_y y_as<|s_nil<|q_then<|c_ret<|?_
    exact ret1 Tryz.results36 rv_t fun w' hw=>⟨(a7,c7),trivial,rfl,hw⟩
theorem ClipA_ok (w:World) (a:Option Addr) (n c:Nat) (hn:n ≤ c):Pure Tryz.prog 67 [.slice a n c] w (.slice a n n):=by
  refine enter Tryz.func67 Tryz.ntmps67 ?_
  refine c_seq<|c_reg<|s_y y_as<|s_nil<|q_then<|c_seq<|c_reg<|s_y y_mv<|s_y y_mv<|s_y y_len<|s_y y_mv<|s_y y_len<|s_y (y_slhmB (j:=((n:Nat):Int)) (h:=((n:Nat):Int)))<|s_y y_as<|s_nil<|q_then<|c_ret<|?_
  exact ret1 Tryz.results67 rv_t fun w' hw=>⟨rfl,hw⟩
theorem ClipV_ok (w:World) (a:Option Addr) (n c:Nat) (hn:n ≤ c):Pure Tryz.prog 80 [.slice a n c] w (.slice a n n):=by
  refine enter Tryz.func80 Tryz.ntmps80 ?_
  refine c_seq<|c_reg<|s_y y_as<|s_nil<|q_then<|c_seq<|c_reg<|s_y y_mv<|s_y y_mv<|s_y y_len<|s_y y_mv<|s_y y_len<|s_y (y_slhmB (j:=((n:Nat):Int)) (h:=((n:Nat):Int)))<|s_y y_as<|s_nil<|q_then<|c_ret<|?_
  exact ret1 Tryz.results80 rv_t fun w' hw=>⟨rfl,hw⟩
end Go.Proofs.YtojohglifijnnaaGreatDoor
end
section
namespace Go.Proofs.YtojohglifijnnaaGreatDoor
open Go Eng
theorem slices_Index_int_int_ok (w:World) (a:Option Addr) (q:List Int) (c:Nat) (v:Int) (hr:Rd w a (is q)) (hl:q.length < 9223372036854775807) :
    Pure Tryz.prog 58 [.slice a q.length c,I v] w (I (fidx (fun x=>decide (v = x)) q)):=by
  refine enter Tryz.func58 Tryz.ntmps58 ?_
  refine c_seq<|c_reg<|s_y y_as<|s_nil<|q_then<|c_seq<|c_seq<|c_reg<|s_y y_mv<|s_y y_len<|s_y y_mv<|s_nil<|q_then<|c_block<|?_
  refine c_loop (fun k:Nat=>[(0,.slice a q.length c),(1,I v),(7,I q.length),(8,I k)]) (fun _=>[]) (fun k=>k ≤ q.length ∧ ∀ i,i < k → decide (v = q.getD i 0) = false) (fun k=>q.length - k) 0 ⟨by omega,by omega⟩ ⟨rfl,rfl,rfl,rfl,trivial⟩ (List.Sublist.refl _) ?_
  intro k ⟨hk,hno⟩
  refine c_seq<|c_reg<|s_y y_lss<|s_nil<|q_then<|c_seq<|?_
  refine c_ifd (fun h9=>?_) (fun h9=>?_)
  · refine c_skip<|q_then<|c_seq<|c_block<|c_seq<|c_reg<|s_y y_mv<|s_y y_as<|s_nil<|q_then<|c_seq<|c_reg<|s_y y_mv<|s_y y_mv<|s_y y_mv<|s_y y_ixs1<|s_y y_ldi<|s_y y_eql<|s_nil<|q_then<|?_
    rw [Int.toNat_natCast]
    refine c_ifd (fun h16=>?_) (fun h16=>?_)
    · refine c_seq<|c_reg<|s_y y_mv<|s_y y_as<|s_nil<|q_then<|?_
      refine c_ret<|q_retb<|q_ret<|q_ret<|q_retb<|q_ret<|?_
      exact ret1 Tryz.results58 rv_t fun w' hw=>⟨by rw [fidx_hit (d:=0) (by omega) hno (by simpa using h16)],hw⟩
    · refine c_skip<|q_nb<|q_then<|c_reg<|s_y y_add<|s_y y_mv<|s_nil<|q_round (k + 1) ⟨by omega,?_⟩ (by omega) ⟨rfl,rfl,rfl,rfl,trivial⟩ (List.Sublist.refl _)
      intro i hi
      by_cases e:i = k
      · subst e; simpa using h16
      · exact hno i (by omega)
  · refine c_exit<|q_ex<|q_ex<|q_exb<|q_then<|c_seq<|c_reg<|s_y y_as<|s_nil<|q_then<|?_
    refine c_ret<|?_
    exact ret1 Tryz.results58 rv_t fun w' hw=>⟨by rw [fidx_none (d:=0) (fun i hi=>hno i (by omega))],hw⟩
theorem slices_Contains_int_int_ok (w:World) (a:Option Addr) (q:List Int) (c:Nat) (v:Int) (hr:Rd w a (is q)) (hl:q.length < 9223372036854775807) :
    Pure Tryz.prog 124 [.slice a q.length c,I v] w (.bool (q.any (fun x=>decide (v = x)))):=by
  refine enter Tryz.func124 Tryz.ntmps124 ?_
  refine c_seq<|c_reg<|s_y y_as<|s_nil<|q_then<|c_seq<|c_reg<|s_y y_mv<|s_y y_mv<|s_pure (fun w' hw=>slices_Index_int_int_ok w' a q c v (hr.st hw) hl)<|s_y y_geq<|s_y y_as<|s_nil<|q_then<|?_
  refine c_ret<|?_
  exact ret1 Tryz.results124 rv_t fun w' hw=>⟨by rw [fidx_any],hw⟩
end Go.Proofs.YtojohglifijnnaaGreatDoor
end
section
namespace Rst
open Go Eng
def vB (id g:Int):Bool:=decide (g = id ∨ ¬ ((0:Int) ≤ g ∧ (g:Int) ≤ 63))
theorem vB_any {p:Pn}:p.gs.any (vB p.id) = false ↔ ∀ g ∈ p.gs,g ≠ p.id ∧ 0 ≤ g ∧ g ≤ 63:=by
  rw [List.any_eq_false]
  constructor
  · intro h g hg
    have h1:=h g hg
    unfold vB at h1
    simp only [decide_eq_true_eq,not_or,Classical.not_not] at h1
    exact h1
  · intro h g hg
    unfold vB
    simp only [decide_eq_true_eq,not_or,Classical.not_not]
    exact h g hg
theorem vB_no {p:Pn} (h:¬ ∀ g ∈ p.gs,g ≠ p.id ∧ 0 ≤ g ∧ g ≤ 63):p.gs.any (vB p.id) = true:=by
  cases e:p.gs.any (vB p.id) with
  | true=>rfl
  | false=>exact absurd (vB_any.1 e) h
theorem gB_any {p:Pn} {c:Cs}:(c.ap.any fun a=>!(p.gs.any fun x=>decide (a.g = x))) = false ↔ ∀ a ∈ c.ap,a.g ∈ p.gs:=by
  rw [List.any_eq_false]
  constructor
  · intro h a ha
    have h1:=h a ha
    simp only [Bool.not_eq_true',Bool.not_eq_false,List.any_eq_true,decide_eq_true_eq] at h1
    obtain ⟨x,hx,e⟩:=h1
    rw [e]; exact hx
  · intro h a ha
    simp only [Bool.not_eq_true',Bool.not_eq_false,List.any_eq_true,decide_eq_true_eq]
    exact ⟨_,h a ha,rfl⟩
theorem gB_no {p:Pn} {c:Cs} (h:¬ ∀ a ∈ c.ap,a.g ∈ p.gs):(c.ap.any fun a=>!(p.gs.any fun x=>decide (a.g = x))) = true:=by
  cases e:(c.ap.any fun a=>!(p.gs.any fun x=>decide (a.g = x))) with
  | true=>rfl
  | false=>exact absurd (gB_any.1 e) h
end Rst
namespace Go.Proofs.YtojohglifijnnaaGreatDoor
open Go Eng Gf Sha Sig Wr Cod Cha Rst
set_option maxRecDepth 100000
theorem rd0B {W w:World} {Bo:List Nat} {l:SH} {b:Nat} {xs:List Value} {t:TypeId} (hw:St W Bo w l) (hm:Res.blk b (.cells xs.toArray t (0,0)) ∈ l):Rd w (some ⟨b,0,none⟩) xs :=
  rdB hm (fun j v h=>by rw [Nat.zero_add,List.getElem?_toArray]; exact h) w hw
theorem valid2_ok (w:World) (b:Nat) (g:Int) (p:Pn) (ga:Option Addr) (gc:Nat) (hb:Rd w (some ⟨b,0,none⟩) [I p.id,I p.rk,.slice ga p.gs.length gc,I p.need,I p.cool]):Pure Tryz.prog 106 [I g,.pointer (some ⟨b,0,none⟩)] w (.bool (vB p.id g)):=by
  refine enter Tryz.func106 Tryz.ntmps106 ?_
  refine c_seq<|c_reg<|s_y y_as<|s_nil<|q_then<|c_seq<|c_reg<|s_y y_mv<|s_y y_fa<|s_y (y_ldr (a:=some ⟨b,0,none⟩) (i:=0) (xs:=[I p.id,I p.rk,.slice ga p.gs.length gc,I p.need,I p.cool]) (v:=I p.id) rfl (hr:=rdW0 hb))<|s_ifd (y_eql (p:=g) (q:=p.id)) (fun h7=>?_) (fun h7=>?_)
  · refine s_y y_mv<|s_no<|s_no<|s_no<|s_y y_pk<|s_y y_as<|s_nil<|q_then<|c_ret<|?_
    exact ret1 Tryz.results106 rv_t fun w' hw=>⟨by rw [show vB p.id g = true from (by simp only [vB]; first | exact decide_eq_true (Or.inl ‹_›) | exact decide_eq_true (Or.inr ‹_›) | exact decide_eq_false (fun h9=>h9.elim ‹_› (fun h8=>h8 ‹_›)))],hw.sub (List.nil_sublist _)⟩
  · refine s_y y_mv<|s_y y_mv<|?_
    by_cases h10:(0:Int) ≤ g ∧ (g:Int) ≤ 63
    · refine s_pure (fun w' hw=>between_ok w' g 0 63 true ⟨fun _=>rfl,fun _=>h10⟩)<|s_y (v:=.bool false) (y_not (b:=true))<|s_y y_pk<|s_y y_as<|s_nil<|q_then<|c_ret<|?_
      exact ret1 Tryz.results106 rv_t fun w' hw=>⟨by rw [show vB p.id g = false from (by simp only [vB]; first | exact decide_eq_true (Or.inl ‹_›) | exact decide_eq_true (Or.inr ‹_›) | exact decide_eq_false (fun h9=>h9.elim ‹_› (fun h8=>h8 ‹_›)))],hw.sub (List.nil_sublist _)⟩
    · refine s_pure (fun w' hw=>between_ok w' g 0 63 false ⟨fun h9=>absurd h9 h10,fun h9=>by cases h9⟩)<|s_y (v:=.bool true) (y_not (b:=false))<|s_y y_pk<|s_y y_as<|s_nil<|q_then<|c_ret<|?_
      exact ret1 Tryz.results106 rv_t fun w' hw=>⟨by rw [show vB p.id g = true from (by simp only [vB]; first | exact decide_eq_true (Or.inl ‹_›) | exact decide_eq_true (Or.inr ‹_›) | exact decide_eq_false (fun h9=>h9.elim ‹_› (fun h8=>h8 ‹_›)))],hw.sub (List.nil_sublist _)⟩
theorem belongs1_ok' (w:World) (b:Nat) (x:Ap) (p:Pn) (ga:Option Addr) (gc:Nat) (hb:Rd w (some ⟨b,0,none⟩) [I p.id,I p.rk,.slice ga p.gs.length gc,I p.need,I p.cool]) (hrg:Rd w ga (is p.gs)) (hgl:(p.gs.length:Int) ≤ 16):Pure Tryz.prog 123 [.agg #[I x.g,I x.u,.slice x.a x.q.length x.c,I x.r,I x.s],.pointer (some ⟨b,0,none⟩)] w (.bool (!(p.gs.any fun y=>decide (x.g = y)))):=by
  refine enter Tryz.func123 Tryz.ntmps123 ?_
  refine c_seq<|c_reg<|s_box rfl fun b2=>s_y y_as<|s_nil<|q_then<|c_seq<|c_reg<|s_y y_fa<|s_y (y_ldr (a:=some ⟨b,0,none⟩) (i:=2) (xs:=[I p.id,I p.rk,.slice ga p.gs.length gc,I p.need,I p.cool]) (v:=.slice ga p.gs.length gc) rfl (hr:=rdW0 hb))<|s_y y_fa<|s_y (y_ld (b:=b2) (v:=I x.g))<|s_pure (fun w' hw=>slices_Contains_int_int_ok w' ga p.gs gc x.g (hrg.st hw) (by omega))<|s_y y_not<|s_y y_as<|s_nil<|q_then<|c_ret<|?_
  exact ret1 Tryz.results123 rv_t fun w' hw=>⟨rfl,hw.sub (List.nil_sublist _)⟩
theorem belongs1_ok (w:World) (b:Nat) (x:Ap) (p:Pn) (ga:Option Addr) (gc:Nat) (hb:Rd w (some ⟨b,0,none⟩) [I p.id,I p.rk,.slice ga p.gs.length gc,I p.need,I p.cool]) (hrg:Rd w ga (is p.gs)) (hgl:(p.gs.length:Int) ≤ 16):Pure Tryz.prog 123 [.agg x.cell.toArray,.pointer (some ⟨b,0,none⟩)] w (.bool (!(p.gs.any fun y=>decide (x.g = y)))):=belongs1_ok' w b x p ga gc hb hrg hgl
theorem valid_ok (w:World) (p:Pn) (ga:Option Addr) (gc:Nat) (hrg:Rd w ga (is p.gs)) (hgs:p.gs.length ≤ 1000000000000000):Pure Tryz.prog 38 [.agg #[I p.id,I p.rk,.slice ga p.gs.length gc,I p.need,I p.cool]] w (.bool (prsB p)):=by
  refine enter Tryz.func38 Tryz.ntmps38 ?_
  refine c_seq<|c_reg<|s_box rfl fun b1=>s_y y_as<|s_nil<|q_then<|c_seq<|c_reg<|s_y y_fa<|s_y (y_ld (b:=b1) (v:=I p.id))<|?_
  by_cases h5:(0:Int) ≤ p.id ∧ (p.id:Int) ≤ 63
  · refine s_pure (fun w' hw=>between_ok w' p.id 0 63 true ⟨fun _=>rfl,fun _=>h5⟩)<|s_y y_mv<|s_y y_fa<|s_y (y_ld (b:=b1) (v:=I p.rk))<|s_pure (fun w' hw=>gCheck_ok w' p.rk)<|s_ifd (y_eql (p:=chk p.rk) (q:=0)) (fun h10=>?_) (fun h10=>?_)
    · refine s_y y_pk<|s_y y_mv<|s_y y_fa<|s_y (y_ld (b:=b1) (v:=.slice ga p.gs.length gc))<|s_y y_len<|?_
      by_cases h16:(1:Int) ≤ p.gs.length ∧ (p.gs.length:Int) ≤ 16
      · refine s_pure (fun w' hw=>between_ok w' p.gs.length 1 16 true ⟨fun _=>rfl,fun _=>h16⟩)<|s_y y_pk<|s_y y_mv<|s_y y_fa<|s_y (y_ld (b:=b1) (v:=I p.need))<|s_y y_fa<|s_y (y_ld (b:=b1) (v:=.slice ga p.gs.length gc))<|s_y y_len<|?_
        by_cases h24:(1:Int) ≤ p.need ∧ (p.need:Int) ≤ p.gs.length
        · refine s_pure (fun w' hw=>between_ok w' p.need 1 p.gs.length true ⟨fun _=>rfl,fun _=>h24⟩)<|s_y y_pk<|s_y y_mv<|s_y y_fa<|s_y (y_ld (b:=b1) (v:=I p.cool))<|?_
          by_cases h29:(1:Int) ≤ p.cool ∧ (p.cool:Int) ≤ 1048576
          · refine s_pure (fun w' hw=>between_ok w' p.cool 1 1048576 true ⟨fun _=>rfl,fun _=>h29⟩)<|s_y y_pk<|s_y y_mv<|s_y y_fa<|s_y (y_ld (b:=b1) (v:=.slice ga p.gs.length gc))<|?_
            by_cases h34:p.gs.Nodup
            · refine s_pure (fun w' hw=>(by have h9:=dist_int w' ga gc p.gs (hrg.st hw) (by omega); rw [decide_eq_true h34] at h9; exact h9))<|s_y y_pk<|s_y y_mv<|s_y y_fa<|s_y (y_ld (b:=b1) (v:=.slice ga p.gs.length gc))<|s_y y_func<|?_
              by_cases h40:∀ g ∈ p.gs,g ≠ p.id ∧ 0 ≤ g ∧ g ≤ 63
              · refine s_pure (fun w' hw=>(by have h9:=CoF_int w' ga gc p.gs 106 [.pointer (some ⟨b1,0,none⟩)] (vB p.id) (hrg.st hw) (by omega) (fun x _ w2 h2=>valid2_ok w2 b1 x p ga gc ((rd0B hw (xs:=[I p.id,I p.rk,.slice ga p.gs.length gc,I p.need,I p.cool]) (.head _)).st h2)); rw [vB_any.2 h40] at h9; exact h9))<|s_y (v:=.bool true) (y_not (b:=false))<|s_y y_pk<|s_y y_as<|s_nil<|q_then<|c_ret<|?_
                exact ret1 Tryz.results38 rv_t fun w' hw=>⟨by rw [show prsB p = true from prsB_t.2 ⟨‹_›,‹_›,‹_›,‹_›,‹_›,‹_›,‹_›⟩],hw.sub (List.nil_sublist _)⟩
              · refine s_pure (fun w' hw=>(by have h9:=CoF_int w' ga gc p.gs 106 [.pointer (some ⟨b1,0,none⟩)] (vB p.id) (hrg.st hw) (by omega) (fun x _ w2 h2=>valid2_ok w2 b1 x p ga gc ((rd0B hw (xs:=[I p.id,I p.rk,.slice ga p.gs.length gc,I p.need,I p.cool]) (.head _)).st h2)); rw [vB_no h40] at h9; exact h9))<|s_y (v:=.bool false) (y_not (b:=true))<|s_y y_pk<|s_y y_as<|s_nil<|q_then<|c_ret<|?_
                exact ret1 Tryz.results38 rv_t fun w' hw=>⟨by rw [show prsB p = false from prsB_f.2 fun h9=>by first | exact absurd h9.id ‹_› | exact absurd h9.rk ‹_› | exact absurd h9.gl ‹_› | exact absurd h9.need ‹_› | exact absurd h9.cool ‹_› | exact absurd h9.nd ‹_› | exact absurd h9.gs ‹_›],hw.sub (List.nil_sublist _)⟩
            · refine s_pure (fun w' hw=>(by have h9:=dist_int w' ga gc p.gs (hrg.st hw) (by omega); rw [decide_eq_false h34] at h9; exact h9))<|s_y y_pk<|s_y y_mv<|s_no<|s_no<|s_no<|s_no<|s_no<|s_y y_pk<|s_y y_as<|s_nil<|q_then<|c_ret<|?_
              exact ret1 Tryz.results38 rv_t fun w' hw=>⟨by rw [show prsB p = false from prsB_f.2 fun h9=>by first | exact absurd h9.id ‹_› | exact absurd h9.rk ‹_› | exact absurd h9.gl ‹_› | exact absurd h9.need ‹_› | exact absurd h9.cool ‹_› | exact absurd h9.nd ‹_› | exact absurd h9.gs ‹_›],hw.sub (List.nil_sublist _)⟩
          · refine s_pure (fun w' hw=>between_ok w' p.cool 1 1048576 false ⟨fun h9=>absurd h9 h29,fun h9=>by cases h9⟩)<|s_y y_pk<|s_y y_mv<|s_no<|s_no<|s_no<|s_y y_pk<|s_y y_mv<|s_no<|s_no<|s_no<|s_no<|s_no<|s_y y_pk<|s_y y_as<|s_nil<|q_then<|c_ret<|?_
            exact ret1 Tryz.results38 rv_t fun w' hw=>⟨by rw [show prsB p = false from prsB_f.2 fun h9=>by first | exact absurd h9.id ‹_› | exact absurd h9.rk ‹_› | exact absurd h9.gl ‹_› | exact absurd h9.need ‹_› | exact absurd h9.cool ‹_› | exact absurd h9.nd ‹_› | exact absurd h9.gs ‹_›],hw.sub (List.nil_sublist _)⟩
        · refine s_pure (fun w' hw=>between_ok w' p.need 1 p.gs.length false ⟨fun h9=>absurd h9 h24,fun h9=>by cases h9⟩)<|s_y y_pk<|s_y y_mv<|s_no<|s_no<|s_no<|s_y y_pk<|s_y y_mv<|s_no<|s_no<|s_no<|s_y y_pk<|s_y y_mv<|s_no<|s_no<|s_no<|s_no<|s_no<|s_y y_pk<|s_y y_as<|s_nil<|q_then<|c_ret<|?_
          exact ret1 Tryz.results38 rv_t fun w' hw=>⟨by rw [show prsB p = false from prsB_f.2 fun h9=>by first | exact absurd h9.id ‹_› | exact absurd h9.rk ‹_› | exact absurd h9.gl ‹_› | exact absurd h9.need ‹_› | exact absurd h9.cool ‹_› | exact absurd h9.nd ‹_› | exact absurd h9.gs ‹_›],hw.sub (List.nil_sublist _)⟩
      · refine s_pure (fun w' hw=>between_ok w' p.gs.length 1 16 false ⟨fun h9=>absurd h9 h16,fun h9=>by cases h9⟩)<|s_y y_pk<|s_y y_mv<|s_no<|s_no<|s_no<|s_no<|s_no<|s_no<|s_y y_pk<|s_y y_mv<|s_no<|s_no<|s_no<|s_y y_pk<|s_y y_mv<|s_no<|s_no<|s_no<|s_y y_pk<|s_y y_mv<|s_no<|s_no<|s_no<|s_no<|s_no<|s_y y_pk<|s_y y_as<|s_nil<|q_then<|c_ret<|?_
        exact ret1 Tryz.results38 rv_t fun w' hw=>⟨by rw [show prsB p = false from prsB_f.2 fun h9=>by first | exact absurd h9.id ‹_› | exact absurd h9.rk ‹_› | exact absurd h9.gl ‹_› | exact absurd h9.need ‹_› | exact absurd h9.cool ‹_› | exact absurd h9.nd ‹_› | exact absurd h9.gs ‹_›],hw.sub (List.nil_sublist _)⟩
    · refine s_y y_pk<|s_y y_mv<|s_no<|s_no<|s_no<|s_no<|s_y y_pk<|s_y y_mv<|s_no<|s_no<|s_no<|s_no<|s_no<|s_no<|s_y y_pk<|s_y y_mv<|s_no<|s_no<|s_no<|s_y y_pk<|s_y y_mv<|s_no<|s_no<|s_no<|s_y y_pk<|s_y y_mv<|s_no<|s_no<|s_no<|s_no<|s_no<|s_y y_pk<|s_y y_as<|s_nil<|q_then<|c_ret<|?_
      exact ret1 Tryz.results38 rv_t fun w' hw=>⟨by rw [show prsB p = false from prsB_f.2 fun h9=>by first | exact absurd h9.id ‹_› | exact absurd h9.rk ‹_› | exact absurd h9.gl ‹_› | exact absurd h9.need ‹_› | exact absurd h9.cool ‹_› | exact absurd h9.nd ‹_› | exact absurd h9.gs ‹_›],hw.sub (List.nil_sublist _)⟩
  · refine s_pure (fun w' hw=>between_ok w' p.id 0 63 false ⟨fun h9=>absurd h9 h5,fun h9=>by cases h9⟩)<|s_y y_mv<|s_no<|s_no<|s_no<|s_no<|s_y y_pk<|s_y y_mv<|s_no<|s_no<|s_no<|s_no<|s_y y_pk<|s_y y_mv<|s_no<|s_no<|s_no<|s_no<|s_no<|s_no<|s_y y_pk<|s_y y_mv<|s_no<|s_no<|s_no<|s_y y_pk<|s_y y_mv<|s_no<|s_no<|s_no<|s_y y_pk<|s_y y_mv<|s_no<|s_no<|s_no<|s_no<|s_no<|s_y y_pk<|s_y y_as<|s_nil<|q_then<|c_ret<|?_
    exact ret1 Tryz.results38 rv_t fun w' hw=>⟨by rw [show prsB p = false from prsB_f.2 fun h9=>by first | exact absurd h9.id ‹_› | exact absurd h9.rk ‹_› | exact absurd h9.gl ‹_› | exact absurd h9.need ‹_› | exact absurd h9.cool ‹_› | exact absurd h9.nd ‹_› | exact absurd h9.gs ‹_›],hw.sub (List.nil_sublist _)⟩
theorem belongs_ok (w:World) (p:Pn) (c:Cs) (ga aa va:Option Addr) (gc ac vc:Nat) (hp:Prs p) (hrg:Rd w ga (is p.gs)) (hra:Rd w aa (apc c.ap)) (hrv:Rd w va (vtc c.vt)) (hal:c.ap.length ≤ 1000000) (hvl:c.vt.length ≤ 1000000):Pure Tryz.prog 46 [.agg #[I p.id,I p.rk,.slice ga p.gs.length gc,I p.need,I p.cool],.agg #[I c.p,I c.d,I c.v,I c.l,I c.st,.slice aa c.ap.length ac,.slice va c.vt.length vc]] w (.bool (blgB p c)):=by
  have hid:=hp.id
  have hgl:=hp.gl.2
  refine enter Tryz.func46 Tryz.ntmps46 ?_
  refine c_seq<|c_reg<|s_box rfl fun b2=>s_box rfl fun b3=>s_y y_as<|s_nil<|q_then<|c_seq<|c_reg<|s_y y_fa<|s_y (y_ld (b:=b3) (v:=I c.p))<|s_y y_fa<|s_y (y_ld (b:=b2) (v:=I p.id))<|s_ifd (y_eql (p:=c.p) (q:=p.id)) (fun h9=>?_) (fun h9=>?_)
  · refine s_y y_mv<|s_y y_fa<|s_y (y_ld (b:=b3) (v:=I c.d))<|s_y y_fa<|s_y (y_ld (b:=b2) (v:=I p.id))<|s_y (y_mul (p:=p.id) (q:=8))<|s_y y_fa<|s_y (y_ld (b:=b2) (v:=I p.id))<|s_y (y_mul (p:=p.id) (q:=8))<|s_y (y_add (p:=p.id * 8) (q:=8))<|s_y (y_sub (p:=(p.id * 8) + 8) (q:=1))<|?_
    by_cases h21:((p.id * 8):Int) ≤ c.d ∧ (c.d:Int) ≤ (((p.id * 8) + 8) - 1)
    · refine s_pure (fun w' hw=>between_ok w' c.d (p.id * 8) (((p.id * 8) + 8) - 1) true ⟨fun _=>rfl,fun _=>h21⟩)<|s_y y_pk<|s_y y_mv<|s_y y_fa<|s_y (y_ld (b:=b3) (v:=I c.v))<|s_pure (fun w' hw=>gCheck_ok w' c.v)<|s_ifd (y_eql (p:=chk c.v) (q:=0)) (fun h27=>?_) (fun h27=>?_)
      · refine s_y y_pk<|s_y y_mv<|s_y y_fa<|s_y (y_ld (b:=b3) (v:=I c.l))<|s_pure (fun w' hw=>gCheck_ok w' c.l)<|s_ifd (y_eql (p:=chk c.l) (q:=0)) (fun h33=>?_) (fun h33=>?_)
        · refine s_y y_pk<|s_y y_mv<|s_y y_fa<|s_y (y_ld (b:=b3) (v:=I c.st))<|?_
          by_cases h38:(1:Int) ≤ c.st ∧ (c.st:Int) ≤ 65536
          · refine s_pure (fun w' hw=>between_ok w' c.st 1 65536 true ⟨fun _=>rfl,fun _=>h38⟩)<|s_y y_pk<|s_y y_mv<|s_y y_fa<|s_y (y_ld (b:=b3) (v:=.slice aa c.ap.length ac))<|?_
            by_cases h43:(c.ap.map Ap.g).Nodup
            · refine s_pure (fun w' hw=>(by have h9:=dist_Ap w' aa ac c.ap (hra.st hw) (by omega); rw [decide_eq_true h43] at h9; exact h9))<|s_y y_pk<|s_y y_mv<|s_y y_fa<|s_y (y_ld (b:=b3) (v:=.slice va c.vt.length vc))<|?_
              by_cases h48:(c.vt.map Vt.d).Nodup
              · refine s_pure (fun w' hw=>(by have h9:=dist_Vt w' va vc c.vt (hrv.st hw) (by omega); rw [decide_eq_true h48] at h9; exact h9))<|s_y y_pk<|s_y y_mv<|s_y y_fa<|s_y (y_ld (b:=b3) (v:=.slice aa c.ap.length ac))<|s_y y_func<|?_
                by_cases h54:∀ a ∈ c.ap,a.g ∈ p.gs
                · refine s_pure (fun w' hw=>(by have h9:=CoF_Ap w' aa ac c.ap 123 [.pointer (some ⟨b2,0,none⟩)] (fun a=>!(p.gs.any fun x=>decide (a.g = x))) (hra.st hw) (by omega) (fun x _ w2 h2=>belongs1_ok w2 b2 x p ga gc ((rd0B hw (xs:=[I p.id,I p.rk,.slice ga p.gs.length gc,I p.need,I p.cool]) (.tail _ (.head _))).st h2) (hrg.st (by have:=hw.trans h2; exact this.sub (List.nil_sublist _))) hgl); rw [gB_any.2 h54] at h9; exact h9))<|s_y (v:=.bool true) (y_not (b:=false))<|s_y y_pk<|s_y y_as<|s_nil<|q_then<|c_ret<|?_
                  exact ret1 Tryz.results46 rv_t fun w' hw=>⟨by rw [show blgB p c = true from blgB_t.2 ⟨‹_›,‹_›,‹_›,‹_›,‹_›,‹_›,‹_›,‹_›⟩],hw.sub (List.nil_sublist _)⟩
                · refine s_pure (fun w' hw=>(by have h9:=CoF_Ap w' aa ac c.ap 123 [.pointer (some ⟨b2,0,none⟩)] (fun a=>!(p.gs.any fun x=>decide (a.g = x))) (hra.st hw) (by omega) (fun x _ w2 h2=>belongs1_ok w2 b2 x p ga gc ((rd0B hw (xs:=[I p.id,I p.rk,.slice ga p.gs.length gc,I p.need,I p.cool]) (.tail _ (.head _))).st h2) (hrg.st (by have:=hw.trans h2; exact this.sub (List.nil_sublist _))) hgl); rw [gB_no h54] at h9; exact h9))<|s_y (v:=.bool false) (y_not (b:=true))<|s_y y_pk<|s_y y_as<|s_nil<|q_then<|c_ret<|?_
                  exact ret1 Tryz.results46 rv_t fun w' hw=>⟨by rw [show blgB p c = false from blgB_f.2 fun h9=>by first | exact absurd h9.fp ‹_› | exact absurd h9.fd ‹_› | exact absurd h9.fv ‹_› | exact absurd h9.fl ‹_› | exact absurd h9.fs ‹_› | exact absurd h9.fa ‹_› | exact absurd h9.ft ‹_› | exact absurd h9.fg ‹_›],hw.sub (List.nil_sublist _)⟩
              · refine s_pure (fun w' hw=>(by have h9:=dist_Vt w' va vc c.vt (hrv.st hw) (by omega); rw [decide_eq_false h48] at h9; exact h9))<|s_y y_pk<|s_y y_mv<|s_no<|s_no<|s_no<|s_no<|s_no<|s_y y_pk<|s_y y_as<|s_nil<|q_then<|c_ret<|?_
                exact ret1 Tryz.results46 rv_t fun w' hw=>⟨by rw [show blgB p c = false from blgB_f.2 fun h9=>by first | exact absurd h9.fp ‹_› | exact absurd h9.fd ‹_› | exact absurd h9.fv ‹_› | exact absurd h9.fl ‹_› | exact absurd h9.fs ‹_› | exact absurd h9.fa ‹_› | exact absurd h9.ft ‹_› | exact absurd h9.fg ‹_›],hw.sub (List.nil_sublist _)⟩
            · refine s_pure (fun w' hw=>(by have h9:=dist_Ap w' aa ac c.ap (hra.st hw) (by omega); rw [decide_eq_false h43] at h9; exact h9))<|s_y y_pk<|s_y y_mv<|s_no<|s_no<|s_no<|s_y y_pk<|s_y y_mv<|s_no<|s_no<|s_no<|s_no<|s_no<|s_y y_pk<|s_y y_as<|s_nil<|q_then<|c_ret<|?_
              exact ret1 Tryz.results46 rv_t fun w' hw=>⟨by rw [show blgB p c = false from blgB_f.2 fun h9=>by first | exact absurd h9.fp ‹_› | exact absurd h9.fd ‹_› | exact absurd h9.fv ‹_› | exact absurd h9.fl ‹_› | exact absurd h9.fs ‹_› | exact absurd h9.fa ‹_› | exact absurd h9.ft ‹_› | exact absurd h9.fg ‹_›],hw.sub (List.nil_sublist _)⟩
          · refine s_pure (fun w' hw=>between_ok w' c.st 1 65536 false ⟨fun h9=>absurd h9 h38,fun h9=>by cases h9⟩)<|s_y y_pk<|s_y y_mv<|s_no<|s_no<|s_no<|s_y y_pk<|s_y y_mv<|s_no<|s_no<|s_no<|s_y y_pk<|s_y y_mv<|s_no<|s_no<|s_no<|s_no<|s_no<|s_y y_pk<|s_y y_as<|s_nil<|q_then<|c_ret<|?_
            exact ret1 Tryz.results46 rv_t fun w' hw=>⟨by rw [show blgB p c = false from blgB_f.2 fun h9=>by first | exact absurd h9.fp ‹_› | exact absurd h9.fd ‹_› | exact absurd h9.fv ‹_› | exact absurd h9.fl ‹_› | exact absurd h9.fs ‹_› | exact absurd h9.fa ‹_› | exact absurd h9.ft ‹_› | exact absurd h9.fg ‹_›],hw.sub (List.nil_sublist _)⟩
        · refine s_y y_pk<|s_y y_mv<|s_no<|s_no<|s_no<|s_y y_pk<|s_y y_mv<|s_no<|s_no<|s_no<|s_y y_pk<|s_y y_mv<|s_no<|s_no<|s_no<|s_y y_pk<|s_y y_mv<|s_no<|s_no<|s_no<|s_no<|s_no<|s_y y_pk<|s_y y_as<|s_nil<|q_then<|c_ret<|?_
          exact ret1 Tryz.results46 rv_t fun w' hw=>⟨by rw [show blgB p c = false from blgB_f.2 fun h9=>by first | exact absurd h9.fp ‹_› | exact absurd h9.fd ‹_› | exact absurd h9.fv ‹_› | exact absurd h9.fl ‹_› | exact absurd h9.fs ‹_› | exact absurd h9.fa ‹_› | exact absurd h9.ft ‹_› | exact absurd h9.fg ‹_›],hw.sub (List.nil_sublist _)⟩
      · refine s_y y_pk<|s_y y_mv<|s_no<|s_no<|s_no<|s_no<|s_y y_pk<|s_y y_mv<|s_no<|s_no<|s_no<|s_y y_pk<|s_y y_mv<|s_no<|s_no<|s_no<|s_y y_pk<|s_y y_mv<|s_no<|s_no<|s_no<|s_y y_pk<|s_y y_mv<|s_no<|s_no<|s_no<|s_no<|s_no<|s_y y_pk<|s_y y_as<|s_nil<|q_then<|c_ret<|?_
        exact ret1 Tryz.results46 rv_t fun w' hw=>⟨by rw [show blgB p c = false from blgB_f.2 fun h9=>by first | exact absurd h9.fp ‹_› | exact absurd h9.fd ‹_› | exact absurd h9.fv ‹_› | exact absurd h9.fl ‹_› | exact absurd h9.fs ‹_› | exact absurd h9.fa ‹_› | exact absurd h9.ft ‹_› | exact absurd h9.fg ‹_›],hw.sub (List.nil_sublist _)⟩
    · refine s_pure (fun w' hw=>between_ok w' c.d (p.id * 8) (((p.id * 8) + 8) - 1) false ⟨fun h9=>absurd h9 h21,fun h9=>by cases h9⟩)<|s_y y_pk<|s_y y_mv<|s_no<|s_no<|s_no<|s_no<|s_y y_pk<|s_y y_mv<|s_no<|s_no<|s_no<|s_no<|s_y y_pk<|s_y y_mv<|s_no<|s_no<|s_no<|s_y y_pk<|s_y y_mv<|s_no<|s_no<|s_no<|s_y y_pk<|s_y y_mv<|s_no<|s_no<|s_no<|s_y y_pk<|s_y y_mv<|s_no<|s_no<|s_no<|s_no<|s_no<|s_y y_pk<|s_y y_as<|s_nil<|q_then<|c_ret<|?_
      exact ret1 Tryz.results46 rv_t fun w' hw=>⟨by rw [show blgB p c = false from blgB_f.2 fun h9=>by first | exact absurd h9.fp ‹_› | exact absurd h9.fd ‹_› | exact absurd h9.fv ‹_› | exact absurd h9.fl ‹_› | exact absurd h9.fs ‹_› | exact absurd h9.fa ‹_› | exact absurd h9.ft ‹_› | exact absurd h9.fg ‹_›],hw.sub (List.nil_sublist _)⟩
  · refine s_y y_mv<|s_no<|s_no<|s_no<|s_no<|s_no<|s_no<|s_no<|s_no<|s_no<|s_no<|s_no<|s_y y_pk<|s_y y_mv<|s_no<|s_no<|s_no<|s_no<|s_y y_pk<|s_y y_mv<|s_no<|s_no<|s_no<|s_no<|s_y y_pk<|s_y y_mv<|s_no<|s_no<|s_no<|s_y y_pk<|s_y y_mv<|s_no<|s_no<|s_no<|s_y y_pk<|s_y y_mv<|s_no<|s_no<|s_no<|s_y y_pk<|s_y y_mv<|s_no<|s_no<|s_no<|s_no<|s_no<|s_y y_pk<|s_y y_as<|s_nil<|q_then<|c_ret<|?_
    exact ret1 Tryz.results46 rv_t fun w' hw=>⟨by rw [show blgB p c = false from blgB_f.2 fun h9=>by first | exact absurd h9.fp ‹_› | exact absurd h9.fd ‹_› | exact absurd h9.fv ‹_› | exact absurd h9.fl ‹_› | exact absurd h9.fs ‹_› | exact absurd h9.fa ‹_› | exact absurd h9.ft ‹_› | exact absurd h9.fg ‹_›],hw.sub (List.nil_sublist _)⟩
end Go.Proofs.YtojohglifijnnaaGreatDoor
end
section
namespace Go.Proofs.YtojohglifijnnaaGreatDoor
open Go Eng Gf Sha Sig Wr Cod Cha Rst
set_option maxRecDepth 100000
theorem y_eqniR {n:Nat} {D:List Deferred} {W:World} {Bo:List Nat} {F:List (Nat × Value)} {l:SH} {d:Option Tmp} {ty:TypeId} {ps:String} {af:Array Edge} {g:Option (Nat × Bool)} {x:Operand} {c:Value} {tb:TypeId}
    (hx:evO F x = some .nilIface:=by rfl) (hy:evO F (.const c) = some .nilIface:=by rfl):Y Tryz.prog n D W Bo ⟨d,.binOp .eql 20 x (.const c) tb,ty,ps,af,g⟩ F l (.bool true) :=
  .mk (by simp) fun a w ha _=>by
    have e1:eqGuard .eql 20 x (.const c) .nilIface .nilIface = pure ():=by simp [eqGuard]
    have e2:(binOp .eql 20 .nilIface .nilIface).run Tryz.prog w = .ok (.bool true) w:=by kernel_rfl
    have h1:=ha.eval hx
    have h2:=ha.eval hy
    simp only [execOp,h1,h2,e1,Sem.run_bind,Sem.run_pure,e2,Result.andThen_ok]
theorem y_eqnfR {n:Nat} {D:List Deferred} {W:World} {Bo:List Nat} {F:List (Nat × Value)} {l:SH} {d:Option Tmp} {ty:TypeId} {ps:String} {af:Array Edge} {g:Option (Nat × Bool)} {x y:Operand} {tb:TypeId} {T:TypeId} {v:Value}
    (hx:evO F x = some (.iface T v):=by rfl) (hy:evO F y = some .nilIface:=by rfl):Y Tryz.prog n D W Bo ⟨d,.binOp .eql 20 x y tb,ty,ps,af,g⟩ F l (.bool false) :=
  .mk (by simp) fun a w ha _=>by simp only [execOp,ha.eval hx,ha.eval hy]; kernel_rfl
theorem y_tafailR {n:Nat} {D:List Deferred} {W:World} {Bo:List Nat} {F:List (Nat × Value)} {l:SH} {d:Option Tmp} {ty:TypeId} {ps:String} {af:Array Edge} {g:Option (Nat × Bool)} {x:Operand} {v:Value}
    (hx:evO F x = some (.iface 172 v):=by rfl):Y Tryz.prog n D W Bo ⟨d,.typeAssert x 20 172 true,ty,ps,af,g⟩ F l (.tuple #[v,.bool true]) :=
  .mk (by simp) fun a w ha _=>by simp only [execOp,ha.eval hx]; kernel_rfl
theorem caught_nil (w:World) (b:Nat):Pure Tryz.prog 56 [.nilIface,.pointer (some ⟨b,0,none⟩)] w (.tuple #[]):=by
  refine enter Tryz.func56 Tryz.ntmps56 ?_
  refine c_seq<|c_reg<|s_y y_mv<|s_nil<|q_then<|c_block<|c_seq<|c_reg<|s_y y_eqniR<|s_nil<|q_then<|c_t<|c_reg<|s_y y_as<|s_nil<|q_nb<|?_
  exact ret0 Tryz.results56 (fun w' hw=>⟨rfl,hw⟩) _ (.inr rfl)
theorem caught_fail (w:World) (b:Nat) (z c:Int) (hp:(Res.blk b (.cells #[I z] 34 (0,0))).holds w) :
    Gives Tryz.prog 56 [.iface 172 (.agg #[I c]),.pointer (some ⟨b,0,none⟩)] w (keys [.blk b (.cells #[I z] 34 (0,0))]) (fun _:Unit=>.tuple #[]) (fun _=>[.blk b (.cells #[I c] 34 (0,0))]) (fun _=>True):=by
  refine enterR Tryz.func56 Tryz.ntmps56 hp ?_
  refine c_seq<|c_reg<|s_y y_mv<|s_nil<|q_then<|c_block<|c_seq<|c_reg<|s_y y_eqnfR<|s_nil<|q_then<|c_f<|c_seq<|c_reg<|s_y y_tafailR<|s_y y_ext<|s_y y_ext<|s_nil<|q_then<|c_t<|c_seq<|c_reg<|s_alloc fun b5=>s_sta (b:=b5) (vs:=#[I c]) (cs:=#[I 0]) (h1:=by intro u hu; simp at hu; subst hu; rfl) (hl:=rfl) (hs1:=rfl) ?_
  refine s_nil<|q_then<|c_reg<|s_y y_mv<|s_y y_fa<|s_y (y_ld (b:=b5) (v:=I c))<|s_y y_nc<|s_st (b:=b) (v:=I c) (cs:=#[I z]) (hl:=Nat.zero_lt_one) ?_
  refine s_nil<|q_nb<|?_
  exact ret0 Tryz.results56 (fun w' hw=>⟨(),trivial,rfl,hw.sub (.cons _ (.refl _))⟩) _ (.inr rfl)
theorem rcApprove_R (w:World) (b:Nat):GivesD Tryz.prog 55 [.pointer (some ⟨b,0,none⟩)] .returning w [] .returning [] :=
  recov (kc:=56) Tryz.func55 rfl Tryz.ntmps55 Tryz.results55 (.inl ⟨rfl,rfl,rfl⟩) ((caught_nil w b).mono fun _ _ h=>⟨(),trivial,h.1,h.2⟩)
theorem rcApprove_P (w:World) (b:Nat) (z c:Int) (hp:(Res.blk b (.cells #[I z] 34 (0,0))).holds w):GivesD Tryz.prog 55 [.pointer (some ⟨b,0,none⟩)] (.panicking [{ v:=.iface 172 (.agg #[I c]),recovered:=false }]) w (keys [.blk b (.cells #[I z] 34 (0,0))]) (.panicking [{ v:=.iface 172 (.agg #[I c]),recovered:=true }]) [.blk b (.cells #[I c] 34 (0,0))] :=
  recov (kc:=56) Tryz.func55 rfl Tryz.ntmps55 Tryz.results55 (.inr ⟨_,rfl,rfl,rfl⟩) (caught_fail w b z c hp)
theorem rcObject_R (w:World) (b:Nat):GivesD Tryz.prog 74 [.pointer (some ⟨b,0,none⟩)] .returning w [] .returning [] :=
  recov (kc:=56) Tryz.func74 rfl Tryz.ntmps74 Tryz.results74 (.inl ⟨rfl,rfl,rfl⟩) ((caught_nil w b).mono fun _ _ h=>⟨(),trivial,h.1,h.2⟩)
theorem rcObject_P (w:World) (b:Nat) (z c:Int) (hp:(Res.blk b (.cells #[I z] 34 (0,0))).holds w):GivesD Tryz.prog 74 [.pointer (some ⟨b,0,none⟩)] (.panicking [{ v:=.iface 172 (.agg #[I c]),recovered:=false }]) w (keys [.blk b (.cells #[I z] 34 (0,0))]) (.panicking [{ v:=.iface 172 (.agg #[I c]),recovered:=true }]) [.blk b (.cells #[I c] 34 (0,0))] :=
  recov (kc:=56) Tryz.func74 rfl Tryz.ntmps74 Tryz.results74 (.inr ⟨_,rfl,rfl,rfl⟩) (caught_fail w b z c hp)
theorem rcState_R (w:World) (b:Nat):GivesD Tryz.prog 95 [.pointer (some ⟨b,0,none⟩)] .returning w [] .returning [] :=
  recov (kc:=56) Tryz.func95 rfl Tryz.ntmps95 Tryz.results95 (.inl ⟨rfl,rfl,rfl⟩) ((caught_nil w b).mono fun _ _ h=>⟨(),trivial,h.1,h.2⟩)
theorem rcState_P (w:World) (b:Nat) (z c:Int) (hp:(Res.blk b (.cells #[I z] 34 (0,0))).holds w):GivesD Tryz.prog 95 [.pointer (some ⟨b,0,none⟩)] (.panicking [{ v:=.iface 172 (.agg #[I c]),recovered:=false }]) w (keys [.blk b (.cells #[I z] 34 (0,0))]) (.panicking [{ v:=.iface 172 (.agg #[I c]),recovered:=true }]) [.blk b (.cells #[I c] 34 (0,0))] :=
  recov (kc:=56) Tryz.func95 rfl Tryz.ntmps95 Tryz.results95 (.inr ⟨_,rfl,rfl,rfl⟩) (caught_fail w b z c hp)
theorem rcFinish_R (w:World) (b:Nat):GivesD Tryz.prog 87 [.pointer (some ⟨b,0,none⟩)] .returning w [] .returning [] :=
  recov (kc:=56) Tryz.func87 rfl Tryz.ntmps87 Tryz.results87 (.inl ⟨rfl,rfl,rfl⟩) ((caught_nil w b).mono fun _ _ h=>⟨(),trivial,h.1,h.2⟩)
theorem rcFinish_P (w:World) (b:Nat) (z c:Int) (hp:(Res.blk b (.cells #[I z] 34 (0,0))).holds w):GivesD Tryz.prog 87 [.pointer (some ⟨b,0,none⟩)] (.panicking [{ v:=.iface 172 (.agg #[I c]),recovered:=false }]) w (keys [.blk b (.cells #[I z] 34 (0,0))]) (.panicking [{ v:=.iface 172 (.agg #[I c]),recovered:=true }]) [.blk b (.cells #[I c] 34 (0,0))] :=
  recov (kc:=56) Tryz.func87 rfl Tryz.ntmps87 Tryz.results87 (.inr ⟨_,rfl,rfl,rfl⟩) (caught_fail w b z c hp)
theorem cv8_nat (m:Nat):UInt8.ofNat ((m:Int) % 256).toNat = UInt8.ofNat m:=by
  rw [show ((m:Int) % 256).toNat = m % 256 by omega]
  apply UInt8.toNat_inj.1
  simp
theorem be8_be {n:Nat}:be8 (n:Int) = be n 8:=by
  have h1:=be8_length (n:Int)
  have h2:=be_length n 8
  refine List.ext_getElem (by rw [h1,h2]) fun i h3 h4=>?_
  have hi:i < 8:=by omega
  have e1:=be8_get (n:Int) hi
  have e2:=be_get n 8 i hi
  rw [List.getD_eq_getElem?_getD,List.getElem?_eq_getElem h3,Option.getD_some] at e1
  rw [List.getD_eq_getElem?_getD,List.getElem?_eq_getElem h4,Option.getD_some] at e2
  rw [e1,e2,show 8 * (8 - 1 - i) = 56 - 8 * i by omega,← cv8_nat (n / 2 ^ (56 - 8 * i))]
  congr 3
theorem number_ok (w:World) (m:Int):Pure Tryz.prog 63 [I m] w (.agg (bs (be8 m)).toArray):=by
  have h8:=be8_length m
  have hz8:(bs (be8 m)).toArray.size = 8:=by simp [bs_length,h8]
  refine enter Tryz.func63 Tryz.ntmps63 ?_
  refine c_seq<|c_reg<|s_alloc fun b2=>s_nil<|q_then<|c_seq<|c_seq<|c_reg<|s_y y_mv<|s_nil<|q_then<|c_block<|?_
  refine c_loop (fun i:Nat=>[(0,I m),(2,.pointer (some ⟨b2,0,none⟩)),(4,I i)]) (fun i=>[.blk b2 (.cells (bs ((be8 m).take i ++ List.replicate (8 - i) 0)).toArray 107 (0,0))]) (fun i=>i ≤ 8) (fun i=>8 - i) 0 (by omega) ⟨rfl,rfl,rfl,trivial⟩ (List.Sublist.refl _) ?_
  intro i hi
  refine c_seq<|c_reg<|s_y (y_lss (p:=i) (q:=8))<|s_nil<|q_then<|c_seq<|c_ifd (fun h10=>?_) (fun h10=>?_)
  · have hi8:i < 8:=by omega
    refine c_skip<|q_then<|c_seq<|c_block<|c_seq<|c_reg<|s_y y_mv<|s_y y_as<|s_nil<|q_then<|c_reg<|s_y y_mv<|s_y y_mv<|s_y y_mv<|s_y (y_mul (p:=8) (q:=i))<|s_y (y_sub (p:=56) (q:=8 * (i:Int)))<|?_
    rw [show (56:Int) - 8 * (i:Int) = ((56 - 8 * i:Nat):Int) by omega]
    refine s_y (y_sar (p:=m) (q:=((56 - 8 * i:Nat):Int)))<|?_
    rw [Int.toNat_natCast]
    refine s_y y_cv8<|s_y (y_ixa1 (i:=i))<|s_stb (b:=b2) (off:=0 + i) (q:=(be8 m).take i ++ List.replicate (8 - i) 0) (p:=UInt8.ofNat ((m / 2 ^ (56 - 8 * i)) % 256).toNat) (hl:=by simp [h8]; omega) ?_
    rw [Nat.zero_add i,set_fill (d:=0) (be8 m) i 8 0 _ (by omega) hi8 (be8_get m hi8)]
    refine s_nil<|q_nb<|q_then<|c_reg<|s_y (y_add (p:=i) (q:=1))<|s_y y_mv<|s_nil<|q_round (i + 1) (by omega) (by omega) ⟨rfl,rfl,rfl,trivial⟩ (List.Sublist.refl _)
  · obtain rfl:i = 8:=by omega
    rw [show (be8 m).take 8 ++ List.replicate (8 - 8) 0 = be8 m by rw [List.take_of_length_le (by omega)]; simp]
    refine c_exit<|q_ex<|q_ex<|q_exb<|q_then<|c_seq<|c_reg<|s_y (y_lda (b:=b2) (cs:=(bs (be8 m)).toArray) (hl:=hz8))<|s_sta (b:=b2) (vs:=(bs (be8 m)).toArray) (cs:=(bs (be8 m)).toArray) (h1:=fun v hv=>bs_one (by simpa using hv)) (hl:=rfl) (hs1:=hz8) ?_
    refine s_nil<|q_then<|c_ret<|?_
    exact ret1 Tryz.results63 (rv_ca (hl:=hz8)) fun w' hw=>⟨rfl,hw.sub (List.nil_sublist _)⟩
def R5 (c:Cs):Prop:=R64 c.p ∧ R64 c.d ∧ R64 c.v ∧ R64 c.l ∧ R64 c.st
theorem R5.msg {c:Cs} (h:R5 c) {role by':Int} (h1:R64 role) (h2:R64 by'):∀ n ∈ msgN c role by',R64 n:=by
  intro n hn
  simp only [msgN,List.mem_cons,List.not_mem_nil,or_false] at hn
  rcases hn with rfl | rfl | rfl | rfl | rfl | rfl | rfl
  · exact h.1
  · exact h.2.1
  · exact h.2.2.1
  · exact h.2.2.2.1
  · exact h.2.2.2.2
  · exact h1
  · exact h2
variable (w:World) (c:Cs) (role by':Int) (aa va:Option Addr) (ac vc:Nat)
theorem Message_ok (hg:LS w) (hc:R5 c) (h1:R64 role) (h2:R64 by') :
    Gives Tryz.prog 18 [.agg #[I c.p,I c.d,I c.v,I c.l,I c.st,.slice aa c.ap.length ac,.slice va c.vt.length vc],I role,I by'] w [] (fun b:Nat=>.slice (some ⟨b,0,none⟩) 32 32) (fun b=>[.blk b (.cells (bs (msg c role by')).toArray 95 (0,0))]) (fun _=>True):=by
  obtain ⟨ns,hns⟩:∃ ns,ns = msgN c role by':=⟨_,rfl⟩
  have hR:∀ n ∈ ns,R64 n:=by rw [hns]; exact hc.msg h1 h2
  have hl7:ns.length = 7:=by rw [hns]; rfl
  have hel:=iv_len hR (by omega)
  have hm:tagged lbCase (ivE ns) = msg c role by':=by rw [hns]; rfl
  refine enter Tryz.func18 Tryz.ntmps18 ?_
  refine c_seq<|c_reg<|s_box rfl fun b3=>s_y y_as<|s_nil<|q_then<|c_seq<|c_reg<|s_y y_as<|s_nil<|q_then<|c_seq<|c_seq<|c_reg<|s_y y_fa<|s_y (y_ld (b:=b3) (v:=I c.p))<|s_y y_fa<|s_y (y_ld (b:=b3) (v:=I c.d))<|s_y y_fa<|s_y (y_ld (b:=b3) (v:=I c.v))<|s_y y_fa<|s_y (y_ld (b:=b3) (v:=I c.l))<|s_y y_fa<|s_y (y_ld (b:=b3) (v:=I c.st))<|s_y y_mv<|s_y y_mv<|s_y (y_blda (cs:=is (msgN c role by')))<|?_
  rw [← hns]
  refine s_y y_mv<|s_nil<|q_then<|c_nilrow 92 4<|c_block<|?_
  refine c_loop3 (fun (k:Nat) (a':Option Addr) (c':Nat)=>[(7,.slice a' k c'),(25,.agg (is ns).toArray),(26,I k)]) (fun k a' c'=>[.row a' c' 92 4 k (fcells ((ns.take k).map vI))]) (fun k _ _=>k ≤ 7) (fun k _ _=>7 - k) 0 none 0 (by omega) ⟨rfl,rfl,rfl,trivial⟩ (.cons_cons _ (List.nil_sublist _)) ?_
  intro k a' c' hk
  refine c_seq<|c_reg<|s_y (y_lss (p:=((k:Nat):Int)) (q:=7))<|s_nil<|q_then<|c_seq<|c_ifd (fun h27=>?_) (fun h27=>?_)
  · have hk7:k < 7:=by omega
    obtain ⟨z,hz⟩:∃ z,ns[k]? = some z:=⟨_,List.getElem?_eq_getElem (by omega)⟩
    have hix:(is ns).toArray[k]? = some (I z):=by rw [List.getElem?_toArray,is,List.getElem?_map,hz]; rfl
    refine c_skip<|q_then<|c_seq<|c_block<|c_seq<|c_reg<|s_y (y_ixv (v:=I z) k hix)<|s_y y_as<|s_nil<|q_then<|c_reg<|s_y y_mv<|s_y y_mv<|s_y (y_bval (cs:=[I 1,I z,.string (sb []),.slice none 0 0]))<|s_bslr (cs:=[I 1,I z,.string (sb []),.slice none 0 0]) fun b32=>s_app (m:=1) (fun w' hw=>Src.slice (rdR (.head _) w' hw) rfl) (h1:=fun v hv=>by simp at hv; rcases hv with rfl | rfl | rfl | rfl <;> rfl) (hm:=.tail _ (.head _)) (hrep:=fun _ _=>.tail _ (.head _)) fun a33 c33 h33=>s_y y_as<|s_nil<|q_nb<|q_then<|c_reg<|s_y (y_add (p:=((k:Nat):Int)) (q:=1))<|s_y y_mv<|s_nil<|?_
    rw [show ((k:Nat):Int) + 1 = ((k + 1:Nat):Int) by omega]
    exact q_round3 (x:=k) (y:=a') (z:=c') (k + 1) a33 c33 (by omega) (by omega) ⟨rfl,rfl,rfl,trivial⟩ (by rw [iv_step hz]; exact .cons _ (.refl _))
  · obtain rfl:k = 7:=by omega
    rw [List.take_of_length_le (by omega)]
    refine c_exit<|q_ex<|q_ex<|q_exb<|q_then<|c_seq<|c_reg<|s_y y_mv<|s_y (y_bval (cs:=[I 3,I 0,.string (sb []),.slice a' 7 c']))<|s_gives (fun w' hw=>EncodeN_iv w' ns 7 a' c' hl7 hR (by omega) (rdR (.head _) w' hw)) fun x38 _=>s_y y_mv<|s_y y_ext<|s_y y_ext<|s_y y_as<|s_y y_as<|s_nil<|q_then<|c_seq<|c_reg<|s_y y_mv<|s_pure (fun w' hw=>digest_Tagged_ok w' lbCase x38.1 x38.2 (ivE ns) (hg.st hw) (by decide) (rdR (.head _) w' hw) (by omega))<|?_
    rw [hm]
    refine s_alloc fun b12=>s_sta (b:=b12) (vs:=(bs (msg c role by')).toArray) (cs:=(bs (List.replicate 32 0)).toArray) (h1:=fun v hv=>bs_one (by simpa using hv)) (hl:=((hz32 (msg_length _ _ _))).trans ((hz32 List.length_replicate)).symm) (hs1:=hz32 (msg_length _ _ _)) ?_
    refine s_nil<|q_then<|c_seq<|c_reg<|s_y y_sla<|s_y y_as<|s_nil<|q_then<|c_ret<|?_
    exact ret1 Tryz.results18 rv_t fun w' hw=>⟨b12,trivial,rfl,hw.sub (.cons_cons _ (List.nil_sublist _))⟩
theorem r39_Message_ok (hc:R5 c) (h1:R64 role) (h2:R64 by') :
    Gives Tryz.prog 19 [.agg #[I c.p,I c.d,I c.v,I c.l,I c.st,.slice aa c.ap.length ac,.slice va c.vt.length vc],I role,I by'] w [] (fun y:Option Addr × Nat=>.slice y.1 32 y.2) (fun y=>[.row y.1 y.2 5 1 32 (bs (msg c role by'))]) (fun _=>True):=by
  obtain ⟨ns,hns⟩:∃ ns,ns = msgN c role by':=⟨_,rfl⟩
  have hR:∀ n ∈ ns,R64 n:=by rw [hns]; exact hc.msg h1 h2
  have hl7:ns.length = 7:=by rw [hns]; rfl
  have hel:=iv_len hR (by omega)
  have hm:tagged lbCase (ivE ns) = msg c role by':=by rw [hns]; rfl
  refine enter Tryz.func19 Tryz.ntmps19 ?_
  refine c_seq<|c_reg<|s_box rfl fun b3=>s_y y_as<|s_nil<|q_then<|c_seq<|c_reg<|s_y y_fa<|s_y (y_ld (b:=b3) (v:=I c.p))<|s_y y_fa<|s_y (y_ld (b:=b3) (v:=I c.d))<|s_y y_fa<|s_y (y_ld (b:=b3) (v:=I c.v))<|s_y y_fa<|s_y (y_ld (b:=b3) (v:=I c.l))<|s_y y_fa<|s_y (y_ld (b:=b3) (v:=I c.st))<|s_y y_mv<|s_y y_mv<|s_bslr (cs:=[I c.p,I c.d,I c.v,I c.l,I c.st,I role,I by']) (hf:=by kernel_rfl) fun b23=>?_
  rw [show [I c.p,I c.d,I c.v,I c.l,I c.st,I role,I by'] = is ns by rw [hns]; rfl]
  refine s_gives (fun w' hw=>r1_IntsN_ok w' (some ⟨b23,0,none⟩) 7 7 ns hl7 (rdR (.head _) w' hw) (by omega)) fun x24 _=>s_gives (fun w' hw=>r1_EncodeN_iv w' ns 7 x24.1 x24.2 hl7 hR (by omega) (rdR (.head _) w' hw)) fun x25 _=>s_y y_mv<|s_y y_ext<|s_y y_ext<|s_y y_as<|s_y y_as<|s_nil<|q_then<|c_seq<|c_reg<|s_y y_mv<|s_pure (fun w' hw=>ref02_Tagged_ok w' lbCase x25.1 x25.2 (ivE ns) (by decide) (rdR (.head _) w' hw) (by omega))<|?_
  rw [hm]
  refine s_alloc fun b9=>s_sta (b:=b9) (vs:=(bs (msg c role by')).toArray) (cs:=(bs (List.replicate 32 0)).toArray) (h1:=fun v hv=>bs_one (by simpa using hv)) (hl:=((hz32 (msg_length _ _ _))).trans ((hz32 List.length_replicate)).symm) (hs1:=hz32 (msg_length _ _ _)) ?_
  refine s_nil<|q_then<|c_seq<|c_reg<|s_bsl0 fun b30=>s_y y_sla<|s_app (m:=32) (srcB (q:=msg c role by') (fun w' hw=>rd_blkB (e:=95) (.tail _ (.head _)) w' hw) (msg_length _ _ _)) (h1:=fun v hv=>bs_one hv) (hm:=.head _) (hrep:=fun _ _=>.head _) fun a32 c32 h32=>?_
  rw [List.nil_append,Nat.zero_add]
  refine s_y y_as<|s_nil<|q_then<|c_ret<|?_
  exact ret1 Tryz.results19 rv_t fun w' hw=>⟨(a32,c32),trivial,rfl,hw.sub (.cons_cons _ (List.nil_sublist _))⟩
end Go.Proofs.YtojohglifijnnaaGreatDoor
end
section
namespace Rst
open Go Eng
end Rst
namespace Go.Proofs.YtojohglifijnnaaGreatDoor
open Go Eng Gf Sha Sig Wr Cod Cha Rst
set_option maxRecDepth 100000
end Go.Proofs.YtojohglifijnnaaGreatDoor
end
section
namespace Rst
end Rst
namespace Go.Proofs.YtojohglifijnnaaGreatDoor
open Go Eng Gf Sha Sig Wr Cod Cha Rst
set_option maxRecDepth 100000
end Go.Proofs.YtojohglifijnnaaGreatDoor
end
section
namespace Gf
open Go Eng
end Gf
namespace Go.Proofs.YtojohglifijnnaaGreatDoor
open Go Eng Gf
end Go.Proofs.YtojohglifijnnaaGreatDoor
end
section
namespace Go.Proofs.YtojohglifijnnaaGreatDoor
open Go Eng Gf
end Go.Proofs.YtojohglifijnnaaGreatDoor
end
section
namespace Eng
open Go Go.RowKit
section
variable {P:Program} {n:Nat} {D:List Deferred} {W:World} {Bo:List Nat} {F:List (Nat × Value)} {l:SH}
  {d:Option Tmp} {ty:TypeId} {ps:String} {af:Array Edge} {g:Option (Nat × Bool)} {x y:Operand} {ta tb:TypeId}
end
end Eng
namespace Gf
open Go Eng
theorem Vld.take {l:List (Nat × Nat)} (hv:Vld l) {k:Nat} (h1:1 ≤ k):Vld (l.take k) where
  le:=by rw [List.length_take]; have:=hv.le; omega
  pos:=by rw [List.length_take]; have:=hv.pos; omega
  at' s hs:=hv.at' s (List.mem_of_mem_take hs)
  up:=hv.up.sublist (List.take_sublist _ _)
end Gf
end
section
namespace Gf
open Go Eng
end Gf
namespace Go.Proofs.YtojohglifijnnaaGreatDoor
open Go Eng Gf
end Go.Proofs.YtojohglifijnnaaGreatDoor
end
section
namespace Gf
open Go Eng Poly
theorem vld_okS:∀ (l:List (Nat × Nat)) (last:Nat),(∀ s ∈ l,last < s.1 ∧ s.1 ≤ 64 ∧ s.2 < 2305843009213688669) → l.Pairwise (fun s t=>s.1 < t.1) → okS (last:Int) (sN l) = true
  | [],_,_,_=>rfl
  | s :: l,last,h,hp=>by
    have h1:=h s (.head _)
    have ih:=vld_okS l s.1 (fun t ht=>⟨(List.pairwise_cons.1 hp).1 t ht,(h t (.tail _ ht)).2⟩) (List.pairwise_cons.1 hp).2
    show (decide ((last:Int) < (s.1:Int)) && (decide ((s.1:Int) ≤ 64) && (sc (s.2:Int) && okS (s.1:Int) (sN l)))) = true
    rw [ih,decide_eq_true (by omega),decide_eq_true (by omega),sc_of h1.2.2]; rfl
theorem Vld.ch {l:List (Nat × Nat)} (hv:Vld l):chS (sN l) = 0:=by
  unfold chS
  rw [if_pos ⟨by rw [sN_length]; exact hv.pos,by rw [sN_length]; exact hv.le,vld_okS l 0 (fun s hs=>by have:=hv.at' s hs; omega) hv.up⟩]
theorem toN_sN (l:List (Nat × Nat)):toN (sN l) = l:=by
  unfold toN sN
  rw [List.map_map]
  conv=>rhs; rw [← List.map_id l]
  exact List.map_congr_left fun s _=>rfl
theorem Vld.sub {z x:List (Nat × Nat)} (hv:Vld x) (hz:z.Sublist x) (hp:1 ≤ z.length):Vld z where
  le:=Nat.le_trans hz.length_le hv.le
  pos:=hp
  at' s hs:=hv.at' s (hz.subset hs)
  up:=hv.up.sublist hz
theorem Vld.last {L:List (Nat × Nat)} {A y0:Nat} (hv:Vld (L ++ [(A,y0)])) {y:Nat} (hy:y < 2305843009213688669):Vld (L ++ [(A,y)]) where
  le:=by have:=hv.le; simpa using this
  pos:=by simp
  at' s hs:=by
    rcases List.mem_append.1 hs with h | h
    · exact hv.at' s (List.mem_append_left _ h)
    · rw [List.mem_singleton.1 h]
      have:=hv.at' (A,y0) (List.mem_append_right _ (.head _))
      exact ⟨this.1,this.2.1,hy⟩
  up:=by
    have h:=hv.up
    rw [List.pairwise_append] at h ⊢
    refine ⟨h.1,List.pairwise_singleton _ _,fun s hs t ht=>?_⟩
    rw [List.mem_singleton.1 ht]
    exact h.2.2 s hs (A,y0) (.head _)
def smS (a b:List (Nat × Nat)):List (Nat × Nat):=List.zipWith (fun s t=>(s.1,(s.2 + t.2) % 2305843009213688669)) a b
theorem pl_len {a b:List (Nat × Nat)} (h:pl a = pl b):a.length = b.length:=by rw [← pl_length a,h,pl_length]
theorem smS_length {a b:List (Nat × Nat)} (h:pl a = pl b):(smS a b).length = a.length:=by
  unfold smS; rw [List.length_zipWith,pl_len h,Nat.min_self]
theorem smS_cons (s t:Nat × Nat) (a b:List (Nat × Nat)):smS (s :: a) (t :: b) = (s.1,(s.2 + t.2) % 2305843009213688669) :: smS a b:=rfl
theorem smS_pl:∀ {a b:List (Nat × Nat)},pl a = pl b → pl (smS a b) = pl a
  | [],_,_=>rfl
  | s :: a,[],h=>by cases h
  | s :: a,t :: b,h=>by
    have h1:pl a = pl b:=(List.cons.inj h).2
    rw [smS_cons]
    show s.1 :: pl (smS a b) = s.1 :: pl a
    rw [smS_pl h1]
theorem Vld.sum {a b:List (Nat × Nat)} (ha:Vld a) (h:pl a = pl b):Vld (smS a b) where
  le:=by rw [smS_length h]; exact ha.le
  pos:=by rw [smS_length h]; exact ha.pos
  at' s hs:=by
    obtain ⟨i,hi,rfl⟩:=List.mem_iff_getElem.1 hs
    have hi':i < a.length:=by rw [← smS_length h]; exact hi
    have h1:=ha.at' a[i] (List.getElem_mem hi')
    simp only [smS,List.getElem_zipWith]
    exact ⟨h1.1,h1.2.1,Nat.mod_lt _ (by decide)⟩
  up:=by
    have h1:(pl (smS a b)).Pairwise (· < ·):=by rw [smS_pl h]; exact List.pairwise_map.2 ha.up
    exact List.pairwise_map.1 h1
end Gf
end
section
namespace Gf
open Go Eng
end Gf
namespace Go.Proofs.YtojohglifijnnaaGreatDoor
open Go Eng Gf
end Go.Proofs.YtojohglifijnnaaGreatDoor
end
section
namespace Gf
open Go Eng
end Gf
namespace Go.Proofs.YtojohglifijnnaaGreatDoor
open Go Eng Gf
end Go.Proofs.YtojohglifijnnaaGreatDoor
end
section
namespace Eng
open Go Go.RowKit
section
variable {r:Option Nat} {P:Program} {n:Nat} {D:List Deferred} {W:World} {Bo:List Nat} {F:List (Nat × Value)} {l l':SH}
  {dd:Nat} {ty:TypeId} {ps:String} {af:Array Edge} {g:Option (Nat × Bool)} {x y:Operand} {v:Value} {t e:TypeId}
  {Q:Exit → Act → World → Prop} {ops:Array Oper} {rest:List Oper}
end
end Eng
namespace Gf
open Go Eng
end Gf
namespace Go.Proofs.YtojohglifijnnaaGreatDoor
open Go Eng Gf Cod
set_option maxRecDepth 100000
section
variable (w:World) (a:Option Addr) (c n:Nat) (L:List (Nat × Nat)) (hv:Vld L) (hn:L.length = n) (hr:Rd w a (shc (sN L)))
include hv hn hr
end
end Go.Proofs.YtojohglifijnnaaGreatDoor
end
section
namespace Gf
open Go Eng
end Gf
namespace Go.Proofs.YtojohglifijnnaaGreatDoor
open Go Eng Gf Cod Sha
set_option maxRecDepth 100000
end Go.Proofs.YtojohglifijnnaaGreatDoor
end
section
namespace Go.Proofs.YtojohglifijnnaaGreatDoor
open Go Eng Gf Cod Sha
set_option maxRecDepth 100000
end Go.Proofs.YtojohglifijnnaaGreatDoor
end
section
namespace Gf
open Go Eng
end Gf
namespace Go.Proofs.YtojohglifijnnaaGreatDoor
open Go Eng Gf Cod Sha
set_option maxRecDepth 100000
end Go.Proofs.YtojohglifijnnaaGreatDoor
end
section
namespace Rst
open Go Eng Gf Go.Proofs.YtojohglifijnnaaGreatDoor
abbrev lbRec:List UInt8:=[114,101,99,111,118,101,114,121]
abbrev lbShs:List UInt8:=[115,104,97,114,101,115]
def opC (p:Pn) (d v l st:Int):Cs:=⟨p.id,d,v,l,st,[],[]⟩
noncomputable def stP (id:Int) (gs:List Int) (need cool:Int) (k:List UInt8):Pn:=⟨id,(pp 4 (dscal k lbRec):Nat),gs,need,cool⟩
end Rst
namespace Go.Proofs.YtojohglifijnnaaGreatDoor
open Go Eng Gf Sha Sig Wr Cod Cha Rst
set_option maxRecDepth 100000
theorem y_bper {n:Nat} {D:List Deferred} {W:World} {Bo:List Nat} {F:List (Nat × Value)} {l:SH} {d:Option Tmp} {ty:TypeId} {ps:String} {af:Array Edge} {g:Option (Nat × Bool)} {parts:Array (Nat × Operand)} {vs:List (Nat × Value)} {cs:List Value}
    (hp:evP F parts.toList = some vs:=by rfl) (hf:fillL (fun i=>(#[(0,1),(1,1),(2,1),(3,1),(4,1)]:Array (Nat × Nat))[i]?) [I 0,I 0,.slice none 0 0,I 0,I 0] vs = some cs:=by rfl) :
    Y Tryz.prog n D W Bo ⟨d,.build 26 parts,ty,ps,af,g⟩ F l (.agg cs.toArray) :=
  y_blds Tryz.underlying26 (fun w=>by kernel_rfl) hp hf
theorem y_bcas {n:Nat} {D:List Deferred} {W:World} {Bo:List Nat} {F:List (Nat × Value)} {l:SH} {d:Option Tmp} {ty:TypeId} {ps:String} {af:Array Edge} {g:Option (Nat × Bool)} {parts:Array (Nat × Operand)} {vs:List (Nat × Value)} {cs:List Value}
    (hp:evP F parts.toList = some vs:=by rfl) (hf:fillL (fun i=>(#[(0,1),(1,1),(2,1),(3,1),(4,1),(5,1),(6,1)]:Array (Nat × Nat))[i]?) [I 0,I 0,I 0,I 0,I 0,.slice none 0 0,.slice none 0 0] vs = some cs:=by rfl) :
    Y Tryz.prog n D W Bo ⟨d,.build 30 parts,ty,ps,af,g⟩ F l (.agg cs.toArray) :=
  y_blds Tryz.underlying30 (fun w=>by kernel_rfl) hp hf
theorem y_bapr {n:Nat} {D:List Deferred} {W:World} {Bo:List Nat} {F:List (Nat × Value)} {l:SH} {d:Option Tmp} {ty:TypeId} {ps:String} {af:Array Edge} {g:Option (Nat × Bool)} {parts:Array (Nat × Operand)} {vs:List (Nat × Value)} {cs:List Value}
    (hp:evP F parts.toList = some vs:=by rfl) (hf:fillL (fun i=>(#[(0,1),(1,2),(3,2)]:Array (Nat × Nat))[i]?) [I 0,I 0,.slice none 0 0,I 0,I 0] vs = some cs:=by rfl) :
    Y Tryz.prog n D W Bo ⟨d,.build 74 parts,ty,ps,af,g⟩ F l (.agg cs.toArray) :=
  y_blds Tryz.underlying74 (fun w=>by kernel_rfl) hp hf
theorem y_bvet {n:Nat} {D:List Deferred} {W:World} {Bo:List Nat} {F:List (Nat × Value)} {l:SH} {d:Option Tmp} {ty:TypeId} {ps:String} {af:Array Edge} {g:Option (Nat × Bool)} {parts:Array (Nat × Operand)} {vs:List (Nat × Value)} {cs:List Value}
    (hp:evP F parts.toList = some vs:=by rfl) (hf:fillL (fun i=>(#[(0,1),(1,1),(2,2)]:Array (Nat × Nat))[i]?) [I 0,I 0,I 0,I 0] vs = some cs:=by rfl) :
    Y Tryz.prog n D W Bo ⟨d,.build 80 parts,ty,ps,af,g⟩ F l (.agg cs.toArray) :=
  y_blds Tryz.underlying80 (fun w=>by kernel_rfl) hp hf
theorem Open_n1 (w:World) (p:Pn) (ga:Option Addr) (gc:Nat) (hrg:Rd w ga (is p.gs)) (hgs:p.gs.length ≤ 1000000000000000) (d v l st:Int) (hp:¬ Prs p):Pure Tryz.prog 13 [.agg #[I p.id,I p.rk,.slice ga p.gs.length gc,I p.need,I p.cool],I d,I v,I l,I st] w (.tuple #[.agg #[I 0,I 0,I 0,I 0,I 0,.slice none 0 0,.slice none 0 0],I 371]):=by
  refine enter Tryz.func13 Tryz.ntmps13 ?_
  refine c_seq<|c_reg<|s_box rfl fun b5=>s_alloc fun b10=>s_y y_as<|s_nil<|q_then<|c_seq<|c_seq<|c_reg<|s_y (y_lda (b:=b5) (cs:=#[I p.id,I p.rk,.slice ga p.gs.length gc,I p.need,I p.cool]) (hl:=rfl))<|s_pure (fun w' hw=>(by have h9:=valid_ok w' p ga gc (hrg.st hw) hgs; rw [prsB_f.2 hp] at h9; exact h9))<|s_y (v:=.bool true) (y_not (b:=false))<|s_nil<|q_then<|c_t<|c_seq<|c_reg<|s_y (y_lda (b:=b10) (cs:=#[I 0,I 0,I 0,I 0,I 0,.slice none 0 0,.slice none 0 0]) (hl:=rfl))<|s_sta (b:=b10) (vs:=#[I 0,I 0,I 0,I 0,I 0,.slice none 0 0,.slice none 0 0]) (cs:=#[I 0,I 0,I 0,I 0,I 0,.slice none 0 0,.slice none 0 0]) (h1:=one_allA rfl) (hl:=rfl) (hs1:=rfl) ?_
  refine s_y y_as<|s_nil<|q_then<|c_ret<|q_ret<|?_
  exact ret2 Tryz.results13 (rv_ca (b:=b10) (cs:=#[I 0,I 0,I 0,I 0,I 0,.slice none 0 0,.slice none 0 0]) (hl:=rfl)) rv_t fun w' hw=>⟨rfl,hw.sub (List.nil_sublist _)⟩
theorem Open_y (w:World) (p:Pn) (ga:Option Addr) (gc:Nat) (hrg:Rd w ga (is p.gs)) (hgs:p.gs.length ≤ 1000000000000000) (d v l st:Int) (hp:Prs p) (hb:Blg p (opC p d v l st)):Pure Tryz.prog 13 [.agg #[I p.id,I p.rk,.slice ga p.gs.length gc,I p.need,I p.cool],I d,I v,I l,I st] w (.tuple #[.agg #[I p.id,I d,I v,I l,I st,.slice none 0 0,.slice none 0 0],I 0]):=by
  refine enter Tryz.func13 Tryz.ntmps13 ?_
  refine c_seq<|c_reg<|s_box rfl fun b5=>s_alloc fun b10=>s_y y_as<|s_nil<|q_then<|c_seq<|c_seq<|c_reg<|s_y (y_lda (b:=b5) (cs:=#[I p.id,I p.rk,.slice ga p.gs.length gc,I p.need,I p.cool]) (hl:=rfl))<|s_pure (fun w' hw=>(by have h9:=valid_ok w' p ga gc (hrg.st hw) hgs; rw [prsB_t.2 hp] at h9; exact h9))<|s_y (v:=.bool false) (y_not (b:=true))<|s_nil<|q_then<|c_f<|c_skip<|q_then<|c_seq<|c_reg<|s_y y_fa<|s_y (y_ld (b:=b5) (v:=I p.id))<|s_y y_mv<|s_y y_mv<|s_y y_mv<|s_y y_mv<|s_y (y_bcas (cs:=[I p.id,I d,I v,I l,I st,.slice none 0 0,.slice none 0 0]))<|s_alloc fun b12=>s_sta (b:=b12) (vs:=#[I p.id,I d,I v,I l,I st,.slice none 0 0,.slice none 0 0]) (cs:=#[I 0,I 0,I 0,I 0,I 0,.slice none 0 0,.slice none 0 0]) (h1:=one_allA rfl) (hl:=rfl) (hs1:=rfl) ?_
  refine s_nil<|q_then<|c_seq<|c_seq<|c_reg<|s_y (y_lda (b:=b5) (cs:=#[I p.id,I p.rk,.slice ga p.gs.length gc,I p.need,I p.cool]) (hl:=rfl))<|s_y (y_lda (b:=b12) (cs:=#[I p.id,I d,I v,I l,I st,.slice none 0 0,.slice none 0 0]) (hl:=rfl))<|s_pure (fun w' hw=>(by have h9:=belongs_ok w' p (opC p d v l st) ga none none gc 0 0 hp (hrg.st hw) (Rd.nil _ _) (Rd.nil _ _) (Nat.zero_le _) (Nat.zero_le _); rw [blgB_t.2 hb] at h9; exact h9))<|s_y (v:=.bool false) (y_not (b:=true))<|s_nil<|q_then<|c_f<|c_skip<|q_then<|c_seq<|c_reg<|s_y (y_lda (b:=b12) (cs:=#[I p.id,I d,I v,I l,I st,.slice none 0 0,.slice none 0 0]) (hl:=rfl))<|s_sta (b:=b10) (vs:=#[I p.id,I d,I v,I l,I st,.slice none 0 0,.slice none 0 0]) (cs:=#[I 0,I 0,I 0,I 0,I 0,.slice none 0 0,.slice none 0 0]) (h1:=one_allA rfl) (hl:=rfl) (hs1:=rfl) ?_
  refine s_y y_as<|s_nil<|q_then<|c_ret<|?_
  exact ret2 Tryz.results13 (rv_ca (b:=b10) (cs:=#[I p.id,I d,I v,I l,I st,.slice none 0 0,.slice none 0 0]) (hl:=rfl)) rv_t fun w' hw=>⟨rfl,hw.sub (List.nil_sublist _)⟩
theorem Setup_no (w:World) (id cool:Int) (need:Int) (gs:List Int) (k:List UInt8) (ga:Option Addr) (gc:Nat) (hg:LS w) (hk:k.length = 32) (hrg:Rd w ga (is gs)) (hgl:gs.length ≤ 1000000) (hp:¬ Prs (stP id gs need cool k)):Pure Tryz.prog 11 [I id,.slice ga gs.length gc,I need,I cool,.agg (bs k).toArray] w (.tuple #[.agg #[I 0,I 0,.slice none 0 0,I 0,I 0],.slice none 0 0,I 371]):=by
  obtain ⟨r,hre⟩:∃ r,dscal k lbRec = r:=⟨_,rfl⟩
  have hrl:r < 2305843009213688669:=by rw [← hre]; exact (scal_lt _ _).2
  refine enter Tryz.func11 Tryz.ntmps11 ?_
  refine c_seq<|c_reg<|s_box rfl fun b9=>s_alloc fun b10=>s_y y_as<|s_y y_as<|s_nil<|q_then<|c_seq<|c_reg<|s_y (y_lda (b:=b9) (cs:=(bs k).toArray) (hl:=(hz32 hk)))<|s_pure (fun w' hw=>derive_Scalar_ok w' k lbRec (hg.st hw) hk (by decide))<|?_
  rw [hre]
  refine s_y y_as<|s_nil<|q_then<|c_seq<|c_reg<|s_y y_mv<|s_y y_mv<|s_gives (fun w' hw=>CloneI_ok w' ga gc gs (hrg.st hw) (by omega)) fun (x19:Option Addr × Nat) _=>s_y y_mv<|s_y y_mv<|s_y (y_bper (cs:=[I id,I 0,.slice x19.1 gs.length x19.2,I need,I cool]))<|s_alloc fun b14=>s_sta (b:=b14) (vs:=#[I id,I 0,.slice x19.1 gs.length x19.2,I need,I cool]) (cs:=#[I 0,I 0,.slice none 0 0,I 0,I 0]) (h1:=one_allA rfl) (hl:=rfl) (hs1:=rfl) ?_
  refine s_nil<|q_then<|c_seq<|c_seq<|c_reg<|s_y y_mv<|s_pure (fun w' hw=>gBase_el w' r hrl)<|s_y y_mv<|s_y y_ext<|s_y y_ext<|s_y y_fa<|s_st (b:=b14) (v:=I (pp 4 r:Nat)) (cs:=#[I id,I 0,.slice x19.1 gs.length x19.2,I need,I cool]) (hl:=by simp) ?_
  refine s_y y_as<|s_nil<|q_then<|c_seq<|c_reg<|s_y y_mv<|s_nf (y_neq (p:=0) (q:=0)) (by omega)<|s_nil<|q_then<|c_f<|c_skip<|q_then<|c_seq<|c_seq<|c_reg<|s_y (y_lda (b:=b14) (cs:=#[I id,I (pp 4 r:Nat),.slice x19.1 gs.length x19.2,I need,I cool]) (hl:=rfl))<|s_pure (fun w' hw=>(by have h9:=valid_ok w' (stP id gs need cool k) x19.1 x19.2 (rdR (.tail _ (.head _)) w' hw) (by show gs.length ≤ _; omega); rw [prsB_f.2 hp] at h9; simp only [stP,hre] at h9; exact h9))<|s_y (v:=.bool true) (y_not (b:=false))<|s_nil<|q_then<|c_t<|c_seq<|c_reg<|s_y (y_lda (b:=b10) (cs:=#[I 0,I 0,.slice none 0 0,I 0,I 0]) (hl:=rfl))<|s_sta (b:=b10) (vs:=#[I 0,I 0,.slice none 0 0,I 0,I 0]) (cs:=#[I 0,I 0,.slice none 0 0,I 0,I 0]) (h1:=one_allA rfl) (hl:=rfl) (hs1:=rfl) ?_
  refine s_y y_as<|s_y y_as<|s_nil<|q_then<|c_ret<|q_ret<|?_
  exact ret3 Tryz.results11 (rv_ca (b:=b10) (cs:=#[I 0,I 0,.slice none 0 0,I 0,I 0]) (hl:=rfl)) rv_t rv_t fun w' hw=>⟨rfl,hw.sub (List.nil_sublist _)⟩
theorem Setup_yes (w:World) (id cool:Int) (N:Nat) (gs:List Int) (k:List UInt8) (ga:Option Addr) (gc:Nat) (hg:LS w) (hk:k.length = 32) (hrg:Rd w ga (is gs)) (hgl:gs.length ≤ 1000000) (hp:Prs (stP id gs ((N + 1:Nat):Int) cool k)):Gives Tryz.prog 11 [I id,.slice ga gs.length gc,I ((N + 1:Nat):Int),I cool,.agg (bs k).toArray] w [] (fun y:(Option Addr × Nat) × (Option Addr × Nat)=>.tuple #[.agg #[I id,I (pp 4 (dscal k lbRec):Nat),.slice y.1.1 gs.length y.1.2,I ((N + 1:Nat):Int),I cool],.slice y.2.1 gs.length y.2.2,I 0]) (fun y=>[.row y.2.1 y.2.2 46 2 gs.length (shc (sN (spl (cof (expand k lbShs []) (dscal k lbRec) N) gs.length))),.row y.1.1 y.1.2 3 1 gs.length (is gs)]) (fun _=>True):=by
  obtain ⟨r,hre⟩:∃ r,dscal k lbRec = r:=⟨_,rfl⟩
  have hrl:r < 2305843009213688669:=by rw [← hre]; exact (scal_lt _ _).2
  refine enter Tryz.func11 Tryz.ntmps11 ?_
  refine c_seq<|c_reg<|s_box rfl fun b9=>s_alloc fun b10=>s_y y_as<|s_y y_as<|s_nil<|q_then<|c_seq<|c_reg<|s_y (y_lda (b:=b9) (cs:=(bs k).toArray) (hl:=(hz32 hk)))<|s_pure (fun w' hw=>derive_Scalar_ok w' k lbRec (hg.st hw) hk (by decide))<|?_
  rw [hre]
  refine s_y y_as<|s_nil<|q_then<|c_seq<|c_reg<|s_y y_mv<|s_y y_mv<|s_gives (fun w' hw=>CloneI_ok w' ga gc gs (hrg.st hw) (by omega)) fun (x19:Option Addr × Nat) _=>s_y y_mv<|s_y y_mv<|s_y (y_bper (cs:=[I id,I 0,.slice x19.1 gs.length x19.2,I ((N + 1:Nat):Int),I cool]))<|s_alloc fun b14=>s_sta (b:=b14) (vs:=#[I id,I 0,.slice x19.1 gs.length x19.2,I ((N + 1:Nat):Int),I cool]) (cs:=#[I 0,I 0,.slice none 0 0,I 0,I 0]) (h1:=one_allA rfl) (hl:=rfl) (hs1:=rfl) ?_
  refine s_nil<|q_then<|c_seq<|c_seq<|c_reg<|s_y y_mv<|s_pure (fun w' hw=>gBase_el w' r hrl)<|s_y y_mv<|s_y y_ext<|s_y y_ext<|s_y y_fa<|s_st (b:=b14) (v:=I (pp 4 r:Nat)) (cs:=#[I id,I 0,.slice x19.1 gs.length x19.2,I ((N + 1:Nat):Int),I cool]) (hl:=by simp) ?_
  refine s_y y_as<|s_nil<|q_then<|c_seq<|c_reg<|s_y y_mv<|s_nf (y_neq (p:=0) (q:=0)) (by omega)<|s_nil<|q_then<|c_f<|c_skip<|q_then<|c_seq<|c_seq<|c_reg<|s_y (y_lda (b:=b14) (cs:=#[I id,I (pp 4 r:Nat),.slice x19.1 gs.length x19.2,I ((N + 1:Nat):Int),I cool]) (hl:=rfl))<|s_pure (fun w' hw=>(by have h9:=valid_ok w' (stP id gs ((N + 1:Nat):Int) cool k) x19.1 x19.2 (rdR (.tail _ (.head _)) w' hw) (by show gs.length ≤ _; omega); rw [prsB_t.2 hp] at h9; simp only [stP,hre] at h9; exact h9))<|s_y (v:=.bool false) (y_not (b:=true))<|s_nil<|q_then<|c_f<|c_skip<|q_then<|c_seq<|c_seq<|c_reg<|s_y y_mv<|s_y y_mv<|s_y y_mv<|s_y y_len<|s_y (y_lda (b:=b9) (cs:=(bs k).toArray) (hl:=(hz32 hk)))<|s_pure (fun w' hw=>derive_Expand_ok w' k lbShs none 0 [] (hg.st hw) hk (Rd.nil _ _) (by simp) (by decide) (by decide))<|s_gives (fun w' hw=>s_Split_yes w' r N gs.length (expand k lbShs []) (expand_length _ _ _) (hg.st hw) hrl (by have:=hp.need; simp only [stP] at this; omega) (by have:=hp.gl; simp only [stP] at this; omega)) fun (x44:Option Addr × Nat) _=>s_y y_mv<|s_y y_ext<|s_y y_ext<|s_y y_as<|s_y y_as<|s_nil<|q_then<|c_seq<|c_reg<|s_y y_mv<|s_nf (y_neq (p:=0) (q:=0)) (by omega)<|s_nil<|q_then<|c_f<|c_skip<|q_then<|c_seq<|c_reg<|s_y (y_lda (b:=b14) (cs:=#[I id,I (pp 4 r:Nat),.slice x19.1 gs.length x19.2,I ((N + 1:Nat):Int),I cool]) (hl:=rfl))<|s_y y_mv<|s_sta (b:=b10) (vs:=#[I id,I (pp 4 r:Nat),.slice x19.1 gs.length x19.2,I ((N + 1:Nat):Int),I cool]) (cs:=#[I 0,I 0,.slice none 0 0,I 0,I 0]) (h1:=one_allA rfl) (hl:=rfl) (hs1:=rfl) ?_
  refine s_y y_as<|s_y y_as<|s_nil<|q_then<|c_ret<|?_
  exact ret3 Tryz.results11 (rv_ca (b:=b10) (cs:=#[I id,I (pp 4 r:Nat),.slice x19.1 gs.length x19.2,I ((N + 1:Nat):Int),I cool]) (hl:=rfl)) rv_t rv_t fun w' hw=>⟨((x19.1,x19.2),(x44.1,x44.2)),trivial,rfl,hw.sub (by repeat (first | exact List.nil_sublist _ | exact List.Sublist.refl _ | apply List.Sublist.cons_cons | apply List.Sublist.cons))⟩
end Go.Proofs.YtojohglifijnnaaGreatDoor
end
section
namespace Eng
open Go Go.RowKit
section
variable {P:Program} {n:Nat} {D:List Deferred} {W:World} {Bo:List Nat} {F:List (Nat × Value)} {l:SH}
  {d:Option Tmp} {ty:TypeId} {ps:String} {af:Array Edge} {g:Option (Nat × Bool)} {x y:Operand} {ta tb e:TypeId}
theorem is_at {p:List Int} {i:Nat} (h:i < p.length):(is p).toArray[i]? = some (I p[i]):=by
  rw [List.getElem?_toArray]; simp [is,List.getElem?_eq_getElem h]
theorem eqItems_i [hf:HT P e true] {by':Nat} [hs:HS P e 1 by'] [hi:HU P e (.int .i64)] {p q:List Int} (w:World):∀ is':List Nat,(∀ i ∈ is',i < p.length ∧ i < q.length) →
    (Op.eqItems 9999 e 1 (is p).toArray (is q).toArray is').run P w = .ok (is'.all fun i=>p[i]? == q[i]?) w
  | [],_=>by simp [Op.eqItems]
  | i :: is',h=>by
    obtain ⟨h1,h2⟩:=h i (.head _)
    have e1:=is_at h1
    have e2:=is_at h2
    have e3:(Op.equalIn 9999 e (I p[i]) (I q[i])).run P w = .ok (p[i] == q[i]) w:=run_equalIn_int w 9998 e .i64 .i64 _ _ hi.h
    have e4:(p[i] == q[i]) = (p[i]? == q[i]?):=by
      rw [List.getElem?_eq_getElem h1,List.getElem?_eq_getElem h2]
      by_cases hpq:p[i] = q[i]
      · simp [hpq]
      · have h5:(p[i] == q[i]) = false:=by rw [beq_eq_false_iff_ne]; exact hpq
        have h6:(some p[i] == some q[i]) = false:=by simpa using hpq
        rw [h5,h6]
    simp only [Op.eqItems,Sem.run_bind,Nat.mul_one,run_part1 e1,run_part1 e2,Result.andThen_ok,e3,List.all_cons,← e4]
    cases p[i] == q[i] with
    | false=>simp
    | true=>simpa using eqItems_i w is' fun j hj=>h j (.tail _ hj)
theorem all_eqi {p q:List Int} {m:Nat} (hp:p.length = m) (hq:q.length = m):((List.range m).all fun i=>p[i]? == q[i]?) = decide (p = q):=by
  by_cases h:p = q
  · subst h; simp
  · rw [decide_eq_false h,List.all_eq_false]
    apply Classical.byContradiction
    intro hc
    refine h (List.ext_getElem? fun i=>?_)
    rcases Nat.lt_or_ge i m with hi | hi
    · apply Classical.byContradiction
      intro hne
      exact hc ⟨i,List.mem_range.2 hi,by simpa using hne⟩
    · rw [List.getElem?_eq_none (by omega),List.getElem?_eq_none (by omega)]
theorem run_eqi {m:Nat} [hu:HU P ta (.array m e)] [hf:HT P e true] {by':Nat} [hs:HS P e 1 by'] [hi:HU P e (.int .i64)] {p q:List Int} (hp:p.length = m) (hq:q.length = m) (w:World) :
    (Op.equalIn 10000 ta (.agg (is p).toArray) (.agg (is q).toArray)).run P w = .ok (decide (p = q)) w:=by
  obtain ⟨inf,h1,h2,h3⟩:=hs.h
  have h4:=run_equalIn_array w 9999 (is p).toArray (is q).toArray hu.h h1
  have h5:P.cellsOf e = 1:=by simp [Program.cellsOf,h1,h2]
  rw [h5,eqItems_i w (List.range m) (fun i hi=>by have:=List.mem_range.1 hi; omega),all_eqi hp hq] at h4
  exact h4
theorem y_neqi {m:Nat} [hu:HU P ta (.array m e)] [hf:HT P e true] {by':Nat} [hs:HS P e 1 by'] [hi:HU P e (.int .i64)] {p q:List Int} (hp:p.length = m) (hq:q.length = m) (hgd:P.eqGuardType P.depth ta = false)
    (hx:evO F x = some (.agg (is p).toArray):=by rfl) (hy:evO F y = some (.agg (is q).toArray):=by rfl):Y P n D W Bo ⟨d,.binOp .neq ta x y tb,ty,ps,af,g⟩ F l (.bool (!decide (p = q))) :=
  .mk (by simp) fun ac w ha _=>by
    simp only [execOp,ha.eval hx,ha.eval hy,Sem.run_bind,run_eqGuard_agg w .neq ta x y _ _ hgd,Result.andThen_ok,run_neq_struct,run_eqi hp hq,Sem.run_pure]
end
end Eng
end
section
namespace Sig
open Go Eng Sha Gf Wr Go.Proofs.YtojohglifijnnaaGreatDoor
def bey (ns:List Nat):List UInt8:=(ns.map fun n=>be n 8).flatten
theorem bey_one (n:Nat):bey [n] = be n 8:=by simp [bey]
theorem bey_two (m n:Nat):bey [m,n] = be m 8 ++ be n 8:=by simp [bey]
theorem bey_length:∀ ns:List Nat,(bey ns).length = 8 * ns.length
  | []=>rfl
  | n :: ns=>by
    have:=bey_length ns
    unfold bey at this ⊢
    rw [List.map_cons,List.flatten_cons,List.length_append,be_length,this,List.length_cons]; omega
theorem bey_take (ns:List Nat) (k:Nat) (h:k < ns.length):bey (ns.take (k + 1)) = bey (ns.take k) ++ be ns[k] 8:=by
  unfold bey
  rw [List.take_succ_eq_append_getElem h,List.map_append,List.flatten_append]; simp
theorem one63 {x:Nat} (h:x < 9223372036854775808):∀ n ∈ [x],n < 9223372036854775808:=fun n hn=>by rw [List.mem_singleton.1 hn]; exact h
theorem two63 {x y:Nat} (h:x < 9223372036854775808) (h2:y < 9223372036854775808):∀ n ∈ [x,y],n < 9223372036854775808:=fun n hn=>by
  rcases List.mem_cons.1 hn with rfl | hn
  · exact h
  · rw [List.mem_singleton.1 hn]; exact h2
theorem pp63 (a k:Nat):pp a k < 9223372036854775808:=Nat.lt_trans (pp_lt a k) (by decide)
theorem _root_.Gf.El.l63 {x:Nat} (h:El x):x < 9223372036854775808:=Nat.lt_trans h.lt (by decide)
theorem el_El {u:Int} (h:el u = true):∃ x:Nat,u = (x:Int) ∧ El x:=by
  obtain ⟨x,e,h0,h1,h2⟩:=el_nat h
  exact ⟨x,e,⟨h0,h1,h2⟩⟩
end Sig
namespace Go.Proofs.YtojohglifijnnaaGreatDoor
open Go Eng Gf Sha Sig Wr Cod Cha
set_option maxRecDepth 100000
theorem hgk3:(Tryz.prog).eqGuardType (Tryz.prog).depth 135 = false:=by kernel_rfl
theorem sValid_y (w:World) (x:Nat) (h0:1 ≤ x) (h:x < 2305843009213688669):Pure Tryz.prog 84 [I x] w (.bool true):=by
  have h9:=sValid_ok w (x:Int)
  rw [pvB_of h0 h] at h9
  exact h9
theorem sPub_y (w:World) (x:Nat) (h:x < 2305843009213688669):Pure Tryz.prog 85 [I x] w (I (pp 4 x:Nat)):=by
  refine enter Tryz.func85 Tryz.ntmps85 ?_
  refine c_seq<|c_reg<|s_y y_as<|s_nil<|q_then<|c_seq<|c_reg<|s_y y_mv<|s_pure (v:=.tuple #[I (pp 4 x:Nat),I 0]) (fun w' hw=>gBase_el w' x h)<|s_y y_mv<|s_y y_ext<|s_y y_ext<|s_y y_as<|s_y y_as<|s_nil<|q_then<|c_seq<|c_reg<|s_y y_mv<|s_y y_as<|s_nil<|q_then<|c_ret<|?_
  exact ret1 Tryz.results85 rv_t fun w' hw=>⟨rfl,hw⟩
theorem one3 {a b c:Int} {v:Value} (h:v ∈ [I a,I b,I c]):v.oneCell' = true:=by
  rcases h with _ | ⟨_,_ | ⟨_,_ | ⟨_,h⟩⟩⟩
  · rfl
  · rfl
  · rfl
  · cases h
theorem gMul_yes (w:World) (x y:Nat) (hx:El x) (hy:El y):Pure Tryz.prog 101 [I x,I y] w (.tuple #[I (x * y % 4611686018427377339:Nat),I 0]):=by
  have h:=gMul_ok w (x:Int) (y:Int)
  rw [show mulV (x:Int) (y:Int) = ((x * y % 4611686018427377339:Nat):Int) by rw [mulV,hx.el,hy.el]; simp,show mulE (x:Int) (y:Int) = 0 by rw [mulE,hx.el,hy.el]; rfl] at h
  exact h
theorem s_hash_ok (w:World) (t m:List UInt8) (a A:Option Addr) (c C:Nat) (ns:List Nat) (hg:LS w) (ht:t.length ≤ 1000) (hr:Rd w a (bs m)) (hA:Rd w A (ns.map fun n=>I ((n:Nat):Int))) (hn:∀ n ∈ ns,n < 9223372036854775808) (hnl:ns.length ≤ 2) (hl:m.length ≤ 100000000) :
    Pure Tryz.prog 100 [.string (sb t),.slice a m.length c,.slice A ns.length C] w (I (scal t (bey ns ++ m):Nat)):=by
  have hml:ns.length ≤ (ns.map fun n=>I ((n:Nat):Int)).length:=by rw [List.length_map]; exact Nat.le_refl _
  refine enter Tryz.func100 Tryz.ntmps100 ?_
  refine c_seq<|c_reg<|s_y y_as<|s_nil<|q_then<|c_seq<|c_reg<|s_y y_as<|s_nil<|q_then<|c_seq<|c_seq<|c_reg<|s_y y_mv<|s_y y_len<|s_y y_mv<|s_nil<|q_then<|c_nilrow 5 1<|c_block<|?_
  refine c_loop3 (fun (k:Nat) (b:Option Addr) (d:Nat)=>[(0,.string (sb t)),(1,.slice a m.length c),(7,.slice b (8 * k) d),(11,.slice A ns.length C),(12,I ns.length),(13,I k)]) (fun k b d=>[.row b d 5 1 (8 * k) (bs (bey (ns.take k)))]) (fun k _ _=>k ≤ ns.length) (fun k _ _=>ns.length - k) 0 none 0 (by omega) ⟨rfl,rfl,rfl,rfl,rfl,rfl,trivial⟩ (.refl _) ?_
  intro k b d hk
  by_cases hlt:k < ns.length
  · have hv:(ns.map fun n=>I ((n:Nat):Int))[k]? = some (I ((ns[k]:Nat):Int)):=by rw [List.getElem?_map,List.getElem?_eq_getElem hlt]; rfl
    have hb:=hn ns[k] (List.getElem_mem hlt)
    have hbl:=be_length ns[k] 8
    have hstep:=bey_take ns k hlt
    obtain ⟨z,hz⟩:∃ z,ns[k] = z:=⟨_,rfl⟩
    rw [hz] at hv hb hbl hstep
    refine c_seq<|c_reg<|s_kt (y_lss (p:=((k:Nat):Int)) (q:=((ns.length:Nat):Int))) (by omega)<|s_nil<|q_then<|c_seq<|c_t<|c_skip<|q_then<|c_seq<|c_block<|c_seq<|c_reg<|s_y (y_ixs1 (xs:=ns.map fun n=>I ((n:Nat):Int)) (hl:=hml))<|s_y (y_ldr (v:=I ((z:Nat):Int)) (xs:=ns.map fun n=>I ((n:Nat):Int)) (i:=(k:Int).toNat) hv)<|s_y y_as<|s_nil<|q_then<|c_seq<|c_reg<|s_y y_as<|s_nil<|q_then<|c_block<|?_
    refine c_loop3 (fun (j:Nat) (b:Option Addr) (d:Nat)=>[(0,.string (sb t)),(1,.slice a m.length c),(7,.slice b (8 * k + j) d),(9,I z),(10,I (56 - 8 * (j:Int))),(11,.slice A ns.length C),(12,I ns.length),(13,I k)]) (fun j b d=>[.row b d 5 1 (8 * k + j) (bs (bey (ns.take k) ++ (be z 8).take j))]) (fun j _ _=>j ≤ 8) (fun j _ _=>8 - j) 0 b d (by omega) ⟨rfl,rfl,rfl,rfl,rfl,rfl,rfl,rfl,trivial⟩ (by rw [List.take_zero,List.append_nil]; exact .refl _) ?_
    intro j b2 d2 hj
    by_cases h8:j < 8
    · refine c_seq<|c_seq<|c_reg<|s_y y_mv<|s_kt (y_geq (p:=56 - 8 * (j:Int)) (q:=0)) (by omega)<|s_nil<|q_then<|c_t<|c_skip<|q_then<|c_seq<|c_block<|c_reg<|s_y y_mv<|s_y y_mv<|s_y (y_cvn (k:=.u64) (p:=((z:Nat):Int)) (hw:=wrap_u64 (by omega) (by omega)))<|s_y y_mv<|?_
      rw [show (56:Int) - 8 * (j:Int) = ((56 - 8 * j:Nat):Int) by omega]
      refine s_y (y_shr (p:=z) (q:=((56 - 8 * j:Nat):Int)))<|?_
      rw [Int.toNat_natCast]
      refine s_y y_cv8<|?_
      rw [cvn8,show UInt8.ofNat (z / 2 ^ (56 - 8 * j)) = (be z 8).getD j 0 by rw [be_get z 8 j h8,show 8 * (8 - 1 - j) = 56 - 8 * j by omega]]
      refine s_bslr (cs:=bs [(be z 8).getD j 0]) fun b29=>s_app (m:=1) (srcB (q:=[(be z 8).getD j 0]) (rdR (.head _)) rfl) (h1:=fun v hv=>bs_one hv) (hm:=.tail _ (.head _)) (hrep:=fun _ _=>.tail _ (.head _)) fun a30 c30 h30=>?_
      rw [← bs_append,List.append_assoc,← Eng.take_snoc (be z 8) j 0 (by omega),show 8 * k + j + 1 = 8 * k + (j + 1) by omega]
      refine s_y y_as<|s_nil<|q_nb<|q_then<|c_reg<|s_y y_mv<|s_y (y_sub (p:=((56 - 8 * j:Nat):Int)) (q:=8))<|?_
      rw [show ((56 - 8 * j:Nat):Int) - 8 = 56 - 8 * ((j + 1:Nat):Int) by omega]
      refine s_y y_as<|s_nil<|q_round3 (x:=j) (y:=b2) (z:=d2) (j + 1) a30 c30 (by omega) (by omega) ⟨rfl,rfl,rfl,rfl,rfl,rfl,rfl,rfl,trivial⟩ (.cons _ (.refl _))
    · obtain rfl:j = 8:=by omega
      rw [List.take_of_length_le (l:=be z 8) (by omega),← hstep,show 8 * k + 8 = 8 * (k + 1) by omega]
      refine c_seq<|c_seq<|c_reg<|s_y y_mv<|s_kf (y_geq (p:=56 - 8 * ((8:Nat):Int)) (q:=0)) (by omega)<|s_nil<|q_then<|c_f<|c_exit<|q_ex<|q_ex<|q_exb<|q_nb<|q_then<|c_reg<|s_y (y_add (p:=((k:Nat):Int)) (q:=1))<|s_y y_mv<|s_nil<|?_
      rw [show ((k:Nat):Int) + 1 = ((k + 1:Nat):Int) by omega]
      exact q_round3 (x:=k) (y:=b) (z:=d) (k + 1) b2 d2 (by omega) (by omega) ⟨rfl,rfl,rfl,rfl,rfl,rfl,trivial⟩ (.refl _)
  · obtain rfl:k = ns.length:=by omega
    have hbl:=bey_length ns
    rw [List.take_length]
    refine c_seq<|c_reg<|s_kf (y_lss (p:=((ns.length:Nat):Int)) (q:=((ns.length:Nat):Int))) (by omega)<|s_nil<|q_then<|c_seq<|c_f<|c_exit<|q_ex<|q_ex<|q_exb<|q_then<|c_seq<|c_reg<|s_y y_mv<|s_y y_mv<|s_y y_mv<|s_app (m:=m.length) (srcB (q:=m) (rdW0 hr) rfl) (h1:=fun v hv=>bs_one hv) (hm:=.head _) (hrep:=fun _ _=>.head _) fun a33 c33 h33=>?_
    rw [← bs_append,show 8 * ns.length + m.length = (bey ns ++ m).length by rw [List.length_append]; omega]
    refine s_pure (fun w' hw=>group_Scalar_ok w' t a33 c33 (bey ns ++ m) (hg.st hw) (by omega) (rdR (.head _) w' hw) (by rw [List.length_append]; omega))<|s_y y_as<|s_nil<|q_then<|c_ret<|?_
    exact ret1 Tryz.results100 rv_t fun w' hw=>⟨rfl,hw.sub (List.nil_sublist _)⟩
theorem sSign_yes (w:World) (a:Option Addr) (c:Nat) (m:List UInt8) (x:Nat) (hg:LS w) (hr:Rd w a (bs m)) (hl:m.length ≤ 100000000) (hx0:1 ≤ x) (hx:x < 2305843009213688669):Pure Tryz.prog 66 [I x,.slice a m.length c] w (.tuple #[.agg #[I (sgR x m:Nat),I (sgS x m:Nat)],I 0]):=by
  refine enter Tryz.func66 Tryz.ntmps66 ?_
  refine c_seq<|c_reg<|s_alloc fun b4=>s_y y_as<|s_nil<|q_then<|c_seq<|c_reg<|s_y y_mv<|s_y y_as<|s_nil<|q_then<|c_seq<|c_reg<|s_y y_mv<|s_y y_func<|s_y y_mv<|s_y y_func<|s_y y_as<|s_y y_as<|s_nil<|q_then<|c_seq<|c_seq<|c_reg<|s_y y_mv<|s_pure (fun w' hw=>sValid_y w' x hx0 hx)<|s_y (v:=.bool false) (y_not (b:=true))<|s_nil<|q_then<|c_f<|c_skip<|q_then<|c_seq<|c_reg<|s_y y_mv<|s_y y_mv<|s_bslr (cs:=[I x]) fun b23=>s_pure (fun w' hw=>s_hash_ok w' tNonce m a (some ⟨b23,0,none⟩) c 1 [x] (hg.st hw) (by decide) (hr.st hw) (rdR (.head _) w' hw) (one63 (by omega)) (by simp) hl)<|?_
  rw [bey_one,show scal tNonce (be x 8 ++ m) = nonce x m from rfl]
  refine s_y y_as<|s_nil<|q_then<|c_seq<|c_reg<|s_y y_mv<|s_pure (fun w' hw=>gBase_el w' (nonce x m) (nonce_lt _ _))<|?_
  rw [show pp 4 (nonce x m) = sgR x m from rfl]
  refine s_y y_mv<|s_y y_ext<|s_y y_ext<|s_y y_fa<|s_st (b:=b4) (v:=I (sgR x m:Nat)) (cs:=#[I 0,I 0]) (hl:=by simp) ?_
  refine s_nil<|q_then<|c_seq<|c_regL [.row (some ⟨b23,0,none⟩) 1 3 1 1 [I x],.blk b4 (.cells #[I (sgR x m:Nat),I 0] 59 (0,0))]<|r_y 0 rfl y_mv<|r_y 1 rfl y_fa<|r_y 2 rfl (y_ld (b:=b4) (v:=I (sgR x m:Nat)))<|r_y 3 rfl y_mv<|r_y 7 rfl y_mv<|r_W 4 rfl<|s_pure (fun w' hw=>sPub_y w' x hx)<|r_K<|r_W 5 rfl<|s_bslr (cs:=[I (sgR x m:Nat),I (pp 4 x:Nat)]) fun b37=>r_K<|r_W 6 rfl<|s_pure (fun w' hw=>s_hash_ok w' tSign m a (some ⟨b37,0,none⟩) c 2 [sgR x m,pp 4 x] (hg.st hw) (by decide) (hr.st hw) (rdR (.head _) w' hw) (two63 (Sig.pp63 _ _) (Sig.pp63 _ _)) (by simp) hl)<|?_
  rw [bey_two,show scal tSign (be (sgR x m) 8 ++ be (pp 4 x) 8 ++ m) = chal (sgR x m) (pp 4 x) m from rfl]
  refine r_K<|r_W 8 rfl<|s_pure (fun w' hw=>f_Mul_yes w' (chal (sgR x m) (pp 4 x) m) x (chal_lt _ _ _) hx)<|r_K<|r_y 9 rfl y_mv<|r_y 10 rfl y_ext<|r_y 11 rfl y_ext<|r_y 12 rfl y_as<|r_y 13 rfl y_as<|r_E<|q_then<|c_seq<|c_reg<|s_y y_mv<|s_y y_mv<|s_pure (fun w' hw=>f_Add_yes w' (nonce x m) ((chal (sgR x m) (pp 4 x) m) * x % 2305843009213688669) (nonce_lt _ _) (Nat.mod_lt _ (by decide)))<|?_
  rw [show (nonce x m + (chal (sgR x m) (pp 4 x) m) * x % 2305843009213688669) % 2305843009213688669 = sgS x m from rfl]
  refine s_y y_mv<|s_y y_ext<|s_y y_ext<|s_y y_fa<|s_st (b:=b4) (v:=I (sgS x m:Nat)) (cs:=#[I (sgR x m:Nat),I 0]) (hl:=by simp) ?_
  refine s_y y_as<|s_nil<|q_then<|c_seq<|c_reg<|s_y (y_lda (b:=b4) (cs:=#[I (sgR x m:Nat),I (sgS x m:Nat)]) (hl:=rfl))<|s_y y_mv<|s_sta (b:=b4) (vs:=#[I (sgR x m:Nat),I (sgS x m:Nat)]) (cs:=#[I (sgR x m:Nat),I (sgS x m:Nat)]) (h1:=by intro u hu; simp at hu; rcases hu with rfl | rfl <;> rfl) (hl:=rfl) (hs1:=rfl) ?_
  refine s_y y_as<|s_nil<|q_then<|c_ret<|?_
  exact ret2 Tryz.results66 (rv_ca (b:=b4) (cs:=#[I (sgR x m:Nat),I (sgS x m:Nat)]) (hl:=rfl)) rv_t fun w' hw=>⟨rfl,hw.sub (List.nil_sublist _)⟩
theorem sVerify_bad (w:World) (a:Option Addr) (c:Nat) (m:List UInt8) (p r s:Int) (hr:Rd w a (bs m)) (hl:m.length ≤ 100000000) (hz:¬ [chk p,chk r,bif sc s then 0 else 1] = [0,0,0]):Pure Tryz.prog 32 [I p,.slice a m.length c,.agg #[I r,I s]] w (.bool false):=by
  refine enter Tryz.func32 Tryz.ntmps32 ?_
  refine c_seq<|c_reg<|s_box rfl fun b5=>s_y y_as<|s_nil<|q_then<|c_seq<|c_regL [.blk b5 (.cells #[I r,I s] 59 (0,0))]<|r_y 0 rfl y_mv<|r_y 2 rfl y_fa<|r_y 3 rfl (y_ld (b:=b5) (v:=I r))<|r_y 5 rfl y_fa<|r_y 6 rfl (y_ld (b:=b5) (v:=I s))<|r_w2 1 9 rfl rfl ?_ ?_ (hsub:=by repeat (first | exact List.nil_sublist _ | exact List.Sublist.refl _ | apply List.Sublist.cons_cons | apply List.Sublist.cons))
  · refine s_pure (fun w' hw=>gCheck_ok w' p)<|r_K<|r_w2 4 9 rfl rfl ?_ ?_ (hsub:=by repeat (first | exact List.nil_sublist _ | exact List.Sublist.refl _ | apply List.Sublist.cons_cons | apply List.Sublist.cons))
    · refine s_pure (fun w' hw=>gCheck_ok w' r)<|r_K<|r_w2 7 9 rfl rfl ?_ ?_ (hsub:=by repeat (first | exact List.nil_sublist _ | exact List.Sublist.refl _ | apply List.Sublist.cons_cons | apply List.Sublist.cons))
      · refine s_pure (fun w' hw=>f_Check_ok w' s)<|r_K<|r_y 8 rfl (y_blda (cs:=[I (chk p),I (chk r),I (bif sc s then 0 else 1)]))<|r_W 9 rfl<|s_alloc fun b7=>r_K<|r_W 10 rfl<|s_sta (b:=b7) (vs:=#[I (chk p),I (chk r),I (bif sc s then 0 else 1)]) (cs:=#[I 0,I 0,I 0]) (h1:=fun v hv=>one3 hv) (hl:=(rfl:(3:Nat) = 3)) (hs1:=(rfl:(3:Nat) = 3)) ?_
        refine r_K<|r_E<|q_then<|c_seq<|c_seq<|c_reg<|s_y (y_lda (b:=b7) (cs:=#[I (chk p),I (chk r),I (bif sc s then 0 else 1)]) (hl:=rfl))<|s_y (y_blda (cs:=[I 0,I 0,I 0]))<|s_nt (y_neqi (m:=3) (p:=[chk p,chk r,bif sc s then 0 else 1]) (q:=[0,0,0]) rfl rfl hgk3) hz<|s_nil<|q_then<|c_t<|c_seq<|c_reg<|s_y y_as<|s_nil<|q_then<|c_ret<|q_ret<|?_
        exact ret1 Tryz.results32 rv_t fun w' hw=>⟨rfl,hw.sub (List.nil_sublist _)⟩
      · refine s_alloc fun b7=>r_K<|r_W 7 rfl<|s_pure (fun w' hw=>f_Check_ok w' s)<|r_K<|r_y 8 rfl (y_blda (cs:=[I (chk p),I (chk r),I (bif sc s then 0 else 1)]))<|r_W 10 rfl<|s_sta (b:=b7) (vs:=#[I (chk p),I (chk r),I (bif sc s then 0 else 1)]) (cs:=#[I 0,I 0,I 0]) (h1:=fun v hv=>one3 hv) (hl:=(rfl:(3:Nat) = 3)) (hs1:=(rfl:(3:Nat) = 3)) ?_
        refine r_K<|r_E<|q_then<|c_seq<|c_seq<|c_reg<|s_y (y_lda (b:=b7) (cs:=#[I (chk p),I (chk r),I (bif sc s then 0 else 1)]) (hl:=rfl))<|s_y (y_blda (cs:=[I 0,I 0,I 0]))<|s_nt (y_neqi (m:=3) (p:=[chk p,chk r,bif sc s then 0 else 1]) (q:=[0,0,0]) rfl rfl hgk3) hz<|s_nil<|q_then<|c_t<|c_seq<|c_reg<|s_y y_as<|s_nil<|q_then<|c_ret<|q_ret<|?_
        exact ret1 Tryz.results32 rv_t fun w' hw=>⟨rfl,hw.sub (List.nil_sublist _)⟩
    · refine s_alloc fun b7=>r_K<|r_W 4 rfl<|s_pure (fun w' hw=>gCheck_ok w' r)<|r_K<|r_W 7 rfl<|s_pure (fun w' hw=>f_Check_ok w' s)<|r_K<|r_y 8 rfl (y_blda (cs:=[I (chk p),I (chk r),I (bif sc s then 0 else 1)]))<|r_W 10 rfl<|s_sta (b:=b7) (vs:=#[I (chk p),I (chk r),I (bif sc s then 0 else 1)]) (cs:=#[I 0,I 0,I 0]) (h1:=fun v hv=>one3 hv) (hl:=(rfl:(3:Nat) = 3)) (hs1:=(rfl:(3:Nat) = 3)) ?_
      refine r_K<|r_E<|q_then<|c_seq<|c_seq<|c_reg<|s_y (y_lda (b:=b7) (cs:=#[I (chk p),I (chk r),I (bif sc s then 0 else 1)]) (hl:=rfl))<|s_y (y_blda (cs:=[I 0,I 0,I 0]))<|s_nt (y_neqi (m:=3) (p:=[chk p,chk r,bif sc s then 0 else 1]) (q:=[0,0,0]) rfl rfl hgk3) hz<|s_nil<|q_then<|c_t<|c_seq<|c_reg<|s_y y_as<|s_nil<|q_then<|c_ret<|q_ret<|?_
      exact ret1 Tryz.results32 rv_t fun w' hw=>⟨rfl,hw.sub (List.nil_sublist _)⟩
  · refine s_alloc fun b7=>r_K<|r_W 1 rfl<|s_pure (fun w' hw=>gCheck_ok w' p)<|r_K<|r_W 4 rfl<|s_pure (fun w' hw=>gCheck_ok w' r)<|r_K<|r_W 7 rfl<|s_pure (fun w' hw=>f_Check_ok w' s)<|r_K<|r_y 8 rfl (y_blda (cs:=[I (chk p),I (chk r),I (bif sc s then 0 else 1)]))<|r_W 10 rfl<|s_sta (b:=b7) (vs:=#[I (chk p),I (chk r),I (bif sc s then 0 else 1)]) (cs:=#[I 0,I 0,I 0]) (h1:=fun v hv=>one3 hv) (hl:=(rfl:(3:Nat) = 3)) (hs1:=(rfl:(3:Nat) = 3)) ?_
    refine r_K<|r_E<|q_then<|c_seq<|c_seq<|c_reg<|s_y (y_lda (b:=b7) (cs:=#[I (chk p),I (chk r),I (bif sc s then 0 else 1)]) (hl:=rfl))<|s_y (y_blda (cs:=[I 0,I 0,I 0]))<|s_nt (y_neqi (m:=3) (p:=[chk p,chk r,bif sc s then 0 else 1]) (q:=[0,0,0]) rfl rfl hgk3) hz<|s_nil<|q_then<|c_t<|c_seq<|c_reg<|s_y y_as<|s_nil<|q_then<|c_ret<|q_ret<|?_
    exact ret1 Tryz.results32 rv_t fun w' hw=>⟨rfl,hw.sub (List.nil_sublist _)⟩
theorem sVerify_good (w:World) (a:Option Addr) (c:Nat) (m:List UInt8) (p r s:Nat) (hg:LS w) (hr:Rd w a (bs m)) (hl:m.length ≤ 100000000) (hep:El p) (her:El r) (hs:s < 2305843009213688669):Pure Tryz.prog 32 [I p,.slice a m.length c,.agg #[I r,I s]] w (.bool (decide (pp 4 s = r * pp p (chal r p m) % 4611686018427377339))):=by
  have hz:[chk p,chk r,bif sc s then 0 else 1] = [0,0,0]:=by rw [chk,hep.el,chk,her.el,sc_of hs]; rfl
  refine enter Tryz.func32 Tryz.ntmps32 ?_
  refine c_seq<|c_reg<|s_box rfl fun b5=>s_y y_as<|s_nil<|q_then<|c_seq<|c_regL [.blk b5 (.cells #[I r,I s] 59 (0,0))]<|r_y 0 rfl y_mv<|r_y 2 rfl y_fa<|r_y 3 rfl (y_ld (b:=b5) (v:=I r))<|r_y 5 rfl y_fa<|r_y 6 rfl (y_ld (b:=b5) (v:=I s))<|r_w2 1 9 rfl rfl ?_ ?_ (hsub:=by repeat (first | exact List.nil_sublist _ | exact List.Sublist.refl _ | apply List.Sublist.cons_cons | apply List.Sublist.cons))
  · refine s_pure (fun w' hw=>gCheck_ok w' p)<|r_K<|r_w2 4 9 rfl rfl ?_ ?_ (hsub:=by repeat (first | exact List.nil_sublist _ | exact List.Sublist.refl _ | apply List.Sublist.cons_cons | apply List.Sublist.cons))
    · refine s_pure (fun w' hw=>gCheck_ok w' r)<|r_K<|r_w2 7 9 rfl rfl ?_ ?_ (hsub:=by repeat (first | exact List.nil_sublist _ | exact List.Sublist.refl _ | apply List.Sublist.cons_cons | apply List.Sublist.cons))
      · refine s_pure (fun w' hw=>f_Check_ok w' s)<|r_K<|r_y 8 rfl (y_blda (cs:=[I (chk p),I (chk r),I (bif sc s then 0 else 1)]))<|r_W 9 rfl<|s_alloc fun b7=>r_K<|r_W 10 rfl<|s_sta (b:=b7) (vs:=#[I (chk p),I (chk r),I (bif sc s then 0 else 1)]) (cs:=#[I 0,I 0,I 0]) (h1:=fun v hv=>one3 hv) (hl:=(rfl:(3:Nat) = 3)) (hs1:=(rfl:(3:Nat) = 3)) ?_
        refine r_K<|r_E<|q_then<|c_seq<|c_seq<|c_reg<|s_y (y_lda (b:=b7) (cs:=#[I (chk p),I (chk r),I (bif sc s then 0 else 1)]) (hl:=rfl))<|s_y (y_blda (cs:=[I 0,I 0,I 0]))<|s_nf (y_neqi (m:=3) (p:=[chk p,chk r,bif sc s then 0 else 1]) (q:=[0,0,0]) rfl rfl hgk3) hz<|s_nil<|q_then<|c_f<|c_skip<|q_then<|c_seq<|c_reg<|s_y y_fa<|s_y (y_ld (b:=b5) (v:=I s))<|s_pure (fun w' hw=>gBase_el w' s hs)<|s_y y_mv<|s_y y_ext<|s_y y_ext<|s_y y_as<|s_y y_as<|s_nil<|q_then<|c_seq<|c_reg<|s_y y_mv<|s_y y_mv<|s_y y_fa<|s_y (y_ld (b:=b5) (v:=I r))<|s_y y_mv<|s_bslr (cs:=[I r,I p]) fun b38=>s_pure (fun w' hw=>s_hash_ok w' tSign m a (some ⟨b38,0,none⟩) c 2 [r,p] (hg.st hw) (by decide) (hr.st hw) (rdR (.head _) w' hw) (two63 (Gf.El.l63 her) (Gf.El.l63 hep)) (by simp) hl)<|?_
        rw [bey_two,show scal tSign (be r 8 ++ be p 8 ++ m) = chal r p m from rfl]
        refine s_pure (fun w' hw=>gExp_yes w' p (chal r p m) hep (chal_lt _ _ _))<|s_y y_mv<|s_y y_ext<|s_y y_ext<|s_y y_as<|s_y y_as<|s_nil<|q_then<|c_seq<|c_reg<|s_y y_fa<|s_y (y_ld (b:=b5) (v:=I r))<|s_y y_mv<|s_pure (fun w' hw=>gMul_yes w' r (pp p (chal r p m)) her (hep.pow _))<|s_y y_mv<|s_y y_ext<|s_y y_ext<|s_y y_as<|s_y y_as<|s_nil<|q_then<|c_seq<|c_reg<|s_y y_mv<|s_y y_mv<|s_y (y_eql (p:=((pp 4 s:Nat):Int)) (q:=((r * pp p (chal r p m) % 4611686018427377339:Nat):Int)))<|?_
        rw [show decide (((pp 4 s:Nat):Int) = ((r * pp p (chal r p m) % 4611686018427377339:Nat):Int)) = decide (pp 4 s = r * pp p (chal r p m) % 4611686018427377339) by rw [decide_eq_decide]; omega]
        refine s_y y_as<|s_nil<|q_then<|c_ret<|?_
        exact ret1 Tryz.results32 rv_t fun w' hw=>⟨rfl,hw.sub (List.nil_sublist _)⟩
      · refine s_alloc fun b7=>r_K<|r_W 7 rfl<|s_pure (fun w' hw=>f_Check_ok w' s)<|r_K<|r_y 8 rfl (y_blda (cs:=[I (chk p),I (chk r),I (bif sc s then 0 else 1)]))<|r_W 10 rfl<|s_sta (b:=b7) (vs:=#[I (chk p),I (chk r),I (bif sc s then 0 else 1)]) (cs:=#[I 0,I 0,I 0]) (h1:=fun v hv=>one3 hv) (hl:=(rfl:(3:Nat) = 3)) (hs1:=(rfl:(3:Nat) = 3)) ?_
        refine r_K<|r_E<|q_then<|c_seq<|c_seq<|c_reg<|s_y (y_lda (b:=b7) (cs:=#[I (chk p),I (chk r),I (bif sc s then 0 else 1)]) (hl:=rfl))<|s_y (y_blda (cs:=[I 0,I 0,I 0]))<|s_nf (y_neqi (m:=3) (p:=[chk p,chk r,bif sc s then 0 else 1]) (q:=[0,0,0]) rfl rfl hgk3) hz<|s_nil<|q_then<|c_f<|c_skip<|q_then<|c_seq<|c_reg<|s_y y_fa<|s_y (y_ld (b:=b5) (v:=I s))<|s_pure (fun w' hw=>gBase_el w' s hs)<|s_y y_mv<|s_y y_ext<|s_y y_ext<|s_y y_as<|s_y y_as<|s_nil<|q_then<|c_seq<|c_reg<|s_y y_mv<|s_y y_mv<|s_y y_fa<|s_y (y_ld (b:=b5) (v:=I r))<|s_y y_mv<|s_bslr (cs:=[I r,I p]) fun b38=>s_pure (fun w' hw=>s_hash_ok w' tSign m a (some ⟨b38,0,none⟩) c 2 [r,p] (hg.st hw) (by decide) (hr.st hw) (rdR (.head _) w' hw) (two63 (Gf.El.l63 her) (Gf.El.l63 hep)) (by simp) hl)<|?_
        rw [bey_two,show scal tSign (be r 8 ++ be p 8 ++ m) = chal r p m from rfl]
        refine s_pure (fun w' hw=>gExp_yes w' p (chal r p m) hep (chal_lt _ _ _))<|s_y y_mv<|s_y y_ext<|s_y y_ext<|s_y y_as<|s_y y_as<|s_nil<|q_then<|c_seq<|c_reg<|s_y y_fa<|s_y (y_ld (b:=b5) (v:=I r))<|s_y y_mv<|s_pure (fun w' hw=>gMul_yes w' r (pp p (chal r p m)) her (hep.pow _))<|s_y y_mv<|s_y y_ext<|s_y y_ext<|s_y y_as<|s_y y_as<|s_nil<|q_then<|c_seq<|c_reg<|s_y y_mv<|s_y y_mv<|s_y (y_eql (p:=((pp 4 s:Nat):Int)) (q:=((r * pp p (chal r p m) % 4611686018427377339:Nat):Int)))<|?_
        rw [show decide (((pp 4 s:Nat):Int) = ((r * pp p (chal r p m) % 4611686018427377339:Nat):Int)) = decide (pp 4 s = r * pp p (chal r p m) % 4611686018427377339) by rw [decide_eq_decide]; omega]
        refine s_y y_as<|s_nil<|q_then<|c_ret<|?_
        exact ret1 Tryz.results32 rv_t fun w' hw=>⟨rfl,hw.sub (List.nil_sublist _)⟩
    · refine s_alloc fun b7=>r_K<|r_W 4 rfl<|s_pure (fun w' hw=>gCheck_ok w' r)<|r_K<|r_W 7 rfl<|s_pure (fun w' hw=>f_Check_ok w' s)<|r_K<|r_y 8 rfl (y_blda (cs:=[I (chk p),I (chk r),I (bif sc s then 0 else 1)]))<|r_W 10 rfl<|s_sta (b:=b7) (vs:=#[I (chk p),I (chk r),I (bif sc s then 0 else 1)]) (cs:=#[I 0,I 0,I 0]) (h1:=fun v hv=>one3 hv) (hl:=(rfl:(3:Nat) = 3)) (hs1:=(rfl:(3:Nat) = 3)) ?_
      refine r_K<|r_E<|q_then<|c_seq<|c_seq<|c_reg<|s_y (y_lda (b:=b7) (cs:=#[I (chk p),I (chk r),I (bif sc s then 0 else 1)]) (hl:=rfl))<|s_y (y_blda (cs:=[I 0,I 0,I 0]))<|s_nf (y_neqi (m:=3) (p:=[chk p,chk r,bif sc s then 0 else 1]) (q:=[0,0,0]) rfl rfl hgk3) hz<|s_nil<|q_then<|c_f<|c_skip<|q_then<|c_seq<|c_reg<|s_y y_fa<|s_y (y_ld (b:=b5) (v:=I s))<|s_pure (fun w' hw=>gBase_el w' s hs)<|s_y y_mv<|s_y y_ext<|s_y y_ext<|s_y y_as<|s_y y_as<|s_nil<|q_then<|c_seq<|c_reg<|s_y y_mv<|s_y y_mv<|s_y y_fa<|s_y (y_ld (b:=b5) (v:=I r))<|s_y y_mv<|s_bslr (cs:=[I r,I p]) fun b38=>s_pure (fun w' hw=>s_hash_ok w' tSign m a (some ⟨b38,0,none⟩) c 2 [r,p] (hg.st hw) (by decide) (hr.st hw) (rdR (.head _) w' hw) (two63 (Gf.El.l63 her) (Gf.El.l63 hep)) (by simp) hl)<|?_
      rw [bey_two,show scal tSign (be r 8 ++ be p 8 ++ m) = chal r p m from rfl]
      refine s_pure (fun w' hw=>gExp_yes w' p (chal r p m) hep (chal_lt _ _ _))<|s_y y_mv<|s_y y_ext<|s_y y_ext<|s_y y_as<|s_y y_as<|s_nil<|q_then<|c_seq<|c_reg<|s_y y_fa<|s_y (y_ld (b:=b5) (v:=I r))<|s_y y_mv<|s_pure (fun w' hw=>gMul_yes w' r (pp p (chal r p m)) her (hep.pow _))<|s_y y_mv<|s_y y_ext<|s_y y_ext<|s_y y_as<|s_y y_as<|s_nil<|q_then<|c_seq<|c_reg<|s_y y_mv<|s_y y_mv<|s_y (y_eql (p:=((pp 4 s:Nat):Int)) (q:=((r * pp p (chal r p m) % 4611686018427377339:Nat):Int)))<|?_
      rw [show decide (((pp 4 s:Nat):Int) = ((r * pp p (chal r p m) % 4611686018427377339:Nat):Int)) = decide (pp 4 s = r * pp p (chal r p m) % 4611686018427377339) by rw [decide_eq_decide]; omega]
      refine s_y y_as<|s_nil<|q_then<|c_ret<|?_
      exact ret1 Tryz.results32 rv_t fun w' hw=>⟨rfl,hw.sub (List.nil_sublist _)⟩
  · refine s_alloc fun b7=>r_K<|r_W 1 rfl<|s_pure (fun w' hw=>gCheck_ok w' p)<|r_K<|r_W 4 rfl<|s_pure (fun w' hw=>gCheck_ok w' r)<|r_K<|r_W 7 rfl<|s_pure (fun w' hw=>f_Check_ok w' s)<|r_K<|r_y 8 rfl (y_blda (cs:=[I (chk p),I (chk r),I (bif sc s then 0 else 1)]))<|r_W 10 rfl<|s_sta (b:=b7) (vs:=#[I (chk p),I (chk r),I (bif sc s then 0 else 1)]) (cs:=#[I 0,I 0,I 0]) (h1:=fun v hv=>one3 hv) (hl:=(rfl:(3:Nat) = 3)) (hs1:=(rfl:(3:Nat) = 3)) ?_
    refine r_K<|r_E<|q_then<|c_seq<|c_seq<|c_reg<|s_y (y_lda (b:=b7) (cs:=#[I (chk p),I (chk r),I (bif sc s then 0 else 1)]) (hl:=rfl))<|s_y (y_blda (cs:=[I 0,I 0,I 0]))<|s_nf (y_neqi (m:=3) (p:=[chk p,chk r,bif sc s then 0 else 1]) (q:=[0,0,0]) rfl rfl hgk3) hz<|s_nil<|q_then<|c_f<|c_skip<|q_then<|c_seq<|c_reg<|s_y y_fa<|s_y (y_ld (b:=b5) (v:=I s))<|s_pure (fun w' hw=>gBase_el w' s hs)<|s_y y_mv<|s_y y_ext<|s_y y_ext<|s_y y_as<|s_y y_as<|s_nil<|q_then<|c_seq<|c_reg<|s_y y_mv<|s_y y_mv<|s_y y_fa<|s_y (y_ld (b:=b5) (v:=I r))<|s_y y_mv<|s_bslr (cs:=[I r,I p]) fun b38=>s_pure (fun w' hw=>s_hash_ok w' tSign m a (some ⟨b38,0,none⟩) c 2 [r,p] (hg.st hw) (by decide) (hr.st hw) (rdR (.head _) w' hw) (two63 (Gf.El.l63 her) (Gf.El.l63 hep)) (by simp) hl)<|?_
    rw [bey_two,show scal tSign (be r 8 ++ be p 8 ++ m) = chal r p m from rfl]
    refine s_pure (fun w' hw=>gExp_yes w' p (chal r p m) hep (chal_lt _ _ _))<|s_y y_mv<|s_y y_ext<|s_y y_ext<|s_y y_as<|s_y y_as<|s_nil<|q_then<|c_seq<|c_reg<|s_y y_fa<|s_y (y_ld (b:=b5) (v:=I r))<|s_y y_mv<|s_pure (fun w' hw=>gMul_yes w' r (pp p (chal r p m)) her (hep.pow _))<|s_y y_mv<|s_y y_ext<|s_y y_ext<|s_y y_as<|s_y y_as<|s_nil<|q_then<|c_seq<|c_reg<|s_y y_mv<|s_y y_mv<|s_y (y_eql (p:=((pp 4 s:Nat):Int)) (q:=((r * pp p (chal r p m) % 4611686018427377339:Nat):Int)))<|?_
    rw [show decide (((pp 4 s:Nat):Int) = ((r * pp p (chal r p m) % 4611686018427377339:Nat):Int)) = decide (pp 4 s = r * pp p (chal r p m) % 4611686018427377339) by rw [decide_eq_decide]; omega]
    refine s_y y_as<|s_nil<|q_then<|c_ret<|?_
    exact ret1 Tryz.results32 rv_t fun w' hw=>⟨rfl,hw.sub (List.nil_sublist _)⟩
theorem chk_0 {p:Int}:chk p = 0 ↔ el p = true:=by
  unfold chk
  cases el p <;> simp
theorem sVerify_ok (w:World) (a:Option Addr) (c:Nat) (m:List UInt8) (p r s:Int) (hg:LS w) (hr:Rd w a (bs m)) (hl:m.length ≤ 100000000):Pure Tryz.prog 32 [I p,.slice a m.length c,.agg #[I r,I s]] w (.bool (vrf p m r s)):=by
  cases hp:el p with
  | false =>
    rw [show vrf p m r s = false by rw [vrf,hp,Bool.false_and]]
    exact sVerify_bad w a c m p r s hr hl (fun h=>by have h1:=(List.cons.inj h).1; rw [chk_0,hp] at h1; cases h1)
  | true =>
    cases hr2:el r with
    | false =>
      rw [show vrf p m r s = false by rw [vrf,hr2,Bool.false_and,Bool.and_false]]
      exact sVerify_bad w a c m p r s hr hl (fun h=>by have h1:=(List.cons.inj (List.cons.inj h).2).1; rw [chk_0,hr2] at h1; cases h1)
    | true =>
      cases hs:sc s with
      | false =>
        rw [show vrf p m r s = false by rw [vrf,hs,Bool.false_and,Bool.and_false,Bool.and_false]]
        exact sVerify_bad w a c m p r s hr hl (fun h=>by have h1:=(List.cons.inj (List.cons.inj (List.cons.inj h).2).2).1; rw [hs] at h1; cases h1)
      | true =>
        obtain ⟨x,rfl,hx⟩:=Sig.el_El hp
        obtain ⟨y,rfl,hy⟩:=Sig.el_El hr2
        obtain ⟨z,rfl,hz⟩:=sc_nat hs
        rw [show vrf (x:Int) m y z = decide (pp 4 z = y * pp x (chal y x m) % 4611686018427377339) by rw [vrf,hp,hr2,hs,Bool.true_and,Bool.true_and,Bool.true_and,Int.toNat_natCast,Int.toNat_natCast,Int.toNat_natCast]]
        exact sVerify_good w a c m x y z hg hr hl hx hy hz
end Go.Proofs.YtojohglifijnnaaGreatDoor
end
section
namespace Rst
open Go Eng Gf Sha Sig Wr Cod Cha Go.Proofs.YtojohglifijnnaaGreatDoor
def gIx (g:Int) (l:List Int):Int:=fidx (fun y=>decide (y = g)) l
theorem gIx_lt (g:Int) (l:List Int):gIx g l < (l.length:Int):=fidx_lt
theorem gIx_ge (g:Int) (l:List Int):-1 ≤ gIx g l:=fidx_ge
structure ApRt (p:Pn) (c:Cs) (g at' y:Int):Prop where
  b:Blg p c
  i:0 ≤ gIx g p.gs
  n:¬ g ∈ c.ap.map Ap.g
  a:at' = gIx g p.gs + 1
  y:(0:Int) ≤ y ∧ (y:Int) ≤ 2305843009213688668
theorem anyG {c:Cs} {g:Int}:(c.ap.any fun a=>decide (a.g = g)) = true ↔ g ∈ c.ap.map Ap.g:=by
  rw [List.any_eq_true,List.mem_map]
  exact ⟨fun ⟨x,hx,e⟩=>⟨x,hx,of_decide_eq_true e⟩,fun ⟨x,hx,e⟩=>⟨x,hx,decide_eq_true e⟩⟩
theorem anyG_no {c:Cs} {g:Int} (h:¬ g ∈ c.ap.map Ap.g):(c.ap.any fun a=>decide (a.g = g)) = false:=by
  cases e:(c.ap.any fun a=>decide (a.g = g)) with
  | false=>rfl
  | true=>exact absurd (anyG.1 e) h
def bdy (A Y:Nat):List UInt8:=be A 8 ++ be Y 8
theorem bdy_length (A Y:Nat):(bdy A Y).length = 16:=by unfold bdy; rw [List.length_append,be_length,be_length]
noncomputable def wtx (c:Cs) (g:Int) (k:List UInt8) (A Y:Nat):List UInt8:=wB c.l.toNat k (msg c 0 g) (bdy A Y)
theorem wtx_length (c:Cs) (g:Int) (k:List UInt8) (A Y:Nat):(wtx c g k A Y).length = 32:=by unfold wtx; rw [wB_length,bdy_length]
noncomputable def sgt (c:Cs) (g:Int) (k:List UInt8) (A Y:Nat):List UInt8:=msg c 0 g ++ be (wU k) 8 ++ wtx c g k A Y
theorem sgt_length (c:Cs) (g:Int) (k:List UInt8) (A Y:Nat):(sgt c g k A Y).length = 72:=by unfold sgt; rw [List.length_append,List.length_append,msg_length,be_length,wtx_length]
noncomputable def nAp (c:Cs) (g:Int) (k:List UInt8) (A Y x:Nat) (ba:Option Addr) (bc:Nat):Ap :=
  ⟨g,(wU k:Nat),ba,bc,wtx c g k A Y,(sgR x (sgt c g k A Y):Nat),(sgS x (sgt c g k A Y):Nat)⟩
/-- .. laid in memory -/
structure AX where
  aa:Option Addr
  ac:Nat
  ba:Option Addr
  bc:Nat
noncomputable def apE (p:Pn) (c:Cs) (g at' y ver pri:Int):Int :=
  @ite _ (Prs p) (Classical.propDecidable _) (@ite _ (ApRt p c g at' y) (Classical.propDecidable _) (if pvB pri = true then (if ((pp 4 pri.toNat:Nat):Int) = ver then 0 else 390) else 50) 390) 371
end Rst
namespace Go.Proofs.YtojohglifijnnaaGreatDoor
open Go Eng Gf Sha Sig Wr Cod Cha Rst
set_option maxRecDepth 100000
theorem sIx_ok (w:World) (a:Option Addr) (q:List Int) (c:Nat) (v:Int) (hr:Rd w a (is q)) (hl:q.length ≤ 1000000000000000):Pure Tryz.prog 58 [.slice a q.length c,I v] w (I (gIx v q)):=by
  have h:=slices_Index_int_int_ok w a q c v hr (by omega)
  rw [show (fun x:Int=>decide (v = x)) = fun x=>decide (x = v) from funext fun x=>decide_eq_decide.2 eq_comm] at h
  exact h
theorem numN_ok (w:World) (n:Nat):Pure Tryz.prog 63 [I n] w (.agg (bs (be n 8)).toArray):=by
  have h:=number_ok w (n:Int); rw [be8_be] at h; exact h
theorem el_of_chk {p:Int} (h:chk p = 0):∃ x:Nat,p = (x:Int) ∧ El x:=Wr.el_El (chk_0.1 h)
theorem wrapQ (w:World) (p:Int) (s h b q:List UInt8) (ha ca:Option Addr) (hc cc n m:Nat) (hg:LC w) (hp:chk p = 0) (hs:s.length = 32) (hn:h.length = n) (hm:b.length = m) (hq:wB p.toNat s h b = q) (hrh:Rd w ha (bs h)) (hln:n ≤ 100000) (hrc:Rd w ca (bs b)) (hlm:m ≤ 65536) :
    Gives Tryz.prog 64 [I p,.agg (bs s).toArray,.slice ha n hc,.slice ca m cc] w [] (fun y:Option Addr × Nat=>.tuple #[.agg #[I (wU s:Nat),.slice y.1 q.length y.2],I 0]) (fun y=>[.row y.1 y.2 5 1 q.length (bs q)]) (fun _=>True):=by
  obtain ⟨x,rfl,hx⟩:=el_of_chk hp
  rw [Int.toNat_natCast] at hq
  subst hn hm
  have h9:=w_Wrap_yes w ha ca hc cc s h b x hg hx hs hrh hln hrc hlm
  rw [hq,show b.length + 16 = q.length by rw [← hq,wB_length]] at h9
  exact h9
theorem signQ (w:World) (a:Option Addr) (c n x:Nat) (m:List UInt8) (hg:LS w) (hn:m.length = n) (hr:Rd w a (bs m)) (hl:n ≤ 100000000) (hx0:1 ≤ x) (hx:x < 2305843009213688669):Pure Tryz.prog 66 [I x,.slice a n c] w (.tuple #[.agg #[I (sgR x m:Nat),I (sgS x m:Nat)],I 0]):=by
  subst hn; exact sSign_yes w a c m x hg hr hl hx0 hx
theorem concat2 (w:World) (la a1 a2:Option Addr) (lc n1 c1 n2 c2 N:Nat) (q1 q2 q:List UInt8) (h1:q1.length = n1) (h2:q2.length = n2) (hq:q1 ++ q2 = q) (hN:q.length = N) (hl:N ≤ 1000000) (hr:Rd w la [.slice a1 n1 c1,.slice a2 n2 c2]) (r1:Rd w a1 (bs q1)) (r2:Rd w a2 (bs q2)) :
    Gives Tryz.prog 65 [.slice la 2 lc] w [] (fun y:Option Addr × Nat=>.slice y.1 N y.2) (fun y=>[.row y.1 y.2 5 1 N (bs q)]) (fun _=>True):=by
  subst h1 h2 hN
  have h9:=slices_Concat_ok w la lc _ [q1,q2] hr (SlL.cons r1 (SlL.cons r2 (SlL.nil w))) (by rw [show [q1,q2].flatten = q by rw [← hq]; simp]; omega) (show 2 < 1000000000 by decide)
  rw [show [q1,q2].flatten = q by rw [← hq]; simp] at h9
  exact h9
theorem concat3 (w:World) (la a1 a2 a3:Option Addr) (lc n1 c1 n2 c2 n3 c3 N:Nat) (q1 q2 q3 q:List UInt8) (h1:q1.length = n1) (h2:q2.length = n2) (h3:q3.length = n3) (hq:q1 ++ q2 ++ q3 = q) (hN:q.length = N) (hl:N ≤ 1000000) (hr:Rd w la [.slice a1 n1 c1,.slice a2 n2 c2,.slice a3 n3 c3]) (r1:Rd w a1 (bs q1)) (r2:Rd w a2 (bs q2)) (r3:Rd w a3 (bs q3)) :
    Gives Tryz.prog 65 [.slice la 3 lc] w [] (fun y:Option Addr × Nat=>.slice y.1 N y.2) (fun y=>[.row y.1 y.2 5 1 N (bs q)]) (fun _=>True):=by
  subst h1 h2 h3 hN
  have e:[q1,q2,q3].flatten = q:=by rw [← hq]; simp
  have h9:=slices_Concat_ok w la lc _ [q1,q2,q3] hr (SlL.cons r1 (SlL.cons r2 (SlL.cons r3 (SlL.nil w)))) (by rw [e]; omega) (show 3 < 1000000000 by decide)
  rw [e] at h9
  exact h9
theorem Approve2_ok' (w:World) (b:Nat) (x:Ap) (g:Int) (hb:Rd w (some ⟨b,0,none⟩) [I g]):Pure Tryz.prog 60 [.agg #[I x.g,I x.u,.slice x.a x.q.length x.c,I x.r,I x.s],.pointer (some ⟨b,0,none⟩)] w (.bool (decide (x.g = g))):=by
  refine enter Tryz.func60 Tryz.ntmps60 ?_
  refine c_seq<|c_reg<|s_box rfl fun b2=>s_y y_as<|s_nil<|q_then<|c_seq<|c_reg<|s_y y_fa<|s_y (y_ld (b:=b2) (v:=I x.g))<|s_y (y_ldr (a:=some ⟨b,0,none⟩) (i:=0) (xs:=[I g]) (v:=I g) rfl (hr:=rdW0 hb))<|s_y (y_eql (p:=x.g) (q:=g))<|s_y y_as<|s_nil<|q_then<|c_ret<|?_
  exact ret1 Tryz.results60 rv_t fun w' hw=>⟨rfl,hw.sub (List.nil_sublist _)⟩
theorem Approve2_ok (w:World) (b:Nat) (x:Ap) (g:Int) (hb:Rd w (some ⟨b,0,none⟩) [I g]):Pure Tryz.prog 60 [.agg x.cell.toArray,.pointer (some ⟨b,0,none⟩)] w (.bool (decide (x.g = g))):=Approve2_ok' w b x g hb
end Go.Proofs.YtojohglifijnnaaGreatDoor
end
section
namespace Rst
open Go Eng
theorem apc_snoc (l:List Ap) (x:Ap) (cs:List Value) (h:cs = x.cell):apc l ++ cs = apc (l ++ [x]):=by rw [apc_append,h]; simp [apc]
end Rst
namespace Go.Proofs.YtojohglifijnnaaGreatDoor
open Go Eng Gf Sha Sig Wr Cod Cha Rst
set_option maxRecDepth 100000
set_option linter.all false
theorem Approve_n1 (w:World) (p:Pn) (c:Cs) (ga aa va:Option Addr) (gc ac vc:Nat) (g aT y ver x:Int) (k:List UInt8) (hg:LC w) (hk:k.length = 32) (hrg:Rd w ga (is p.gs)) (hgs:p.gs.length ≤ 1000000) (hra:Rd w aa (apc c.ap)) (hac:c.ap.length ≤ ac) (hrv:Rd w va (vtc c.vt)) (hal:c.ap.length ≤ 1000000) (hvl:c.vt.length ≤ 1000000) (hp:¬ Prs p):Pure Tryz.prog 21 [.agg #[I p.id,I p.rk,.slice ga p.gs.length gc,I p.need,I p.cool],.agg #[I c.p,I c.d,I c.v,I c.l,I c.st,.slice aa c.ap.length ac,.slice va c.vt.length vc],I g,.agg #[I aT,I y],I ver,I x,.agg (bs k).toArray] w (.tuple #[.agg #[I 0,I 0,I 0,I 0,I 0,.slice none 0 0,.slice none 0 0],I 371]):=by
  have hgi:=gIx_lt g p.gs
  have hgj:=gIx_ge g p.gs
  refine enterD Tryz.func21 Tryz.ntmps21 ?_
  refine c_seq<|c_reg<|s_box rfl fun b7=>s_box rfl fun b8=>s_box rfl fun b9=>s_box rfl fun b10=>s_box rfl fun b13=>s_alloc fun b14=>s_alloc fun b15=>s_nil<|q_then<|c_seq<|c_reg<|s_y y_func<|s_deferC<|s_nil<|q_then<|c_seq<|c_reg<|s_y (y_lda (b:=b7) (cs:=#[I p.id,I p.rk,.slice ga p.gs.length gc,I p.need,I p.cool]) (hl:=rfl))<|s_pure (fun w' hw=>(by have h9:=valid_ok w' p ga gc (hrg.st hw) (by omega); rw [prsB_f.2 hp] at h9; exact h9))<|s_dies (fun w' hw=>demand_dies w' 371)<|q_pt<|?_
  exact leave_P (fun w' hw=>rcApprove_P w' b15 0 371 (hw.own _ (.head _)).1) Tryz.results21 (.refl _) (.cons (rv_ca (b:=b14) (cs:=#[I 0,I 0,I 0,I 0,I 0,.slice none 0 0,.slice none 0 0]) (hl:=rfl)) (.cons (rv_cf (b:=b15) (v:=I 371)) .nil)) fun w' hw=>⟨rfl,hw.sub (List.nil_sublist _)⟩
theorem Approve_n2 (w:World) (p:Pn) (c:Cs) (ga aa va:Option Addr) (gc ac vc:Nat) (g aT y ver x:Int) (k:List UInt8) (hg:LC w) (hk:k.length = 32) (hrg:Rd w ga (is p.gs)) (hgs:p.gs.length ≤ 1000000) (hra:Rd w aa (apc c.ap)) (hac:c.ap.length ≤ ac) (hrv:Rd w va (vtc c.vt)) (hal:c.ap.length ≤ 1000000) (hvl:c.vt.length ≤ 1000000) (hp:Prs p) (ho:¬ ApRt p c g aT y):Pure Tryz.prog 21 [.agg #[I p.id,I p.rk,.slice ga p.gs.length gc,I p.need,I p.cool],.agg #[I c.p,I c.d,I c.v,I c.l,I c.st,.slice aa c.ap.length ac,.slice va c.vt.length vc],I g,.agg #[I aT,I y],I ver,I x,.agg (bs k).toArray] w (.tuple #[.agg #[I 0,I 0,I 0,I 0,I 0,.slice none 0 0,.slice none 0 0],I 390]):=by
  have hgi:=gIx_lt g p.gs
  have hgj:=gIx_ge g p.gs
  refine enterD Tryz.func21 Tryz.ntmps21 ?_
  refine c_seq<|c_reg<|s_box rfl fun b7=>s_box rfl fun b8=>s_box rfl fun b9=>s_box rfl fun b10=>s_box rfl fun b13=>s_alloc fun b14=>s_alloc fun b15=>s_nil<|q_then<|c_seq<|c_reg<|s_y y_func<|s_deferC<|s_nil<|q_then<|c_seq<|c_reg<|s_y (y_lda (b:=b7) (cs:=#[I p.id,I p.rk,.slice ga p.gs.length gc,I p.need,I p.cool]) (hl:=rfl))<|s_pure (fun w' hw=>(by have h9:=valid_ok w' p ga gc (hrg.st hw) (by omega); rw [prsB_t.2 hp] at h9; exact h9))<|s_pure (fun w' hw=>demand_ok w' 371)<|s_nil<|q_then<|c_seq<|c_reg<|s_y y_fa<|s_y (y_ld (b:=b7) (v:=.slice ga p.gs.length gc))<|s_y (y_ld (b:=b9) (v:=I g))<|s_pure (fun w' hw=>sIx_ok w' ga p.gs gc g (hrg.st hw) (by omega))<|s_y y_as<|s_nil<|q_then<|c_seq<|c_reg<|s_y (y_lda (b:=b7) (cs:=#[I p.id,I p.rk,.slice ga p.gs.length gc,I p.need,I p.cool]) (hl:=rfl))<|s_y (y_lda (b:=b8) (cs:=#[I c.p,I c.d,I c.v,I c.l,I c.st,.slice aa c.ap.length ac,.slice va c.vt.length vc]) (hl:=rfl))<|?_
  by_cases h34:Blg p c
  · refine s_pure (fun w' hw=>(by have h9:=belongs_ok w' p c ga aa va gc ac vc hp (hrg.st hw) (hra.st hw) (hrv.st hw) hal hvl; rw [blgB_t.2 h34] at h9; exact h9))<|s_y y_mv<|s_y y_mv<|s_ifd (y_geq (p:=gIx g p.gs) (q:=0)) (fun h37=>?_) (fun h37=>?_)
    · refine s_y y_pk<|s_y y_mv<|s_y y_fa<|s_y (y_ld (b:=b8) (v:=.slice aa c.ap.length ac))<|s_y y_func<|?_
      by_cases h43:g ∈ c.ap.map Ap.g
      · refine s_pure (fun w' hw=>(by have h9:=CoF_Ap w' aa ac c.ap 60 [.pointer (some ⟨b9,0,none⟩)] (fun a=>decide (a.g = g)) (hra.st hw) (by omega) (fun x _ w2 h2=>Approve2_ok w2 b9 x g ((rd0B hw (xs:=[I g]) (.tail _ (.tail _ (.tail _ (.tail _ (.head _)))))).st h2)); rw [anyG.2 h43] at h9; exact h9))<|s_y (v:=.bool false) (y_not (b:=true))<|s_y y_pk<|s_y y_mv<|s_no<|s_no<|s_no<|s_no<|s_no<|s_y y_pk<|s_y y_mv<|s_no<|s_no<|s_no<|s_y y_pk<|s_dies (fun w' hw=>demand_dies w' 390)<|q_pt<|?_
        exact leave_P (fun w' hw=>rcApprove_P w' b15 0 390 (hw.own _ (.head _)).1) Tryz.results21 (.refl _) (.cons (rv_ca (b:=b14) (cs:=#[I 0,I 0,I 0,I 0,I 0,.slice none 0 0,.slice none 0 0]) (hl:=rfl)) (.cons (rv_cf (b:=b15) (v:=I 390)) .nil)) fun w' hw=>⟨rfl,hw.sub (List.nil_sublist _)⟩
      · refine s_pure (fun w' hw=>(by have h9:=CoF_Ap w' aa ac c.ap 60 [.pointer (some ⟨b9,0,none⟩)] (fun a=>decide (a.g = g)) (hra.st hw) (by omega) (fun x _ w2 h2=>Approve2_ok w2 b9 x g ((rd0B hw (xs:=[I g]) (.tail _ (.tail _ (.tail _ (.tail _ (.head _)))))).st h2)); rw [anyG_no h43] at h9; exact h9))<|s_y (v:=.bool true) (y_not (b:=false))<|s_y y_pk<|s_y y_mv<|s_y y_fa<|s_y (y_ld (b:=b10) (v:=I aT))<|s_y y_mv<|s_y (y_add (p:=gIx g p.gs) (q:=1))<|s_ifd (y_eql (p:=aT) (q:=(gIx g p.gs) + 1)) (fun h51=>?_) (fun h51=>?_)
        · refine s_y y_pk<|s_y y_mv<|s_y y_fa<|s_y (y_ld (b:=b10) (v:=I y))<|?_
          by_cases h56:(0:Int) ≤ y ∧ (y:Int) ≤ 2305843009213688668
          · refine s_pure (fun w' hw=>between_ok w' y 0 2305843009213688668 true ⟨fun _=>rfl,fun _=>h56⟩)<|s_y y_pk<|?_
            exact absurd (ApRt.mk ‹_› ‹_› ‹_› ‹_› ‹_›) ho
          · refine s_pure (fun w' hw=>between_ok w' y 0 2305843009213688668 false ⟨fun h9=>absurd h9 h56,fun h9=>by cases h9⟩)<|s_y y_pk<|s_dies (fun w' hw=>demand_dies w' 390)<|q_pt<|?_
            exact leave_P (fun w' hw=>rcApprove_P w' b15 0 390 (hw.own _ (.head _)).1) Tryz.results21 (.refl _) (.cons (rv_ca (b:=b14) (cs:=#[I 0,I 0,I 0,I 0,I 0,.slice none 0 0,.slice none 0 0]) (hl:=rfl)) (.cons (rv_cf (b:=b15) (v:=I 390)) .nil)) fun w' hw=>⟨rfl,hw.sub (List.nil_sublist _)⟩
        · refine s_y y_pk<|s_y y_mv<|s_no<|s_no<|s_no<|s_y y_pk<|s_dies (fun w' hw=>demand_dies w' 390)<|q_pt<|?_
          exact leave_P (fun w' hw=>rcApprove_P w' b15 0 390 (hw.own _ (.head _)).1) Tryz.results21 (.refl _) (.cons (rv_ca (b:=b14) (cs:=#[I 0,I 0,I 0,I 0,I 0,.slice none 0 0,.slice none 0 0]) (hl:=rfl)) (.cons (rv_cf (b:=b15) (v:=I 390)) .nil)) fun w' hw=>⟨rfl,hw.sub (List.nil_sublist _)⟩
    · refine s_y y_pk<|s_y y_mv<|s_no<|s_no<|s_no<|s_no<|s_no<|s_y y_pk<|s_y y_mv<|s_no<|s_no<|s_no<|s_no<|s_no<|s_y y_pk<|s_y y_mv<|s_no<|s_no<|s_no<|s_y y_pk<|s_dies (fun w' hw=>demand_dies w' 390)<|q_pt<|?_
      exact leave_P (fun w' hw=>rcApprove_P w' b15 0 390 (hw.own _ (.head _)).1) Tryz.results21 (.refl _) (.cons (rv_ca (b:=b14) (cs:=#[I 0,I 0,I 0,I 0,I 0,.slice none 0 0,.slice none 0 0]) (hl:=rfl)) (.cons (rv_cf (b:=b15) (v:=I 390)) .nil)) fun w' hw=>⟨rfl,hw.sub (List.nil_sublist _)⟩
  · refine s_pure (fun w' hw=>(by have h9:=belongs_ok w' p c ga aa va gc ac vc hp (hrg.st hw) (hra.st hw) (hrv.st hw) hal hvl; rw [blgB_f.2 h34] at h9; exact h9))<|s_y y_mv<|s_no<|s_no<|s_y y_pk<|s_y y_mv<|s_no<|s_no<|s_no<|s_no<|s_no<|s_y y_pk<|s_y y_mv<|s_no<|s_no<|s_no<|s_no<|s_no<|s_y y_pk<|s_y y_mv<|s_no<|s_no<|s_no<|s_y y_pk<|s_dies (fun w' hw=>demand_dies w' 390)<|q_pt<|?_
    exact leave_P (fun w' hw=>rcApprove_P w' b15 0 390 (hw.own _ (.head _)).1) Tryz.results21 (.refl _) (.cons (rv_ca (b:=b14) (cs:=#[I 0,I 0,I 0,I 0,I 0,.slice none 0 0,.slice none 0 0]) (hl:=rfl)) (.cons (rv_cf (b:=b15) (v:=I 390)) .nil)) fun w' hw=>⟨rfl,hw.sub (List.nil_sublist _)⟩
theorem Approve_n3 (w:World) (p:Pn) (c:Cs) (ga aa va:Option Addr) (gc ac vc:Nat) (g aT y ver x:Int) (k:List UInt8) (hg:LC w) (hk:k.length = 32) (hrg:Rd w ga (is p.gs)) (hgs:p.gs.length ≤ 1000000) (hra:Rd w aa (apc c.ap)) (hac:c.ap.length ≤ ac) (hrv:Rd w va (vtc c.vt)) (hal:c.ap.length ≤ 1000000) (hvl:c.vt.length ≤ 1000000) (hp:Prs p) (ho:ApRt p c g aT y) (hx:pvB x = false):Pure Tryz.prog 21 [.agg #[I p.id,I p.rk,.slice ga p.gs.length gc,I p.need,I p.cool],.agg #[I c.p,I c.d,I c.v,I c.l,I c.st,.slice aa c.ap.length ac,.slice va c.vt.length vc],I g,.agg #[I aT,I y],I ver,I x,.agg (bs k).toArray] w (.tuple #[.agg #[I 0,I 0,I 0,I 0,I 0,.slice none 0 0,.slice none 0 0],I 50]):=by
  have hgi:=gIx_lt g p.gs
  have hgj:=gIx_ge g p.gs
  refine enterD Tryz.func21 Tryz.ntmps21 ?_
  refine c_seq<|c_reg<|s_box rfl fun b7=>s_box rfl fun b8=>s_box rfl fun b9=>s_box rfl fun b10=>s_box rfl fun b13=>s_alloc fun b14=>s_alloc fun b15=>s_nil<|q_then<|c_seq<|c_reg<|s_y y_func<|s_deferC<|s_nil<|q_then<|c_seq<|c_reg<|s_y (y_lda (b:=b7) (cs:=#[I p.id,I p.rk,.slice ga p.gs.length gc,I p.need,I p.cool]) (hl:=rfl))<|s_pure (fun w' hw=>(by have h9:=valid_ok w' p ga gc (hrg.st hw) (by omega); rw [prsB_t.2 hp] at h9; exact h9))<|s_pure (fun w' hw=>demand_ok w' 371)<|s_nil<|q_then<|c_seq<|c_reg<|s_y y_fa<|s_y (y_ld (b:=b7) (v:=.slice ga p.gs.length gc))<|s_y (y_ld (b:=b9) (v:=I g))<|s_pure (fun w' hw=>sIx_ok w' ga p.gs gc g (hrg.st hw) (by omega))<|s_y y_as<|s_nil<|q_then<|c_seq<|c_reg<|s_y (y_lda (b:=b7) (cs:=#[I p.id,I p.rk,.slice ga p.gs.length gc,I p.need,I p.cool]) (hl:=rfl))<|s_y (y_lda (b:=b8) (cs:=#[I c.p,I c.d,I c.v,I c.l,I c.st,.slice aa c.ap.length ac,.slice va c.vt.length vc]) (hl:=rfl))<|s_pure (fun w' hw=>(by have h9:=belongs_ok w' p c ga aa va gc ac vc hp (hrg.st hw) (hra.st hw) (hrv.st hw) hal hvl; rw [blgB_t.2 ho.b] at h9; exact h9))<|s_y y_mv<|s_y y_mv<|s_kt (y_geq (p:=gIx g p.gs) (q:=0)) ho.i<|s_y y_pk<|s_y y_mv<|s_y y_fa<|s_y (y_ld (b:=b8) (v:=.slice aa c.ap.length ac))<|s_y y_func<|s_pure (fun w' hw=>(by have h9:=CoF_Ap w' aa ac c.ap 60 [.pointer (some ⟨b9,0,none⟩)] (fun a=>decide (a.g = g)) (hra.st hw) (by omega) (fun x _ w2 h2=>Approve2_ok w2 b9 x g ((rd0B hw (xs:=[I g]) (.tail _ (.tail _ (.tail _ (.tail _ (.head _)))))).st h2)); rw [anyG_no ho.n] at h9; exact h9))<|s_y (v:=.bool true) (y_not (b:=false))<|s_y y_pk<|s_y y_mv<|s_y y_fa<|s_y (y_ld (b:=b10) (v:=I aT))<|s_y y_mv<|s_y (y_add (p:=gIx g p.gs) (q:=1))<|s_kt (y_eql (p:=aT) (q:=(gIx g p.gs) + 1)) ho.a<|s_y y_pk<|s_y y_mv<|s_y y_fa<|s_y (y_ld (b:=b10) (v:=I y))<|s_pure (fun w' hw=>between_ok w' y 0 2305843009213688668 true ⟨fun _=>rfl,fun _=>ho.y⟩)<|s_y y_pk<|s_pure (fun w' hw=>demand_ok w' 390)<|s_nil<|q_then<|c_seq<|c_reg<|s_y y_mv<|s_pure (fun w' hw=>sPublic_no w' x hx)<|s_y y_mv<|s_y y_ext<|s_y y_ext<|s_y y_as<|s_st (b:=b15) (v:=I 50) (cs:=#[I 0]) (hl:=by simp) ?_
  refine s_nil<|q_then<|c_seq<|c_reg<|s_y (y_ld (b:=b15) (v:=I 50))<|s_dies (fun w' hw=>try_dies w' 50 (by decide))<|q_pt<|?_
  exact leave_P (fun w' hw=>rcApprove_P w' b15 50 50 (hw.own _ (.head _)).1) Tryz.results21 (.refl _) (.cons (rv_ca (b:=b14) (cs:=#[I 0,I 0,I 0,I 0,I 0,.slice none 0 0,.slice none 0 0]) (hl:=rfl)) (.cons (rv_cf (b:=b15) (v:=I 50)) .nil)) fun w' hw=>⟨rfl,hw.sub (List.nil_sublist _)⟩
theorem Approve_n4 (w:World) (p:Pn) (c:Cs) (ga aa va:Option Addr) (gc ac vc:Nat) (g aT y ver:Int) (k:List UInt8) (x:Nat) (hg:LC w) (hk:k.length = 32) (hrg:Rd w ga (is p.gs)) (hgs:p.gs.length ≤ 1000000) (hra:Rd w aa (apc c.ap)) (hac:c.ap.length ≤ ac) (hrv:Rd w va (vtc c.vt)) (hal:c.ap.length ≤ 1000000) (hvl:c.vt.length ≤ 1000000) (hp:Prs p) (ho:ApRt p c g aT y) (hx0:1 ≤ x) (hx:x < 2305843009213688669) (hv:¬ ((pp 4 x:Nat):Int) = ver):Pure Tryz.prog 21 [.agg #[I p.id,I p.rk,.slice ga p.gs.length gc,I p.need,I p.cool],.agg #[I c.p,I c.d,I c.v,I c.l,I c.st,.slice aa c.ap.length ac,.slice va c.vt.length vc],I g,.agg #[I aT,I y],I ver,I (x:Nat),.agg (bs k).toArray] w (.tuple #[.agg #[I 0,I 0,I 0,I 0,I 0,.slice none 0 0,.slice none 0 0],I 390]):=by
  have hgi:=gIx_lt g p.gs
  have hgj:=gIx_ge g p.gs
  refine enterD Tryz.func21 Tryz.ntmps21 ?_
  refine c_seq<|c_reg<|s_box rfl fun b7=>s_box rfl fun b8=>s_box rfl fun b9=>s_box rfl fun b10=>s_box rfl fun b13=>s_alloc fun b14=>s_alloc fun b15=>s_nil<|q_then<|c_seq<|c_reg<|s_y y_func<|s_deferC<|s_nil<|q_then<|c_seq<|c_reg<|s_y (y_lda (b:=b7) (cs:=#[I p.id,I p.rk,.slice ga p.gs.length gc,I p.need,I p.cool]) (hl:=rfl))<|s_pure (fun w' hw=>(by have h9:=valid_ok w' p ga gc (hrg.st hw) (by omega); rw [prsB_t.2 hp] at h9; exact h9))<|s_pure (fun w' hw=>demand_ok w' 371)<|s_nil<|q_then<|c_seq<|c_reg<|s_y y_fa<|s_y (y_ld (b:=b7) (v:=.slice ga p.gs.length gc))<|s_y (y_ld (b:=b9) (v:=I g))<|s_pure (fun w' hw=>sIx_ok w' ga p.gs gc g (hrg.st hw) (by omega))<|s_y y_as<|s_nil<|q_then<|c_seq<|c_reg<|s_y (y_lda (b:=b7) (cs:=#[I p.id,I p.rk,.slice ga p.gs.length gc,I p.need,I p.cool]) (hl:=rfl))<|s_y (y_lda (b:=b8) (cs:=#[I c.p,I c.d,I c.v,I c.l,I c.st,.slice aa c.ap.length ac,.slice va c.vt.length vc]) (hl:=rfl))<|s_pure (fun w' hw=>(by have h9:=belongs_ok w' p c ga aa va gc ac vc hp (hrg.st hw) (hra.st hw) (hrv.st hw) hal hvl; rw [blgB_t.2 ho.b] at h9; exact h9))<|s_y y_mv<|s_y y_mv<|s_kt (y_geq (p:=gIx g p.gs) (q:=0)) ho.i<|s_y y_pk<|s_y y_mv<|s_y y_fa<|s_y (y_ld (b:=b8) (v:=.slice aa c.ap.length ac))<|s_y y_func<|s_pure (fun w' hw=>(by have h9:=CoF_Ap w' aa ac c.ap 60 [.pointer (some ⟨b9,0,none⟩)] (fun a=>decide (a.g = g)) (hra.st hw) (by omega) (fun x _ w2 h2=>Approve2_ok w2 b9 x g ((rd0B hw (xs:=[I g]) (.tail _ (.tail _ (.tail _ (.tail _ (.head _)))))).st h2)); rw [anyG_no ho.n] at h9; exact h9))<|s_y (v:=.bool true) (y_not (b:=false))<|s_y y_pk<|s_y y_mv<|s_y y_fa<|s_y (y_ld (b:=b10) (v:=I aT))<|s_y y_mv<|s_y (y_add (p:=gIx g p.gs) (q:=1))<|s_kt (y_eql (p:=aT) (q:=(gIx g p.gs) + 1)) ho.a<|s_y y_pk<|s_y y_mv<|s_y y_fa<|s_y (y_ld (b:=b10) (v:=I y))<|s_pure (fun w' hw=>between_ok w' y 0 2305843009213688668 true ⟨fun _=>rfl,fun _=>ho.y⟩)<|s_y y_pk<|s_pure (fun w' hw=>demand_ok w' 390)<|s_nil<|q_then<|c_seq<|c_reg<|s_y y_mv<|s_pure (fun w' hw=>sPublic_yes w' x hx0 hx)<|s_y y_mv<|s_y y_ext<|s_y y_ext<|s_y y_as<|s_st (b:=b15) (v:=I 0) (cs:=#[I 0]) (hl:=by simp) ?_
  refine s_nil<|q_then<|c_seq<|c_reg<|s_y (y_ld (b:=b15) (v:=I 0))<|s_pure (fun w' hw=>try_ok w')<|s_nil<|q_then<|c_seq<|c_reg<|s_y y_mv<|s_y y_mv<|s_kf (y_eql (p:=(pp 4 x:Nat)) (q:=ver)) hv<|s_dies (fun w' hw=>demand_dies w' 390)<|q_pt<|?_
  exact leave_P (fun w' hw=>rcApprove_P w' b15 0 390 (hw.own _ (.head _)).1) Tryz.results21 (.refl _) (.cons (rv_ca (b:=b14) (cs:=#[I 0,I 0,I 0,I 0,I 0,.slice none 0 0,.slice none 0 0]) (hl:=rfl)) (.cons (rv_cf (b:=b15) (v:=I 390)) .nil)) fun w' hw=>⟨rfl,hw.sub (List.nil_sublist _)⟩
theorem Approve_y (w:World) (p:Pn) (c:Cs) (ga aa va:Option Addr) (gc ac vc:Nat) (g ver:Int) (k:List UInt8) (A Y x:Nat) (hg:LC w) (hk:k.length = 32) (hrg:Rd w ga (is p.gs)) (hgs:p.gs.length ≤ 1000000) (hra:Rd w aa (apc c.ap)) (hac:c.ap.length ≤ ac) (hrv:Rd w va (vtc c.vt)) (hal:c.ap.length ≤ 1000000) (hvl:c.vt.length ≤ 1000000) (hR:R5 c) (hRg:R64 g) (hp:Prs p) (ho:ApRt p c g (A:Nat) (Y:Nat)) (hx0:1 ≤ x) (hx:x < 2305843009213688669) (hv:((pp 4 x:Nat):Int) = ver):Gives Tryz.prog 21 [.agg #[I p.id,I p.rk,.slice ga p.gs.length gc,I p.need,I p.cool],.agg #[I c.p,I c.d,I c.v,I c.l,I c.st,.slice aa c.ap.length ac,.slice va c.vt.length vc],I g,.agg #[I (A:Nat),I (Y:Nat)],I ver,I (x:Nat),.agg (bs k).toArray] w [] (fun y:AX=>.tuple #[.agg #[I c.p,I c.d,I c.v,I c.l,I c.st,.slice y.aa (c.ap.length + 1) y.ac,.slice va c.vt.length vc],I 0]) (fun y=>[.row y.aa y.ac 74 5 (c.ap.length + 1) (apc (c.ap ++ [nAp c g k A Y x y.ba y.bc])),.row y.ba y.bc 5 1 (wtx c g k A Y).length (bs (wtx c g k A Y))]) (fun _=>True):=by
  have hgi:=gIx_lt g p.gs
  have hgj:=gIx_ge g p.gs
  refine enterD Tryz.func21 Tryz.ntmps21 ?_
  refine c_seq<|c_reg<|s_box rfl fun b7=>s_box rfl fun b8=>s_box rfl fun b9=>s_box rfl fun b10=>s_box rfl fun b13=>s_alloc fun b14=>s_alloc fun b15=>s_nil<|q_then<|c_seq<|c_reg<|s_y y_func<|s_deferC<|s_nil<|q_then<|c_seq<|c_reg<|s_y (y_lda (b:=b7) (cs:=#[I p.id,I p.rk,.slice ga p.gs.length gc,I p.need,I p.cool]) (hl:=rfl))<|s_pure (fun w' hw=>(by have h9:=valid_ok w' p ga gc (hrg.st hw) (by omega); rw [prsB_t.2 hp] at h9; exact h9))<|s_pure (fun w' hw=>demand_ok w' 371)<|s_nil<|q_then<|c_seq<|c_reg<|s_y y_fa<|s_y (y_ld (b:=b7) (v:=.slice ga p.gs.length gc))<|s_y (y_ld (b:=b9) (v:=I g))<|s_pure (fun w' hw=>sIx_ok w' ga p.gs gc g (hrg.st hw) (by omega))<|s_y y_as<|s_nil<|q_then<|c_seq<|c_reg<|s_y (y_lda (b:=b7) (cs:=#[I p.id,I p.rk,.slice ga p.gs.length gc,I p.need,I p.cool]) (hl:=rfl))<|s_y (y_lda (b:=b8) (cs:=#[I c.p,I c.d,I c.v,I c.l,I c.st,.slice aa c.ap.length ac,.slice va c.vt.length vc]) (hl:=rfl))<|s_pure (fun w' hw=>(by have h9:=belongs_ok w' p c ga aa va gc ac vc hp (hrg.st hw) (hra.st hw) (hrv.st hw) hal hvl; rw [blgB_t.2 ho.b] at h9; exact h9))<|s_y y_mv<|s_y y_mv<|s_kt (y_geq (p:=gIx g p.gs) (q:=0)) ho.i<|s_y y_pk<|s_y y_mv<|s_y y_fa<|s_y (y_ld (b:=b8) (v:=.slice aa c.ap.length ac))<|s_y y_func<|s_pure (fun w' hw=>(by have h9:=CoF_Ap w' aa ac c.ap 60 [.pointer (some ⟨b9,0,none⟩)] (fun a=>decide (a.g = g)) (hra.st hw) (by omega) (fun x _ w2 h2=>Approve2_ok w2 b9 x g ((rd0B hw (xs:=[I g]) (.tail _ (.tail _ (.tail _ (.tail _ (.head _)))))).st h2)); rw [anyG_no ho.n] at h9; exact h9))<|s_y (v:=.bool true) (y_not (b:=false))<|s_y y_pk<|s_y y_mv<|s_y y_fa<|s_y (y_ld (b:=b10) (v:=I (A:Nat)))<|s_y y_mv<|s_y (y_add (p:=gIx g p.gs) (q:=1))<|s_kt (y_eql (p:=(A:Nat)) (q:=(gIx g p.gs) + 1)) ho.a<|s_y y_pk<|s_y y_mv<|s_y y_fa<|s_y (y_ld (b:=b10) (v:=I (Y:Nat)))<|s_pure (fun w' hw=>between_ok w' (Y:Nat) 0 2305843009213688668 true ⟨fun _=>rfl,fun _=>ho.y⟩)<|s_y y_pk<|s_pure (fun w' hw=>demand_ok w' 390)<|s_nil<|q_then<|c_seq<|c_reg<|s_y y_mv<|s_pure (fun w' hw=>sPublic_yes w' x hx0 hx)<|s_y y_mv<|s_y y_ext<|s_y y_ext<|s_y y_as<|s_st (b:=b15) (v:=I 0) (cs:=#[I 0]) (hl:=by simp) ?_
  refine s_nil<|q_then<|c_seq<|c_reg<|s_y (y_ld (b:=b15) (v:=I 0))<|s_pure (fun w' hw=>try_ok w')<|s_nil<|q_then<|c_seq<|c_reg<|s_y y_mv<|s_y y_mv<|s_kt (y_eql (p:=(pp 4 x:Nat)) (q:=ver)) hv<|s_pure (fun w' hw=>demand_ok w' 390)<|s_nil<|q_then<|c_seq<|c_cut (R:=fun a' w'=>∃ (b18:Nat),∃ (b19:Nat),Fr 120 [(5,I (x:Nat)),(7,.pointer (some ⟨b7,0,none⟩)),(8,.pointer (some ⟨b8,0,none⟩)),(9,.pointer (some ⟨b9,0,none⟩)),(10,.pointer (some ⟨b10,0,none⟩)),(13,.pointer (some ⟨b13,0,none⟩)),(14,.pointer (some ⟨b14,0,none⟩)),(15,.pointer (some ⟨b15,0,none⟩)),(18,.pointer (some ⟨b18,0,none⟩)),(19,.pointer (some ⟨b19,0,none⟩))] [{ target:=.fn (.func 55) #[.pointer (some ⟨b15,0,none⟩)],args:=#[] }] a' ∧ St w [] w' [.blk b19 (.cells (bs (be Y 8)).toArray 107 (0,0)),.blk b18 (.cells (bs (be A 8)).toArray 107 (0,0)),.blk b15 (.cells #[I 0] 34 (0,0)),.blk b14 (.cells #[I 0,I 0,I 0,I 0,I 0,.slice none 0 0,.slice none 0 0] 30 (0,0)),.blk b13 (.cells (bs k).toArray 24 (0,0)),.blk b10 (.cells #[I (A:Nat),I (Y:Nat)] 46 (0,0)),.blk b9 (.cells #[I g] 3 (0,0)),.blk b8 (.cells #[I c.p,I c.d,I c.v,I c.l,I c.st,.slice aa c.ap.length ac,.slice va c.vt.length vc] 30 (0,0)),.blk b7 (.cells #[I p.id,I p.rk,.slice ga p.gs.length gc,I p.need,I p.cool] 26 (0,0))]) ?_ ?_
  · refine c_regL [.blk b15 (.cells #[I 0] 34 (0,0)),.blk b14 (.cells #[I 0,I 0,I 0,I 0,I 0,.slice none 0 0,.slice none 0 0] 30 (0,0)),.blk b13 (.cells (bs k).toArray 24 (0,0)),.blk b10 (.cells #[I (A:Nat),I (Y:Nat)] 46 (0,0)),.blk b9 (.cells #[I g] 3 (0,0)),.blk b8 (.cells #[I c.p,I c.d,I c.v,I c.l,I c.st,.slice aa c.ap.length ac,.slice va c.vt.length vc] 30 (0,0)),.blk b7 (.cells #[I p.id,I p.rk,.slice ga p.gs.length gc,I p.need,I p.cool] 26 (0,0))]<|r_y 0 rfl y_fa<|r_y 1 rfl (y_ld (b:=b10) (v:=I (A:Nat)))<|r_y 3 rfl y_fa<|r_y 4 rfl (y_ld (b:=b10) (v:=I (Y:Nat)))<|r_w3B 2 6 7 rfl rfl rfl ?_ ?_ ?_ (hsub:=by repeat (first | exact List.nil_sublist _ | exact List.Sublist.refl _ | apply List.Sublist.cons_cons | apply List.Sublist.cons))
    · refine s_pure (fun w' hw=>numN_ok w' A)<|r_K<|r_w3B 5 6 7 rfl rfl rfl ?_ ?_ ?_ (hsub:=by repeat (first | exact List.nil_sublist _ | exact List.Sublist.refl _ | apply List.Sublist.cons_cons | apply List.Sublist.cons))
      · refine s_pure (fun w' hw=>numN_ok w' Y)<|r_K<|r_w2 6 7 rfl rfl ?_ ?_ (hsub:=by repeat (first | exact List.nil_sublist _ | exact List.Sublist.refl _ | apply List.Sublist.cons_cons | apply List.Sublist.cons))
        · refine s_alloc fun b18=>r_K<|r_W 7 rfl<|s_alloc fun b19=>r_K<|r_W 8 rfl<|s_sta (b:=b18) (vs:=(bs (be A 8)).toArray) (cs:=(bs (List.replicate 8 0)).toArray) (h1:=fun v hv=>bs_one (by simpa using hv)) (hl:=by simp [bs_length,List.length_replicate,(be_length _ _)]) (hs1:=(by simp [bs_length,(be_length _ _)])) ?_
          refine r_K<|r_W 9 rfl<|s_sta (b:=b19) (vs:=(bs (be Y 8)).toArray) (cs:=(bs (List.replicate 8 0)).toArray) (h1:=fun v hv=>bs_one (by simpa using hv)) (hl:=by simp [bs_length,List.length_replicate,(be_length _ _)]) (hs1:=(by simp [bs_length,(be_length _ _)])) ?_
          refine r_K<|r_E<|?_
          exact fun a' w' ha hw=>⟨rfl,b18,b19,ha.weaken ⟨rfl,rfl,rfl,rfl,rfl,rfl,rfl,rfl,rfl,rfl,trivial⟩,hw⟩
        · refine s_alloc fun b19=>r_K<|r_W 6 rfl<|s_alloc fun b18=>r_K<|r_W 8 rfl<|s_sta (b:=b18) (vs:=(bs (be A 8)).toArray) (cs:=(bs (List.replicate 8 0)).toArray) (h1:=fun v hv=>bs_one (by simpa using hv)) (hl:=by simp [bs_length,List.length_replicate,(be_length _ _)]) (hs1:=(by simp [bs_length,(be_length _ _)])) ?_
          refine r_K<|r_W 9 rfl<|s_sta (b:=b19) (vs:=(bs (be Y 8)).toArray) (cs:=(bs (List.replicate 8 0)).toArray) (h1:=fun v hv=>bs_one (by simpa using hv)) (hl:=by simp [bs_length,List.length_replicate,(be_length _ _)]) (hs1:=(by simp [bs_length,(be_length _ _)])) ?_
          refine r_K<|r_E<|?_
          exact fun a' w' ha hw=>⟨rfl,b18,b19,ha.weaken ⟨rfl,rfl,rfl,rfl,rfl,rfl,rfl,rfl,rfl,rfl,trivial⟩,(hw.perm (.swap _ _ _))⟩
      · refine s_alloc fun b18=>r_K<|r_w2 5 7 rfl rfl ?_ ?_ (hsub:=by repeat (first | exact List.nil_sublist _ | exact List.Sublist.refl _ | apply List.Sublist.cons_cons | apply List.Sublist.cons))
        · refine s_pure (fun w' hw=>numN_ok w' Y)<|r_K<|r_W 7 rfl<|s_alloc fun b19=>r_K<|r_W 8 rfl<|s_sta (b:=b18) (vs:=(bs (be A 8)).toArray) (cs:=(bs (List.replicate 8 0)).toArray) (h1:=fun v hv=>bs_one (by simpa using hv)) (hl:=by simp [bs_length,List.length_replicate,(be_length _ _)]) (hs1:=(by simp [bs_length,(be_length _ _)])) ?_
          refine r_K<|r_W 9 rfl<|s_sta (b:=b19) (vs:=(bs (be Y 8)).toArray) (cs:=(bs (List.replicate 8 0)).toArray) (h1:=fun v hv=>bs_one (by simpa using hv)) (hl:=by simp [bs_length,List.length_replicate,(be_length _ _)]) (hs1:=(by simp [bs_length,(be_length _ _)])) ?_
          refine r_K<|r_E<|?_
          exact fun a' w' ha hw=>⟨rfl,b18,b19,ha.weaken ⟨rfl,rfl,rfl,rfl,rfl,rfl,rfl,rfl,rfl,rfl,trivial⟩,hw⟩
        · refine s_alloc fun b19=>r_K<|r_W 5 rfl<|s_pure (fun w' hw=>numN_ok w' Y)<|r_K<|r_W 8 rfl<|s_sta (b:=b18) (vs:=(bs (be A 8)).toArray) (cs:=(bs (List.replicate 8 0)).toArray) (h1:=fun v hv=>bs_one (by simpa using hv)) (hl:=by simp [bs_length,List.length_replicate,(be_length _ _)]) (hs1:=(by simp [bs_length,(be_length _ _)])) ?_
          refine r_K<|r_W 9 rfl<|s_sta (b:=b19) (vs:=(bs (be Y 8)).toArray) (cs:=(bs (List.replicate 8 0)).toArray) (h1:=fun v hv=>bs_one (by simpa using hv)) (hl:=by simp [bs_length,List.length_replicate,(be_length _ _)]) (hs1:=(by simp [bs_length,(be_length _ _)])) ?_
          refine r_K<|r_E<|?_
          exact fun a' w' ha hw=>⟨rfl,b18,b19,ha.weaken ⟨rfl,rfl,rfl,rfl,rfl,rfl,rfl,rfl,rfl,rfl,trivial⟩,hw⟩
      · refine s_alloc fun b19=>r_K<|r_w2 5 6 rfl rfl ?_ ?_ (hsub:=by repeat (first | exact List.nil_sublist _ | exact List.Sublist.refl _ | apply List.Sublist.cons_cons | apply List.Sublist.cons))
        · refine s_pure (fun w' hw=>numN_ok w' Y)<|r_K<|r_W 6 rfl<|s_alloc fun b18=>r_K<|r_W 8 rfl<|s_sta (b:=b18) (vs:=(bs (be A 8)).toArray) (cs:=(bs (List.replicate 8 0)).toArray) (h1:=fun v hv=>bs_one (by simpa using hv)) (hl:=by simp [bs_length,List.length_replicate,(be_length _ _)]) (hs1:=(by simp [bs_length,(be_length _ _)])) ?_
          refine r_K<|r_W 9 rfl<|s_sta (b:=b19) (vs:=(bs (be Y 8)).toArray) (cs:=(bs (List.replicate 8 0)).toArray) (h1:=fun v hv=>bs_one (by simpa using hv)) (hl:=by simp [bs_length,List.length_replicate,(be_length _ _)]) (hs1:=(by simp [bs_length,(be_length _ _)])) ?_
          refine r_K<|r_E<|?_
          exact fun a' w' ha hw=>⟨rfl,b18,b19,ha.weaken ⟨rfl,rfl,rfl,rfl,rfl,rfl,rfl,rfl,rfl,rfl,trivial⟩,(hw.perm (.swap _ _ _))⟩
        · refine s_alloc fun b18=>r_K<|r_W 5 rfl<|s_pure (fun w' hw=>numN_ok w' Y)<|r_K<|r_W 8 rfl<|s_sta (b:=b18) (vs:=(bs (be A 8)).toArray) (cs:=(bs (List.replicate 8 0)).toArray) (h1:=fun v hv=>bs_one (by simpa using hv)) (hl:=by simp [bs_length,List.length_replicate,(be_length _ _)]) (hs1:=(by simp [bs_length,(be_length _ _)])) ?_
          refine r_K<|r_W 9 rfl<|s_sta (b:=b19) (vs:=(bs (be Y 8)).toArray) (cs:=(bs (List.replicate 8 0)).toArray) (h1:=fun v hv=>bs_one (by simpa using hv)) (hl:=by simp [bs_length,List.length_replicate,(be_length _ _)]) (hs1:=(by simp [bs_length,(be_length _ _)])) ?_
          refine r_K<|r_E<|?_
          exact fun a' w' ha hw=>⟨rfl,b18,b19,ha.weaken ⟨rfl,rfl,rfl,rfl,rfl,rfl,rfl,rfl,rfl,rfl,trivial⟩,(hw.perm (.swap _ _ _))⟩
    · refine s_alloc fun b18=>r_K<|r_w2 2 7 rfl rfl ?_ ?_ (hsub:=by repeat (first | exact List.nil_sublist _ | exact List.Sublist.refl _ | apply List.Sublist.cons_cons | apply List.Sublist.cons))
      · refine s_pure (fun w' hw=>numN_ok w' A)<|r_K<|r_w2 5 7 rfl rfl ?_ ?_ (hsub:=by repeat (first | exact List.nil_sublist _ | exact List.Sublist.refl _ | apply List.Sublist.cons_cons | apply List.Sublist.cons))
        · refine s_pure (fun w' hw=>numN_ok w' Y)<|r_K<|r_W 7 rfl<|s_alloc fun b19=>r_K<|r_W 8 rfl<|s_sta (b:=b18) (vs:=(bs (be A 8)).toArray) (cs:=(bs (List.replicate 8 0)).toArray) (h1:=fun v hv=>bs_one (by simpa using hv)) (hl:=by simp [bs_length,List.length_replicate,(be_length _ _)]) (hs1:=(by simp [bs_length,(be_length _ _)])) ?_
          refine r_K<|r_W 9 rfl<|s_sta (b:=b19) (vs:=(bs (be Y 8)).toArray) (cs:=(bs (List.replicate 8 0)).toArray) (h1:=fun v hv=>bs_one (by simpa using hv)) (hl:=by simp [bs_length,List.length_replicate,(be_length _ _)]) (hs1:=(by simp [bs_length,(be_length _ _)])) ?_
          refine r_K<|r_E<|?_
          exact fun a' w' ha hw=>⟨rfl,b18,b19,ha.weaken ⟨rfl,rfl,rfl,rfl,rfl,rfl,rfl,rfl,rfl,rfl,trivial⟩,hw⟩
        · refine s_alloc fun b19=>r_K<|r_W 5 rfl<|s_pure (fun w' hw=>numN_ok w' Y)<|r_K<|r_W 8 rfl<|s_sta (b:=b18) (vs:=(bs (be A 8)).toArray) (cs:=(bs (List.replicate 8 0)).toArray) (h1:=fun v hv=>bs_one (by simpa using hv)) (hl:=by simp [bs_length,List.length_replicate,(be_length _ _)]) (hs1:=(by simp [bs_length,(be_length _ _)])) ?_
          refine r_K<|r_W 9 rfl<|s_sta (b:=b19) (vs:=(bs (be Y 8)).toArray) (cs:=(bs (List.replicate 8 0)).toArray) (h1:=fun v hv=>bs_one (by simpa using hv)) (hl:=by simp [bs_length,List.length_replicate,(be_length _ _)]) (hs1:=(by simp [bs_length,(be_length _ _)])) ?_
          refine r_K<|r_E<|?_
          exact fun a' w' ha hw=>⟨rfl,b18,b19,ha.weaken ⟨rfl,rfl,rfl,rfl,rfl,rfl,rfl,rfl,rfl,rfl,trivial⟩,hw⟩
      · refine s_alloc fun b19=>r_K<|r_W 2 rfl<|s_pure (fun w' hw=>numN_ok w' A)<|r_K<|r_W 5 rfl<|s_pure (fun w' hw=>numN_ok w' Y)<|r_K<|r_W 8 rfl<|s_sta (b:=b18) (vs:=(bs (be A 8)).toArray) (cs:=(bs (List.replicate 8 0)).toArray) (h1:=fun v hv=>bs_one (by simpa using hv)) (hl:=by simp [bs_length,List.length_replicate,(be_length _ _)]) (hs1:=(by simp [bs_length,(be_length _ _)])) ?_
        refine r_K<|r_W 9 rfl<|s_sta (b:=b19) (vs:=(bs (be Y 8)).toArray) (cs:=(bs (List.replicate 8 0)).toArray) (h1:=fun v hv=>bs_one (by simpa using hv)) (hl:=by simp [bs_length,List.length_replicate,(be_length _ _)]) (hs1:=(by simp [bs_length,(be_length _ _)])) ?_
        refine r_K<|r_E<|?_
        exact fun a' w' ha hw=>⟨rfl,b18,b19,ha.weaken ⟨rfl,rfl,rfl,rfl,rfl,rfl,rfl,rfl,rfl,rfl,trivial⟩,hw⟩
    · refine s_alloc fun b19=>r_K<|r_w2 2 6 rfl rfl ?_ ?_ (hsub:=by repeat (first | exact List.nil_sublist _ | exact List.Sublist.refl _ | apply List.Sublist.cons_cons | apply List.Sublist.cons))
      · refine s_pure (fun w' hw=>numN_ok w' A)<|r_K<|r_w2 5 6 rfl rfl ?_ ?_ (hsub:=by repeat (first | exact List.nil_sublist _ | exact List.Sublist.refl _ | apply List.Sublist.cons_cons | apply List.Sublist.cons))
        · refine s_pure (fun w' hw=>numN_ok w' Y)<|r_K<|r_W 6 rfl<|s_alloc fun b18=>r_K<|r_W 8 rfl<|s_sta (b:=b18) (vs:=(bs (be A 8)).toArray) (cs:=(bs (List.replicate 8 0)).toArray) (h1:=fun v hv=>bs_one (by simpa using hv)) (hl:=by simp [bs_length,List.length_replicate,(be_length _ _)]) (hs1:=(by simp [bs_length,(be_length _ _)])) ?_
          refine r_K<|r_W 9 rfl<|s_sta (b:=b19) (vs:=(bs (be Y 8)).toArray) (cs:=(bs (List.replicate 8 0)).toArray) (h1:=fun v hv=>bs_one (by simpa using hv)) (hl:=by simp [bs_length,List.length_replicate,(be_length _ _)]) (hs1:=(by simp [bs_length,(be_length _ _)])) ?_
          refine r_K<|r_E<|?_
          exact fun a' w' ha hw=>⟨rfl,b18,b19,ha.weaken ⟨rfl,rfl,rfl,rfl,rfl,rfl,rfl,rfl,rfl,rfl,trivial⟩,(hw.perm (.swap _ _ _))⟩
        · refine s_alloc fun b18=>r_K<|r_W 5 rfl<|s_pure (fun w' hw=>numN_ok w' Y)<|r_K<|r_W 8 rfl<|s_sta (b:=b18) (vs:=(bs (be A 8)).toArray) (cs:=(bs (List.replicate 8 0)).toArray) (h1:=fun v hv=>bs_one (by simpa using hv)) (hl:=by simp [bs_length,List.length_replicate,(be_length _ _)]) (hs1:=(by simp [bs_length,(be_length _ _)])) ?_
          refine r_K<|r_W 9 rfl<|s_sta (b:=b19) (vs:=(bs (be Y 8)).toArray) (cs:=(bs (List.replicate 8 0)).toArray) (h1:=fun v hv=>bs_one (by simpa using hv)) (hl:=by simp [bs_length,List.length_replicate,(be_length _ _)]) (hs1:=(by simp [bs_length,(be_length _ _)])) ?_
          refine r_K<|r_E<|?_
          exact fun a' w' ha hw=>⟨rfl,b18,b19,ha.weaken ⟨rfl,rfl,rfl,rfl,rfl,rfl,rfl,rfl,rfl,rfl,trivial⟩,(hw.perm (.swap _ _ _))⟩
      · refine s_alloc fun b18=>r_K<|r_W 2 rfl<|s_pure (fun w' hw=>numN_ok w' A)<|r_K<|r_W 5 rfl<|s_pure (fun w' hw=>numN_ok w' Y)<|r_K<|r_W 8 rfl<|s_sta (b:=b18) (vs:=(bs (be A 8)).toArray) (cs:=(bs (List.replicate 8 0)).toArray) (h1:=fun v hv=>bs_one (by simpa using hv)) (hl:=by simp [bs_length,List.length_replicate,(be_length _ _)]) (hs1:=(by simp [bs_length,(be_length _ _)])) ?_
        refine r_K<|r_W 9 rfl<|s_sta (b:=b19) (vs:=(bs (be Y 8)).toArray) (cs:=(bs (List.replicate 8 0)).toArray) (h1:=fun v hv=>bs_one (by simpa using hv)) (hl:=by simp [bs_length,List.length_replicate,(be_length _ _)]) (hs1:=(by simp [bs_length,(be_length _ _)])) ?_
        refine r_K<|r_E<|?_
        exact fun a' w' ha hw=>⟨rfl,b18,b19,ha.weaken ⟨rfl,rfl,rfl,rfl,rfl,rfl,rfl,rfl,rfl,rfl,trivial⟩,(hw.perm (.swap _ _ _))⟩
  rintro a8' w8' ⟨b18,b19,ha8',hw8'⟩
  refine (show CP none Tryz.prog 120 [{ target:=.fn (.func 55) #[.pointer (some ⟨b15,0,none⟩)],args:=#[] }] w [] _ _ [(5,I (x:Nat)),(7,.pointer (some ⟨b7,0,none⟩)),(8,.pointer (some ⟨b8,0,none⟩)),(9,.pointer (some ⟨b9,0,none⟩)),(10,.pointer (some ⟨b10,0,none⟩)),(13,.pointer (some ⟨b13,0,none⟩)),(14,.pointer (some ⟨b14,0,none⟩)),(15,.pointer (some ⟨b15,0,none⟩)),(18,.pointer (some ⟨b18,0,none⟩)),(19,.pointer (some ⟨b19,0,none⟩))] [.blk b19 (.cells (bs (be Y 8)).toArray 107 (0,0)),.blk b18 (.cells (bs (be A 8)).toArray 107 (0,0)),.blk b15 (.cells #[I 0] 34 (0,0)),.blk b14 (.cells #[I 0,I 0,I 0,I 0,I 0,.slice none 0 0,.slice none 0 0] 30 (0,0)),.blk b13 (.cells (bs k).toArray 24 (0,0)),.blk b10 (.cells #[I (A:Nat),I (Y:Nat)] 46 (0,0)),.blk b9 (.cells #[I g] 3 (0,0)),.blk b8 (.cells #[I c.p,I c.d,I c.v,I c.l,I c.st,.slice aa c.ap.length ac,.slice va c.vt.length vc] 30 (0,0)),.blk b7 (.cells #[I p.id,I p.rk,.slice ga p.gs.length gc,I p.need,I p.cool] 26 (0,0))] from ?_) a8' w8' ha8' hw8'
  clear ha8' hw8'
  refine c_seq<|c_reg<|s_y (y_lda (b:=b8) (cs:=#[I c.p,I c.d,I c.v,I c.l,I c.st,.slice aa c.ap.length ac,.slice va c.vt.length vc]) (hl:=rfl))<|s_y (y_ld (b:=b9) (v:=I g))<|s_gives (fun w' hw=>Message_ok w' c 0 g aa va ac vc (hg.st hw).1 hR R64_0 hRg) fun (x78:Nat) _=>s_y y_as<|s_nil<|q_then<|c_seq<|c_cut (R:=fun a' w'=>∃ (x88:Option Addr × Nat),∃ (b21:Nat),Fr 120 [(5,I (x:Nat)),(8,.pointer (some ⟨b8,0,none⟩)),(9,.pointer (some ⟨b9,0,none⟩)),(13,.pointer (some ⟨b13,0,none⟩)),(14,.pointer (some ⟨b14,0,none⟩)),(15,.pointer (some ⟨b15,0,none⟩)),(20,.slice (some ⟨x78,0,none⟩) 32 32),(21,.pointer (some ⟨b21,0,none⟩))] [{ target:=.fn (.func 55) #[.pointer (some ⟨b15,0,none⟩)],args:=#[] }] a' ∧ St w [] w' [.blk b21 (.cells #[I (wU k:Nat),.slice x88.1 ((wtx c g k A Y).length) x88.2] 72 (0,0)),.row x88.1 x88.2 5 1 ((wtx c g k A Y).length) (bs (wtx c g k A Y)),.blk x78 (.cells (bs (msg c 0 g)).toArray 95 (0,0)),.blk b15 (.cells #[I 0] 34 (0,0)),.blk b14 (.cells #[I 0,I 0,I 0,I 0,I 0,.slice none 0 0,.slice none 0 0] 30 (0,0)),.blk b9 (.cells #[I g] 3 (0,0)),.blk b8 (.cells #[I c.p,I c.d,I c.v,I c.l,I c.st,.slice aa c.ap.length ac,.slice va c.vt.length vc] 30 (0,0))]) ?_ ?_
  · refine c_regL [.blk x78 (.cells (bs (msg c 0 g)).toArray 95 (0,0)),.blk b19 (.cells (bs (be Y 8)).toArray 107 (0,0)),.blk b18 (.cells (bs (be A 8)).toArray 107 (0,0)),.blk b14 (.cells #[I 0,I 0,I 0,I 0,I 0,.slice none 0 0,.slice none 0 0] 30 (0,0)),.blk b13 (.cells (bs k).toArray 24 (0,0)),.blk b10 (.cells #[I (A:Nat),I (Y:Nat)] 46 (0,0)),.blk b9 (.cells #[I g] 3 (0,0)),.blk b8 (.cells #[I c.p,I c.d,I c.v,I c.l,I c.st,.slice aa c.ap.length ac,.slice va c.vt.length vc] 30 (0,0)),.blk b7 (.cells #[I p.id,I p.rk,.slice ga p.gs.length gc,I p.need,I p.cool] 26 (0,0))]<|r_y 0 rfl y_fa<|r_y 1 rfl (y_ld (b:=b8) (v:=I c.l))<|r_y 2 rfl (y_lda (b:=b13) (cs:=(bs k).toArray) (hl:=(hz32 hk)))<|r_y 3 rfl y_mv<|r_y 4 rfl y_sla<|r_y 5 rfl y_sla<|r_w2 6 12 rfl rfl ?_ ?_ (hsub:=by repeat (first | exact List.nil_sublist _ | exact List.Sublist.refl _ | apply List.Sublist.cons_cons | apply List.Sublist.cons))
    · refine s_bslr (cs:=[.slice (some ⟨b18,0,none⟩) 8 8,.slice (some ⟨b19,0,none⟩) 8 8]) fun b86=>r_K<|r_w2 7 12 rfl rfl ?_ ?_ (hsub:=by repeat (first | exact List.nil_sublist _ | exact List.Sublist.refl _ | apply List.Sublist.cons_cons | apply List.Sublist.cons))
      · refine s_gives (fun w' hw=>concat2 w' (some ⟨b86,0,none⟩) (some ⟨b18,0,none⟩) (some ⟨b19,0,none⟩) 2 8 8 8 8 16 (be A 8) (be Y 8) (bdy A Y) (be_length _ _) (be_length _ _) rfl (bdy_length _ _) (by decide) (rdR (.head _) w' hw) (rd_blkB (e:=107) (.tail _ (.tail _ (.tail _ (.head _)))) w' hw) (rd_blkB (e:=107) (.tail _ (.tail _ (.head _))) w' hw)) fun (x87:Option Addr × Nat) _=>r_K<|r_w2 8 12 rfl rfl ?_ ?_ (hsub:=by repeat (first | exact List.nil_sublist _ | exact List.Sublist.refl _ | apply List.Sublist.cons_cons | apply List.Sublist.cons))
        · refine s_gives (fun w' hw=>wrapQ w' c.l k (msg c 0 g) (bdy A Y) (wtx c g k A Y) (some ⟨x78,0,none⟩) x87.1 32 x87.2 32 16 (hg.st hw) ho.b.fl hk (msg_length _ _ _) (bdy_length _ _) rfl (rd_blkB (e:=95) (.tail _ (.tail _ (.head _))) w' hw) (by decide) (rdR (.head _) w' hw) (by decide)) fun (x88:Option Addr × Nat) _=>r_K<|r_y 9 rfl y_mv<|r_y 10 rfl y_ext<|r_y 11 rfl y_ext<|r_W 12 rfl<|s_alloc fun b21=>r_K<|r_W 13 rfl<|s_sta (b:=b21) (vs:=#[I (wU k:Nat),.slice x88.1 ((wtx c g k A Y).length) x88.2]) (cs:=#[I 0,.slice none 0 0]) (h1:=one_allA rfl) (hl:=rfl) (hs1:=rfl) ?_
          refine r_K<|r_W 14 rfl<|s_st (b:=b15) (v:=I 0) (cs:=#[I 0]) (hl:=by simp) ?_
          refine r_K<|r_E<|?_
          exact fun a' w' ha hw=>⟨rfl,x88,b21,ha.weaken ⟨rfl,rfl,rfl,rfl,rfl,rfl,rfl,rfl,trivial⟩,(hw.sub (l':=[.blk b21 (.cells #[I (wU k:Nat),.slice x88.1 ((wtx c g k A Y).length) x88.2] 72 (0,0)),.row x88.1 x88.2 5 1 ((wtx c g k A Y).length) (bs (wtx c g k A Y)),.blk x78 (.cells (bs (msg c 0 g)).toArray 95 (0,0)),.blk b15 (.cells #[I 0] 34 (0,0)),.blk b14 (.cells #[I 0,I 0,I 0,I 0,I 0,.slice none 0 0,.slice none 0 0] 30 (0,0)),.blk b9 (.cells #[I g] 3 (0,0)),.blk b8 (.cells #[I c.p,I c.d,I c.v,I c.l,I c.st,.slice aa c.ap.length ac,.slice va c.vt.length vc] 30 (0,0))]) (by repeat (first | exact List.nil_sublist _ | exact List.Sublist.refl _ | apply List.Sublist.cons_cons | apply List.Sublist.cons)))⟩
        · refine s_alloc fun b21=>r_K<|r_W 8 rfl<|s_gives (fun w' hw=>wrapQ w' c.l k (msg c 0 g) (bdy A Y) (wtx c g k A Y) (some ⟨x78,0,none⟩) x87.1 32 x87.2 32 16 (hg.st hw) ho.b.fl hk (msg_length _ _ _) (bdy_length _ _) rfl (rd_blkB (e:=95) (.tail _ (.tail _ (.tail _ (.head _)))) w' hw) (by decide) (rdR (.tail _ (.head _)) w' hw) (by decide)) fun (x88:Option Addr × Nat) _=>r_K<|r_y 9 rfl y_mv<|r_y 10 rfl y_ext<|r_y 11 rfl y_ext<|r_W 13 rfl<|s_sta (b:=b21) (vs:=#[I (wU k:Nat),.slice x88.1 ((wtx c g k A Y).length) x88.2]) (cs:=#[I 0,.slice none 0 0]) (h1:=one_allA rfl) (hl:=rfl) (hs1:=rfl) ?_
          refine r_K<|r_W 14 rfl<|s_st (b:=b15) (v:=I 0) (cs:=#[I 0]) (hl:=by simp) ?_
          refine r_K<|r_E<|?_
          exact fun a' w' ha hw=>⟨rfl,x88,b21,ha.weaken ⟨rfl,rfl,rfl,rfl,rfl,rfl,rfl,rfl,trivial⟩,((hw.sub (l':=[.row x88.1 x88.2 5 1 ((wtx c g k A Y).length) (bs (wtx c g k A Y)),.blk b21 (.cells #[I (wU k:Nat),.slice x88.1 ((wtx c g k A Y).length) x88.2] 72 (0,0)),.blk x78 (.cells (bs (msg c 0 g)).toArray 95 (0,0)),.blk b15 (.cells #[I 0] 34 (0,0)),.blk b14 (.cells #[I 0,I 0,I 0,I 0,I 0,.slice none 0 0,.slice none 0 0] 30 (0,0)),.blk b9 (.cells #[I g] 3 (0,0)),.blk b8 (.cells #[I c.p,I c.d,I c.v,I c.l,I c.st,.slice aa c.ap.length ac,.slice va c.vt.length vc] 30 (0,0))]) (by repeat (first | exact List.nil_sublist _ | exact List.Sublist.refl _ | apply List.Sublist.cons_cons | apply List.Sublist.cons))).perm (.swap _ _ _))⟩
      · refine s_alloc fun b21=>r_K<|r_W 7 rfl<|s_gives (fun w' hw=>concat2 w' (some ⟨b86,0,none⟩) (some ⟨b18,0,none⟩) (some ⟨b19,0,none⟩) 2 8 8 8 8 16 (be A 8) (be Y 8) (bdy A Y) (be_length _ _) (be_length _ _) rfl (bdy_length _ _) (by decide) (rdR (.tail _ (.head _)) w' hw) (rd_blkB (e:=107) (.tail _ (.tail _ (.tail _ (.tail _ (.head _))))) w' hw) (rd_blkB (e:=107) (.tail _ (.tail _ (.tail _ (.head _)))) w' hw)) fun (x87:Option Addr × Nat) _=>r_K<|r_W 8 rfl<|s_gives (fun w' hw=>wrapQ w' c.l k (msg c 0 g) (bdy A Y) (wtx c g k A Y) (some ⟨x78,0,none⟩) x87.1 32 x87.2 32 16 (hg.st hw) ho.b.fl hk (msg_length _ _ _) (bdy_length _ _) rfl (rd_blkB (e:=95) (.tail _ (.tail _ (.tail _ (.head _)))) w' hw) (by decide) (rdR (.head _) w' hw) (by decide)) fun (x88:Option Addr × Nat) _=>r_K<|r_y 9 rfl y_mv<|r_y 10 rfl y_ext<|r_y 11 rfl y_ext<|r_W 13 rfl<|s_sta (b:=b21) (vs:=#[I (wU k:Nat),.slice x88.1 ((wtx c g k A Y).length) x88.2]) (cs:=#[I 0,.slice none 0 0]) (h1:=one_allA rfl) (hl:=rfl) (hs1:=rfl) ?_
        refine r_K<|r_W 14 rfl<|s_st (b:=b15) (v:=I 0) (cs:=#[I 0]) (hl:=by simp) ?_
        refine r_K<|r_E<|?_
        exact fun a' w' ha hw=>⟨rfl,x88,b21,ha.weaken ⟨rfl,rfl,rfl,rfl,rfl,rfl,rfl,rfl,trivial⟩,((hw.sub (l':=[.row x88.1 x88.2 5 1 ((wtx c g k A Y).length) (bs (wtx c g k A Y)),.blk b21 (.cells #[I (wU k:Nat),.slice x88.1 ((wtx c g k A Y).length) x88.2] 72 (0,0)),.blk x78 (.cells (bs (msg c 0 g)).toArray 95 (0,0)),.blk b15 (.cells #[I 0] 34 (0,0)),.blk b14 (.cells #[I 0,I 0,I 0,I 0,I 0,.slice none 0 0,.slice none 0 0] 30 (0,0)),.blk b9 (.cells #[I g] 3 (0,0)),.blk b8 (.cells #[I c.p,I c.d,I c.v,I c.l,I c.st,.slice aa c.ap.length ac,.slice va c.vt.length vc] 30 (0,0))]) (by repeat (first | exact List.nil_sublist _ | exact List.Sublist.refl _ | apply List.Sublist.cons_cons | apply List.Sublist.cons))).perm (.swap _ _ _))⟩
    · refine s_alloc fun b21=>r_K<|r_W 6 rfl<|s_bslr (cs:=[.slice (some ⟨b18,0,none⟩) 8 8,.slice (some ⟨b19,0,none⟩) 8 8]) fun b86=>r_K<|r_W 7 rfl<|s_gives (fun w' hw=>concat2 w' (some ⟨b86,0,none⟩) (some ⟨b18,0,none⟩) (some ⟨b19,0,none⟩) 2 8 8 8 8 16 (be A 8) (be Y 8) (bdy A Y) (be_length _ _) (be_length _ _) rfl (bdy_length _ _) (by decide) (rdR (.head _) w' hw) (rd_blkB (e:=107) (.tail _ (.tail _ (.tail _ (.tail _ (.head _))))) w' hw) (rd_blkB (e:=107) (.tail _ (.tail _ (.tail _ (.head _)))) w' hw)) fun (x87:Option Addr × Nat) _=>r_K<|r_W 8 rfl<|s_gives (fun w' hw=>wrapQ w' c.l k (msg c 0 g) (bdy A Y) (wtx c g k A Y) (some ⟨x78,0,none⟩) x87.1 32 x87.2 32 16 (hg.st hw) ho.b.fl hk (msg_length _ _ _) (bdy_length _ _) rfl (rd_blkB (e:=95) (.tail _ (.tail _ (.tail _ (.head _)))) w' hw) (by decide) (rdR (.head _) w' hw) (by decide)) fun (x88:Option Addr × Nat) _=>r_K<|r_y 9 rfl y_mv<|r_y 10 rfl y_ext<|r_y 11 rfl y_ext<|r_W 13 rfl<|s_sta (b:=b21) (vs:=#[I (wU k:Nat),.slice x88.1 ((wtx c g k A Y).length) x88.2]) (cs:=#[I 0,.slice none 0 0]) (h1:=one_allA rfl) (hl:=rfl) (hs1:=rfl) ?_
      refine r_K<|r_W 14 rfl<|s_st (b:=b15) (v:=I 0) (cs:=#[I 0]) (hl:=by simp) ?_
      refine r_K<|r_E<|?_
      exact fun a' w' ha hw=>⟨rfl,x88,b21,ha.weaken ⟨rfl,rfl,rfl,rfl,rfl,rfl,rfl,rfl,trivial⟩,((hw.sub (l':=[.row x88.1 x88.2 5 1 ((wtx c g k A Y).length) (bs (wtx c g k A Y)),.blk b21 (.cells #[I (wU k:Nat),.slice x88.1 ((wtx c g k A Y).length) x88.2] 72 (0,0)),.blk x78 (.cells (bs (msg c 0 g)).toArray 95 (0,0)),.blk b15 (.cells #[I 0] 34 (0,0)),.blk b14 (.cells #[I 0,I 0,I 0,I 0,I 0,.slice none 0 0,.slice none 0 0] 30 (0,0)),.blk b9 (.cells #[I g] 3 (0,0)),.blk b8 (.cells #[I c.p,I c.d,I c.v,I c.l,I c.st,.slice aa c.ap.length ac,.slice va c.vt.length vc] 30 (0,0))]) (by repeat (first | exact List.nil_sublist _ | exact List.Sublist.refl _ | apply List.Sublist.cons_cons | apply List.Sublist.cons))).perm (.swap _ _ _))⟩
  rintro a10' w10' ⟨x88,b21,ha10',hw10'⟩
  refine (show CP none Tryz.prog 120 [{ target:=.fn (.func 55) #[.pointer (some ⟨b15,0,none⟩)],args:=#[] }] w [] _ _ [(5,I (x:Nat)),(8,.pointer (some ⟨b8,0,none⟩)),(9,.pointer (some ⟨b9,0,none⟩)),(13,.pointer (some ⟨b13,0,none⟩)),(14,.pointer (some ⟨b14,0,none⟩)),(15,.pointer (some ⟨b15,0,none⟩)),(20,.slice (some ⟨x78,0,none⟩) 32 32),(21,.pointer (some ⟨b21,0,none⟩))] [.blk b21 (.cells #[I (wU k:Nat),.slice x88.1 ((wtx c g k A Y).length) x88.2] 72 (0,0)),.row x88.1 x88.2 5 1 ((wtx c g k A Y).length) (bs (wtx c g k A Y)),.blk x78 (.cells (bs (msg c 0 g)).toArray 95 (0,0)),.blk b15 (.cells #[I 0] 34 (0,0)),.blk b14 (.cells #[I 0,I 0,I 0,I 0,I 0,.slice none 0 0,.slice none 0 0] 30 (0,0)),.blk b9 (.cells #[I g] 3 (0,0)),.blk b8 (.cells #[I c.p,I c.d,I c.v,I c.l,I c.st,.slice aa c.ap.length ac,.slice va c.vt.length vc] 30 (0,0))] from ?_) a10' w10' ha10' hw10'
  clear ha10' hw10'
  refine c_seq<|c_reg<|s_y (y_ld (b:=b15) (v:=I 0))<|s_pure (fun w' hw=>try_ok w')<|s_nil<|q_then<|c_seq<|c_reg<|s_y y_fa<|s_y (y_ld (b:=b21) (v:=I (wU k:Nat)))<|s_pure (fun w' hw=>numN_ok w' (wU k))<|s_alloc fun b22=>s_sta (b:=b22) (vs:=(bs (be (wU k) 8)).toArray) (cs:=(bs (List.replicate 8 0)).toArray) (h1:=fun v hv=>bs_one (by simpa using hv)) (hl:=by simp [bs_length,List.length_replicate,(be_length _ _)]) (hs1:=(by simp [bs_length,(be_length _ _)])) ?_
  refine s_nil<|q_then<|c_seq<|c_cut (R:=fun a' w'=>∃ (b23:Nat),Fr 120 [(8,.pointer (some ⟨b8,0,none⟩)),(9,.pointer (some ⟨b9,0,none⟩)),(14,.pointer (some ⟨b14,0,none⟩)),(15,.pointer (some ⟨b15,0,none⟩)),(21,.pointer (some ⟨b21,0,none⟩)),(23,.pointer (some ⟨b23,0,none⟩))] [{ target:=.fn (.func 55) #[.pointer (some ⟨b15,0,none⟩)],args:=#[] }] a' ∧ St w [] w' [.blk b23 (.cells #[I (sgR x (sgt c g k A Y):Nat),I (sgS x (sgt c g k A Y):Nat)] 59 (0,0)),.blk b21 (.cells #[I (wU k:Nat),.slice x88.1 ((wtx c g k A Y).length) x88.2] 72 (0,0)),.row x88.1 x88.2 5 1 ((wtx c g k A Y).length) (bs (wtx c g k A Y)),.blk b15 (.cells #[I 0] 34 (0,0)),.blk b14 (.cells #[I 0,I 0,I 0,I 0,I 0,.slice none 0 0,.slice none 0 0] 30 (0,0)),.blk b9 (.cells #[I g] 3 (0,0)),.blk b8 (.cells #[I c.p,I c.d,I c.v,I c.l,I c.st,.slice aa c.ap.length ac,.slice va c.vt.length vc] 30 (0,0))]) ?_ ?_
  · refine c_regL [.blk b22 (.cells (bs (be (wU k) 8)).toArray 107 (0,0)),.blk b21 (.cells #[I (wU k:Nat),.slice x88.1 ((wtx c g k A Y).length) x88.2] 72 (0,0)),.row x88.1 x88.2 5 1 ((wtx c g k A Y).length) (bs (wtx c g k A Y)),.blk x78 (.cells (bs (msg c 0 g)).toArray 95 (0,0)),.blk b14 (.cells #[I 0,I 0,I 0,I 0,I 0,.slice none 0 0,.slice none 0 0] 30 (0,0)),.blk b9 (.cells #[I g] 3 (0,0)),.blk b8 (.cells #[I c.p,I c.d,I c.v,I c.l,I c.st,.slice aa c.ap.length ac,.slice va c.vt.length vc] 30 (0,0))]<|r_y 0 rfl y_mv<|r_y 1 rfl y_mv<|r_y 2 rfl y_sla<|r_y 3 rfl y_fa<|r_y 4 rfl (y_ld (b:=b21) (v:=.slice x88.1 ((wtx c g k A Y).length) x88.2))<|r_w2 5 11 rfl rfl ?_ ?_ (hsub:=by repeat (first | exact List.nil_sublist _ | exact List.Sublist.refl _ | apply List.Sublist.cons_cons | apply List.Sublist.cons))
    · refine s_bslr (cs:=[.slice (some ⟨x78,0,none⟩) 32 32,.slice (some ⟨b22,0,none⟩) 8 8,.slice x88.1 ((wtx c g k A Y).length) x88.2]) fun b102=>r_K<|r_w2 6 11 rfl rfl ?_ ?_ (hsub:=by repeat (first | exact List.nil_sublist _ | exact List.Sublist.refl _ | apply List.Sublist.cons_cons | apply List.Sublist.cons))
      · refine s_gives (fun w' hw=>concat3 w' (some ⟨b102,0,none⟩) (some ⟨x78,0,none⟩) (some ⟨b22,0,none⟩) x88.1 3 32 32 8 8 ((wtx c g k A Y).length) x88.2 72 (msg c 0 g) (be (wU k) 8) (wtx c g k A Y) (sgt c g k A Y) (msg_length _ _ _) (be_length _ _) rfl rfl (sgt_length _ _ _ _ _) (by decide) (rdR (.head _) w' hw) (rd_blkB (e:=95) (.tail _ (.tail _ (.tail _ (.tail _ (.head _))))) w' hw) (rd_blkB (e:=107) (.tail _ (.head _)) w' hw) (rdR (.tail _ (.tail _ (.tail _ (.head _)))) w' hw)) fun (x103:Option Addr × Nat) _=>r_K<|r_w2 7 11 rfl rfl ?_ ?_ (hsub:=by repeat (first | exact List.nil_sublist _ | exact List.Sublist.refl _ | apply List.Sublist.cons_cons | apply List.Sublist.cons))
        · refine s_pure (fun w' hw=>signQ w' x103.1 x103.2 72 x (sgt c g k A Y) (hg.st hw).1 (sgt_length _ _ _ _ _) (rdR (.head _) w' hw) (by decide) hx0 hx)<|r_K<|r_y 8 rfl y_mv<|r_y 9 rfl y_ext<|r_y 10 rfl y_ext<|r_W 11 rfl<|s_alloc fun b23=>r_K<|r_W 12 rfl<|s_sta (b:=b23) (vs:=#[I (sgR x (sgt c g k A Y):Nat),I (sgS x (sgt c g k A Y):Nat)]) (cs:=#[I 0,I 0]) (h1:=one_allA rfl) (hl:=rfl) (hs1:=rfl) ?_
          refine r_K<|r_W 13 rfl<|s_st (b:=b15) (v:=I 0) (cs:=#[I 0]) (hl:=by simp) ?_
          refine r_K<|r_E<|?_
          exact fun a' w' ha hw=>⟨rfl,b23,ha.weaken ⟨rfl,rfl,rfl,rfl,rfl,rfl,trivial⟩,(hw.sub (l':=[.blk b23 (.cells #[I (sgR x (sgt c g k A Y):Nat),I (sgS x (sgt c g k A Y):Nat)] 59 (0,0)),.blk b21 (.cells #[I (wU k:Nat),.slice x88.1 ((wtx c g k A Y).length) x88.2] 72 (0,0)),.row x88.1 x88.2 5 1 ((wtx c g k A Y).length) (bs (wtx c g k A Y)),.blk b15 (.cells #[I 0] 34 (0,0)),.blk b14 (.cells #[I 0,I 0,I 0,I 0,I 0,.slice none 0 0,.slice none 0 0] 30 (0,0)),.blk b9 (.cells #[I g] 3 (0,0)),.blk b8 (.cells #[I c.p,I c.d,I c.v,I c.l,I c.st,.slice aa c.ap.length ac,.slice va c.vt.length vc] 30 (0,0))]) (by repeat (first | exact List.nil_sublist _ | exact List.Sublist.refl _ | apply List.Sublist.cons_cons | apply List.Sublist.cons)))⟩
        · refine s_alloc fun b23=>r_K<|r_W 7 rfl<|s_pure (fun w' hw=>signQ w' x103.1 x103.2 72 x (sgt c g k A Y) (hg.st hw).1 (sgt_length _ _ _ _ _) (rdR (.tail _ (.head _)) w' hw) (by decide) hx0 hx)<|r_K<|r_y 8 rfl y_mv<|r_y 9 rfl y_ext<|r_y 10 rfl y_ext<|r_W 12 rfl<|s_sta (b:=b23) (vs:=#[I (sgR x (sgt c g k A Y):Nat),I (sgS x (sgt c g k A Y):Nat)]) (cs:=#[I 0,I 0]) (h1:=one_allA rfl) (hl:=rfl) (hs1:=rfl) ?_
          refine r_K<|r_W 13 rfl<|s_st (b:=b15) (v:=I 0) (cs:=#[I 0]) (hl:=by simp) ?_
          refine r_K<|r_E<|?_
          exact fun a' w' ha hw=>⟨rfl,b23,ha.weaken ⟨rfl,rfl,rfl,rfl,rfl,rfl,trivial⟩,(hw.sub (l':=[.blk b23 (.cells #[I (sgR x (sgt c g k A Y):Nat),I (sgS x (sgt c g k A Y):Nat)] 59 (0,0)),.blk b21 (.cells #[I (wU k:Nat),.slice x88.1 ((wtx c g k A Y).length) x88.2] 72 (0,0)),.row x88.1 x88.2 5 1 ((wtx c g k A Y).length) (bs (wtx c g k A Y)),.blk b15 (.cells #[I 0] 34 (0,0)),.blk b14 (.cells #[I 0,I 0,I 0,I 0,I 0,.slice none 0 0,.slice none 0 0] 30 (0,0)),.blk b9 (.cells #[I g] 3 (0,0)),.blk b8 (.cells #[I c.p,I c.d,I c.v,I c.l,I c.st,.slice aa c.ap.length ac,.slice va c.vt.length vc] 30 (0,0))]) (by repeat (first | exact List.nil_sublist _ | exact List.Sublist.refl _ | apply List.Sublist.cons_cons | apply List.Sublist.cons)))⟩
      · refine s_alloc fun b23=>r_K<|r_W 6 rfl<|s_gives (fun w' hw=>concat3 w' (some ⟨b102,0,none⟩) (some ⟨x78,0,none⟩) (some ⟨b22,0,none⟩) x88.1 3 32 32 8 8 ((wtx c g k A Y).length) x88.2 72 (msg c 0 g) (be (wU k) 8) (wtx c g k A Y) (sgt c g k A Y) (msg_length _ _ _) (be_length _ _) rfl rfl (sgt_length _ _ _ _ _) (by decide) (rdR (.tail _ (.head _)) w' hw) (rd_blkB (e:=95) (.tail _ (.tail _ (.tail _ (.tail _ (.tail _ (.head _)))))) w' hw) (rd_blkB (e:=107) (.tail _ (.tail _ (.head _))) w' hw) (rdR (.tail _ (.tail _ (.tail _ (.tail _ (.head _))))) w' hw)) fun (x103:Option Addr × Nat) _=>r_K<|r_W 7 rfl<|s_pure (fun w' hw=>signQ w' x103.1 x103.2 72 x (sgt c g k A Y) (hg.st hw).1 (sgt_length _ _ _ _ _) (rdR (.head _) w' hw) (by decide) hx0 hx)<|r_K<|r_y 8 rfl y_mv<|r_y 9 rfl y_ext<|r_y 10 rfl y_ext<|r_W 12 rfl<|s_sta (b:=b23) (vs:=#[I (sgR x (sgt c g k A Y):Nat),I (sgS x (sgt c g k A Y):Nat)]) (cs:=#[I 0,I 0]) (h1:=one_allA rfl) (hl:=rfl) (hs1:=rfl) ?_
        refine r_K<|r_W 13 rfl<|s_st (b:=b15) (v:=I 0) (cs:=#[I 0]) (hl:=by simp) ?_
        refine r_K<|r_E<|?_
        exact fun a' w' ha hw=>⟨rfl,b23,ha.weaken ⟨rfl,rfl,rfl,rfl,rfl,rfl,trivial⟩,(hw.sub (l':=[.blk b23 (.cells #[I (sgR x (sgt c g k A Y):Nat),I (sgS x (sgt c g k A Y):Nat)] 59 (0,0)),.blk b21 (.cells #[I (wU k:Nat),.slice x88.1 ((wtx c g k A Y).length) x88.2] 72 (0,0)),.row x88.1 x88.2 5 1 ((wtx c g k A Y).length) (bs (wtx c g k A Y)),.blk b15 (.cells #[I 0] 34 (0,0)),.blk b14 (.cells #[I 0,I 0,I 0,I 0,I 0,.slice none 0 0,.slice none 0 0] 30 (0,0)),.blk b9 (.cells #[I g] 3 (0,0)),.blk b8 (.cells #[I c.p,I c.d,I c.v,I c.l,I c.st,.slice aa c.ap.length ac,.slice va c.vt.length vc] 30 (0,0))]) (by repeat (first | exact List.nil_sublist _ | exact List.Sublist.refl _ | apply List.Sublist.cons_cons | apply List.Sublist.cons)))⟩
    · refine s_alloc fun b23=>r_K<|r_W 5 rfl<|s_bslr (cs:=[.slice (some ⟨x78,0,none⟩) 32 32,.slice (some ⟨b22,0,none⟩) 8 8,.slice x88.1 ((wtx c g k A Y).length) x88.2]) fun b102=>r_K<|r_W 6 rfl<|s_gives (fun w' hw=>concat3 w' (some ⟨b102,0,none⟩) (some ⟨x78,0,none⟩) (some ⟨b22,0,none⟩) x88.1 3 32 32 8 8 ((wtx c g k A Y).length) x88.2 72 (msg c 0 g) (be (wU k) 8) (wtx c g k A Y) (sgt c g k A Y) (msg_length _ _ _) (be_length _ _) rfl rfl (sgt_length _ _ _ _ _) (by decide) (rdR (.head _) w' hw) (rd_blkB (e:=95) (.tail _ (.tail _ (.tail _ (.tail _ (.tail _ (.head _)))))) w' hw) (rd_blkB (e:=107) (.tail _ (.tail _ (.head _))) w' hw) (rdR (.tail _ (.tail _ (.tail _ (.tail _ (.head _))))) w' hw)) fun (x103:Option Addr × Nat) _=>r_K<|r_W 7 rfl<|s_pure (fun w' hw=>signQ w' x103.1 x103.2 72 x (sgt c g k A Y) (hg.st hw).1 (sgt_length _ _ _ _ _) (rdR (.head _) w' hw) (by decide) hx0 hx)<|r_K<|r_y 8 rfl y_mv<|r_y 9 rfl y_ext<|r_y 10 rfl y_ext<|r_W 12 rfl<|s_sta (b:=b23) (vs:=#[I (sgR x (sgt c g k A Y):Nat),I (sgS x (sgt c g k A Y):Nat)]) (cs:=#[I 0,I 0]) (h1:=one_allA rfl) (hl:=rfl) (hs1:=rfl) ?_
      refine r_K<|r_W 13 rfl<|s_st (b:=b15) (v:=I 0) (cs:=#[I 0]) (hl:=by simp) ?_
      refine r_K<|r_E<|?_
      exact fun a' w' ha hw=>⟨rfl,b23,ha.weaken ⟨rfl,rfl,rfl,rfl,rfl,rfl,trivial⟩,(hw.sub (l':=[.blk b23 (.cells #[I (sgR x (sgt c g k A Y):Nat),I (sgS x (sgt c g k A Y):Nat)] 59 (0,0)),.blk b21 (.cells #[I (wU k:Nat),.slice x88.1 ((wtx c g k A Y).length) x88.2] 72 (0,0)),.row x88.1 x88.2 5 1 ((wtx c g k A Y).length) (bs (wtx c g k A Y)),.blk b15 (.cells #[I 0] 34 (0,0)),.blk b14 (.cells #[I 0,I 0,I 0,I 0,I 0,.slice none 0 0,.slice none 0 0] 30 (0,0)),.blk b9 (.cells #[I g] 3 (0,0)),.blk b8 (.cells #[I c.p,I c.d,I c.v,I c.l,I c.st,.slice aa c.ap.length ac,.slice va c.vt.length vc] 30 (0,0))]) (by repeat (first | exact List.nil_sublist _ | exact List.Sublist.refl _ | apply List.Sublist.cons_cons | apply List.Sublist.cons)))⟩
  rintro a13' w13' ⟨b23,ha13',hw13'⟩
  refine (show CP none Tryz.prog 120 [{ target:=.fn (.func 55) #[.pointer (some ⟨b15,0,none⟩)],args:=#[] }] w [] _ _ [(8,.pointer (some ⟨b8,0,none⟩)),(9,.pointer (some ⟨b9,0,none⟩)),(14,.pointer (some ⟨b14,0,none⟩)),(15,.pointer (some ⟨b15,0,none⟩)),(21,.pointer (some ⟨b21,0,none⟩)),(23,.pointer (some ⟨b23,0,none⟩))] [.blk b23 (.cells #[I (sgR x (sgt c g k A Y):Nat),I (sgS x (sgt c g k A Y):Nat)] 59 (0,0)),.blk b21 (.cells #[I (wU k:Nat),.slice x88.1 ((wtx c g k A Y).length) x88.2] 72 (0,0)),.row x88.1 x88.2 5 1 ((wtx c g k A Y).length) (bs (wtx c g k A Y)),.blk b15 (.cells #[I 0] 34 (0,0)),.blk b14 (.cells #[I 0,I 0,I 0,I 0,I 0,.slice none 0 0,.slice none 0 0] 30 (0,0)),.blk b9 (.cells #[I g] 3 (0,0)),.blk b8 (.cells #[I c.p,I c.d,I c.v,I c.l,I c.st,.slice aa c.ap.length ac,.slice va c.vt.length vc] 30 (0,0))] from ?_) a13' w13' ha13' hw13'
  clear ha13' hw13'
  refine c_seq<|c_reg<|s_y (y_ld (b:=b15) (v:=I 0))<|s_pure (fun w' hw=>try_ok w')<|s_nil<|q_then<|c_seq<|c_cut (R:=fun a' w'=>∃ (b117:Nat),∃ (c117:Nat),Fr 120 [(8,.pointer (some ⟨b8,0,none⟩)),(14,.pointer (some ⟨b14,0,none⟩)),(15,.pointer (some ⟨b15,0,none⟩))] [{ target:=.fn (.func 55) #[.pointer (some ⟨b15,0,none⟩)],args:=#[] }] a' ∧ St w [] w' [.row (some ⟨b117,0,none⟩) c117 74 5 (c.ap.length + 1) (apc (c.ap ++ [nAp c g k A Y x x88.1 x88.2])),.row x88.1 x88.2 5 1 ((wtx c g k A Y).length) (bs (wtx c g k A Y)),.blk b15 (.cells #[I 0] 34 (0,0)),.blk b14 (.cells #[I 0,I 0,I 0,I 0,I 0,.slice none 0 0,.slice none 0 0] 30 (0,0)),.blk b8 (.cells #[I c.p,I c.d,I c.v,I c.l,I c.st,.slice (some ⟨b117,0,none⟩) (c.ap.length + 1) c117,.slice va c.vt.length vc] 30 (0,0))]) ?_ ?_
  · refine c_regGB [.blk b23 (.cells #[I (sgR x (sgt c g k A Y):Nat),I (sgS x (sgt c g k A Y):Nat)] 59 (0,0)),.blk b21 (.cells #[I (wU k:Nat),.slice x88.1 ((wtx c g k A Y).length) x88.2] 72 (0,0)),.row x88.1 x88.2 5 1 ((wtx c g k A Y).length) (bs (wtx c g k A Y)),.blk b15 (.cells #[I 0] 34 (0,0)),.blk b14 (.cells #[I 0,I 0,I 0,I 0,I 0,.slice none 0 0,.slice none 0 0] 30 (0,0)),.blk b9 (.cells #[I g] 3 (0,0)),.blk b8 (.cells #[I c.p,I c.d,I c.v,I c.l,I c.st,.slice aa c.ap.length ac,.slice va c.vt.length vc] 30 (0,0))] (.cons_cons _ (.cons_cons _ (.cons_cons _ (.cons_cons _ (.cons_cons _ (.cons_cons _ (.cons_cons _ (List.nil_sublist _)))))))) 10<|f_y 0 rfl y_fa<|f_y 1 rfl (y_ld (b:=b8) (v:=.slice aa c.ap.length ac))<|f_y 3 rfl (y_ld (b:=b9) (v:=I g))<|f_y 4 rfl (y_lda (b:=b21) (cs:=#[I (wU k:Nat),.slice x88.1 ((wtx c g k A Y).length) x88.2]) (hl:=rfl))<|f_y 5 rfl (y_lda (b:=b23) (cs:=#[I (sgR x (sgt c g k A Y):Nat),I (sgS x (sgt c g k A Y):Nat)]) (hl:=rfl))<|f_y 6 rfl (y_bapr (cs:=[I g,I (wU k:Nat),.slice x88.1 ((wtx c g k A Y).length) x88.2,I (sgR x (sgt c g k A Y):Nat),I (sgS x (sgt c g k A Y):Nat)]))<|f_w2 2 7 rfl rfl ?_ ?_ (hsub:=by repeat (first | exact List.nil_sublist _ | exact List.Sublist.refl _ | apply List.Sublist.cons_cons | apply List.Sublist.cons))
    · refine s_pure (fun w' hw=>ClipA_ok w' aa c.ap.length ac hac)<|f_kkB<|f_w 7 rfl (hsub:=by repeat (first | exact List.nil_sublist _ | exact List.Sublist.refl _ | apply List.Sublist.cons_cons | apply List.Sublist.cons))<|s_bslr (cs:=[I g,I (wU k:Nat),.slice x88.1 ((wtx c g k A Y).length) x88.2,I (sgR x (sgt c g k A Y):Nat),I (sgS x (sgt c g k A Y):Nat)]) fun b116=>f_kkB<|f_w 8 rfl (hsub:=by repeat (first | exact List.nil_sublist _ | exact List.Sublist.refl _ | apply List.Sublist.cons_cons | apply List.Sublist.cons))<|s_appN (m:=1) (xs:=apc c.ap) (rdW0 hra) (fun w' hw=>Src.slice (rdR (.head _) w' hw) rfl) (hl:=apc_length _) (hud:=.inl ⟨_,rfl⟩) fun b117 c117=>?_
      rw [show apc c.ap ++ [I g,I (wU k:Nat),.slice x88.1 ((wtx c g k A Y).length) x88.2,I (sgR x (sgt c g k A Y):Nat),I (sgS x (sgt c g k A Y):Nat)] = apc (c.ap ++ [nAp c g k A Y x x88.1 x88.2]) from apc_snoc c.ap _ _ rfl]
      refine f_kkB<|f_y 9 rfl y_fa<|f_w 10 rfl (hsub:=by repeat (first | exact List.nil_sublist _ | exact List.Sublist.refl _ | apply List.Sublist.cons_cons | apply List.Sublist.cons))<|s_st (b:=b8) (v:=.slice (some ⟨b117,0,none⟩) (c.ap.length + 1) c117) (cs:=#[I c.p,I c.d,I c.v,I c.l,I c.st,.slice aa c.ap.length ac,.slice va c.vt.length vc]) (hl:=by simp) ?_
      refine f_z<|?_
      exact fun a' w' ha hw=>⟨rfl,b117,c117,ha.weaken ⟨rfl,rfl,rfl,trivial⟩,(hw.sub (l':=[.row (some ⟨b117,0,none⟩) c117 74 5 (c.ap.length + 1) (apc (c.ap ++ [nAp c g k A Y x x88.1 x88.2])),.row x88.1 x88.2 5 1 ((wtx c g k A Y).length) (bs (wtx c g k A Y)),.blk b15 (.cells #[I 0] 34 (0,0)),.blk b14 (.cells #[I 0,I 0,I 0,I 0,I 0,.slice none 0 0,.slice none 0 0] 30 (0,0)),.blk b8 (.cells #[I c.p,I c.d,I c.v,I c.l,I c.st,.slice (some ⟨b117,0,none⟩) (c.ap.length + 1) c117,.slice va c.vt.length vc] 30 (0,0))]) (by repeat (first | exact List.nil_sublist _ | exact List.Sublist.refl _ | apply List.Sublist.cons_cons | apply List.Sublist.cons)))⟩
    · refine s_bslr (cs:=[I g,I (wU k:Nat),.slice x88.1 ((wtx c g k A Y).length) x88.2,I (sgR x (sgt c g k A Y):Nat),I (sgS x (sgt c g k A Y):Nat)]) fun b116=>f_kkB<|f_w 2 rfl (hsub:=by repeat (first | exact List.nil_sublist _ | exact List.Sublist.refl _ | apply List.Sublist.cons_cons | apply List.Sublist.cons))<|s_pure (fun w' hw=>ClipA_ok w' aa c.ap.length ac hac)<|f_kkB<|f_w 8 rfl (hsub:=by repeat (first | exact List.nil_sublist _ | exact List.Sublist.refl _ | apply List.Sublist.cons_cons | apply List.Sublist.cons))<|s_appN (m:=1) (xs:=apc c.ap) (rdW0 hra) (fun w' hw=>Src.slice (rdR (.head _) w' hw) rfl) (hl:=apc_length _) (hud:=.inl ⟨_,rfl⟩) fun b117 c117=>?_
      rw [show apc c.ap ++ [I g,I (wU k:Nat),.slice x88.1 ((wtx c g k A Y).length) x88.2,I (sgR x (sgt c g k A Y):Nat),I (sgS x (sgt c g k A Y):Nat)] = apc (c.ap ++ [nAp c g k A Y x x88.1 x88.2]) from apc_snoc c.ap _ _ rfl]
      refine f_kkB<|f_y 9 rfl y_fa<|f_w 10 rfl (hsub:=by repeat (first | exact List.nil_sublist _ | exact List.Sublist.refl _ | apply List.Sublist.cons_cons | apply List.Sublist.cons))<|s_st (b:=b8) (v:=.slice (some ⟨b117,0,none⟩) (c.ap.length + 1) c117) (cs:=#[I c.p,I c.d,I c.v,I c.l,I c.st,.slice aa c.ap.length ac,.slice va c.vt.length vc]) (hl:=by simp) ?_
      refine f_z<|?_
      exact fun a' w' ha hw=>⟨rfl,b117,c117,ha.weaken ⟨rfl,rfl,rfl,trivial⟩,(hw.sub (l':=[.row (some ⟨b117,0,none⟩) c117 74 5 (c.ap.length + 1) (apc (c.ap ++ [nAp c g k A Y x x88.1 x88.2])),.row x88.1 x88.2 5 1 ((wtx c g k A Y).length) (bs (wtx c g k A Y)),.blk b15 (.cells #[I 0] 34 (0,0)),.blk b14 (.cells #[I 0,I 0,I 0,I 0,I 0,.slice none 0 0,.slice none 0 0] 30 (0,0)),.blk b8 (.cells #[I c.p,I c.d,I c.v,I c.l,I c.st,.slice (some ⟨b117,0,none⟩) (c.ap.length + 1) c117,.slice va c.vt.length vc] 30 (0,0))]) (by repeat (first | exact List.nil_sublist _ | exact List.Sublist.refl _ | apply List.Sublist.cons_cons | apply List.Sublist.cons)))⟩
  rintro a15' w15' ⟨b117,c117,ha15',hw15'⟩
  refine (show CP none Tryz.prog 120 [{ target:=.fn (.func 55) #[.pointer (some ⟨b15,0,none⟩)],args:=#[] }] w [] _ _ [(8,.pointer (some ⟨b8,0,none⟩)),(14,.pointer (some ⟨b14,0,none⟩)),(15,.pointer (some ⟨b15,0,none⟩))] [.row (some ⟨b117,0,none⟩) c117 74 5 (c.ap.length + 1) (apc (c.ap ++ [nAp c g k A Y x x88.1 x88.2])),.row x88.1 x88.2 5 1 ((wtx c g k A Y).length) (bs (wtx c g k A Y)),.blk b15 (.cells #[I 0] 34 (0,0)),.blk b14 (.cells #[I 0,I 0,I 0,I 0,I 0,.slice none 0 0,.slice none 0 0] 30 (0,0)),.blk b8 (.cells #[I c.p,I c.d,I c.v,I c.l,I c.st,.slice (some ⟨b117,0,none⟩) (c.ap.length + 1) c117,.slice va c.vt.length vc] 30 (0,0))] from ?_) a15' w15' ha15' hw15'
  clear ha15' hw15'
  refine c_seq<|c_reg<|s_y (y_lda (b:=b8) (cs:=#[I c.p,I c.d,I c.v,I c.l,I c.st,.slice (some ⟨b117,0,none⟩) (c.ap.length + 1) c117,.slice va c.vt.length vc]) (hl:=rfl))<|s_sta (b:=b14) (vs:=#[I c.p,I c.d,I c.v,I c.l,I c.st,.slice (some ⟨b117,0,none⟩) (c.ap.length + 1) c117,.slice va c.vt.length vc]) (cs:=#[I 0,I 0,I 0,I 0,I 0,.slice none 0 0,.slice none 0 0]) (h1:=one_allA rfl) (hl:=rfl) (hs1:=rfl) ?_
  refine s_st (b:=b15) (v:=I 0) (cs:=#[I 0]) (hl:=by simp) ?_
  refine s_nil<|q_then<|c_ret<|?_
  exact leave_R (cs:=[.pointer (some ⟨b15,0,none⟩)]) (fun w' hw=>rcApprove_R w' b15) Tryz.results21 (.cons (rv_ca (b:=b14) (cs:=#[I c.p,I c.d,I c.v,I c.l,I c.st,.slice (some ⟨b117,0,none⟩) (c.ap.length + 1) c117,.slice va c.vt.length vc]) (hl:=rfl)) (.cons (rv_cf (v:=I 0)) .nil)) fun w' hw=>⟨⟨some ⟨b117,0,none⟩,c117,x88.1,x88.2⟩,trivial,rfl,hw.sub (by repeat (first | exact List.nil_sublist _ | exact List.Sublist.refl _ | apply List.Sublist.cons_cons | apply List.Sublist.cons))⟩
end Go.Proofs.YtojohglifijnnaaGreatDoor
end
section
namespace Rst
open Go Eng Gf
theorem scI {x:Int}:sc x = true ↔ (0:Int) ≤ x ∧ (x:Int) ≤ 2305843009213688668:=by
  unfold sc; simp only [Bool.and_eq_true,decide_eq_true_eq]; omega
end Rst
namespace Go.Proofs.YtojohglifijnnaaGreatDoor
open Go Eng Gf Sha Sig Wr Cod Cha Rst
set_option maxRecDepth 100000
set_option linter.all false
theorem Signed_ok (w:World) (c:Cs) (aa va ba:Option Addr) (ac vc bc:Nat) (g:Int) (k:List UInt8) (A Y:Nat) (hR:R5 c) (hRg:R64 g) (hrb:Rd w ba (bs (wtx c g k A Y))):Gives Tryz.prog 33 [.agg #[I c.p,I c.d,I c.v,I c.l,I c.st,.slice aa c.ap.length ac,.slice va c.vt.length vc],I g,.agg #[I (wU k:Nat),.slice ba ((wtx c g k A Y).length) bc]] w [] (fun y:Option Addr × Nat=>.slice y.1 72 y.2) (fun y=>[.row y.1 y.2 5 1 72 (bs (sgt c g k A Y))]) (fun _=>True):=by
  have hwl:=wtx_length c g k A Y
  refine enter Tryz.func33 Tryz.ntmps33 ?_
  refine c_seq<|c_reg<|s_box rfl fun b3=>s_box rfl fun b5=>s_y y_as<|s_nil<|q_then<|c_seq<|c_regL [.blk b5 (.cells #[I (wU k:Nat),.slice ba ((wtx c g k A Y).length) bc] 72 (0,0)),.blk b3 (.cells #[I c.p,I c.d,I c.v,I c.l,I c.st,.slice aa c.ap.length ac,.slice va c.vt.length vc] 30 (0,0))]<|r_y 0 rfl (y_lda (b:=b3) (cs:=#[I c.p,I c.d,I c.v,I c.l,I c.st,.slice aa c.ap.length ac,.slice va c.vt.length vc]) (hl:=rfl))<|r_y 1 rfl y_mv<|r_y 3 rfl y_fa<|r_y 4 rfl (y_ld (b:=b5) (v:=I (wU k:Nat)))<|r_y 7 rfl y_fa<|r_y 8 rfl (y_ld (b:=b5) (v:=.slice ba ((wtx c g k A Y).length) bc))<|r_W 2 rfl<|s_gives (fun w' hw=>r39_Message_ok w' c 0 g aa va ac vc hR R64_0 hRg) fun (x9:Option Addr × Nat) _=>r_K<|r_W 5 rfl<|s_gives (fun w' hw=>r5_Bytes_ok w' (wU k) (Sig.pp63 _ _)) fun (x12:Option Addr × Nat) _=>r_K<|r_W 6 rfl<|s_app (m:=8) (srcB (q:=be (wU k) 8) (rdR (.head _)) (be_length _ _)) (h1:=fun v hv=>bs_one hv) (hm:=.tail _ (.head _)) (hrep:=fun _ _=>.tail _ (.head _)) fun a13 c13 h13=>?_
  rw [← bs_append]
  refine r_K<|r_W 9 rfl<|s_app (m:=(wtx c g k A Y).length) (srcB (q:=wtx c g k A Y) (rdW0 hrb) rfl) (h1:=fun v hv=>bs_one hv) (hm:=.tail _ (.head _)) (hrep:=fun _ _=>.tail _ (.head _)) fun a16 c16 h16=>?_
  rw [← bs_append,hwl,show msg c 0 g ++ be (wU k) 8 ++ wtx c g k A Y = sgt c g k A Y from rfl]
  refine r_K<|r_y 10 rfl y_as<|r_E<|q_then<|c_ret<|?_
  exact ret1 Tryz.results33 rv_t fun w' hw=>⟨(a16,c16),trivial,rfl,hw.sub (by repeat (first | exact List.nil_sublist _ | exact List.Sublist.refl _ | apply List.Sublist.cons_cons | apply List.Sublist.cons))⟩
end Go.Proofs.YtojohglifijnnaaGreatDoor
end
section
namespace Rst
open Go Eng Gf
/-- a valid listing -/
structure LsRt (x:Ls):Prop where
  d:0 ≤ x.d ∧ x.d < 512
  v:chk x.v = 0
  l:chk x.l = 0
  ver:1 ≤ x.ver ∧ x.ver ≤ 1048576
noncomputable def lsB (x:Ls):Bool:=@decide (LsRt x) (Classical.propDecidable _)
theorem lsB_t {x:Ls}:lsB x = true ↔ LsRt x:=@decide_eq_true_iff _ (Classical.propDecidable _)
theorem lsB_f {x:Ls}:lsB x = false ↔ ¬ LsRt x:=@decide_eq_false_iff_not _ (Classical.propDecidable _)
theorem lsB_last {x:Ls} (h1:0 ≤ x.d ∧ x.d < 512) (h2:chk x.v = 0) (h3:chk x.l = 0) (h4:1 ≤ x.ver):lsB x = decide (x.ver ≤ 1048576):=by
  by_cases h:x.ver ≤ 1048576
  · rw [decide_eq_true h]; exact lsB_t.2 ⟨h1,h2,h3,h4,h⟩
  · rw [decide_eq_false h]; exact lsB_f.2 fun h9=>h h9.ver.2
def lsL (l:List Ls) (k:Nat):Int:=if k = 0 then -1 else (l.getD (k - 1) default).d
theorem lsL_succ {l:List Ls} {k:Nat} {x:Ls} (hx:l[k]? = some x):lsL l (k + 1) = x.d:=by
  rw [lsL,if_neg (by omega),Nat.add_sub_cancel,List.getD_eq_getElem?_getD,hx]; rfl
theorem lsL_pos {l:List Ls} {k:Nat} {y:Ls} (hk:k ≠ 0) (hy:l[k - 1]? = some y):lsL l k = y.d:=by
  rw [lsL,if_neg hk,List.getD_eq_getElem?_getD,hy]; rfl
def DirOk (l:List Ls):Prop:=∀ k x,l[k]? = some x → LsRt x ∧ lsL l k < x.d
noncomputable def dirE (l:List Ls):Int:=@ite _ (DirOk l) (Classical.propDecidable _) 0 350
theorem dirE_t {l:List Ls} (h:DirOk l):dirE l = 0:=if_pos h
theorem dirE_f {l:List Ls} (h:¬ DirOk l):dirE l = 350:=if_neg h
end Rst
namespace Go.Proofs.YtojohglifijnnaaGreatDoor
open Go Eng Gf Sha Sig Wr Cod Cha Rst
set_option maxRecDepth 100000
set_option linter.all false
theorem y_blst {n:Nat} {D:List Deferred} {W:World} {Bo:List Nat} {F:List (Nat × Value)} {l:SH} {d:Option Tmp} {ty:TypeId} {ps:String} {af:Array Edge} {g:Option (Nat × Bool)} {parts:Array (Nat × Operand)} {vs:List (Nat × Value)} {cs:List Value}
    (hp:evP F parts.toList = some vs:=by rfl) (hf:fillL (fun i=>(#[(0,1),(1,1),(2,1),(3,1),(4,1)]:Array (Nat × Nat))[i]?) [I 0,I 0,I 0,I 0,.bool false] vs = some cs:=by rfl) :
    Y Tryz.prog n D W Bo ⟨d,.build 67 parts,ty,ps,af,g⟩ F l (.agg cs.toArray) :=
  y_blds Tryz.underlying67 (fun w=>by kernel_rfl) hp hf
theorem fits_ok' (w:World) (x:Ls):Pure Tryz.prog 144 [.agg #[I x.d,I x.v,I x.l,I x.ver,.bool x.gone]] w (.bool (lsB x)):=by
  refine enter Tryz.func144 Tryz.ntmps144 ?_
  refine c_seq<|c_reg<|s_box rfl fun b1=>s_y y_as<|s_nil<|q_then<|c_seq<|c_reg<|s_y y_fa<|s_y (y_ld (b:=b1) (v:=I x.d))<|s_ifd (y_leq (p:=0) (q:=x.d)) (fun h5=>?_) (fun h5=>?_)
  · refine s_y y_mv<|s_y y_fa<|s_y (y_ld (b:=b1) (v:=I x.d))<|s_ifd (y_lss (p:=x.d) (q:=512)) (fun h9=>?_) (fun h9=>?_)
    · refine s_y y_pk<|s_y y_mv<|s_y y_fa<|s_y (y_ld (b:=b1) (v:=I x.v))<|s_pure (fun w' hw=>gCheck_ok w' x.v)<|s_ifd (y_eql (p:=chk x.v) (q:=0)) (fun h15=>?_) (fun h15=>?_)
      · refine s_y y_pk<|s_y y_mv<|s_y y_fa<|s_y (y_ld (b:=b1) (v:=I x.l))<|s_pure (fun w' hw=>gCheck_ok w' x.l)<|s_ifd (y_eql (p:=chk x.l) (q:=0)) (fun h21=>?_) (fun h21=>?_)
        · refine s_y y_pk<|s_y y_mv<|s_y y_fa<|s_y (y_ld (b:=b1) (v:=I x.ver))<|s_ifd (y_leq (p:=1) (q:=x.ver)) (fun h26=>?_) (fun h26=>?_)
          · refine s_y y_pk<|s_y y_mv<|s_y y_fa<|s_y (y_ld (b:=b1) (v:=I x.ver))<|s_y (y_leq (p:=x.ver) (q:=1048576))<|s_y y_pk<|s_y y_as<|s_nil<|q_then<|c_ret<|?_
            exact ret1 Tryz.results144 rv_t fun w' hw=>⟨by rw [show lsB x = decide (x.ver ≤ 1048576) from lsB_last (by omega) (by omega) (by omega) (by omega)],hw.sub (List.nil_sublist _)⟩
          · refine s_y y_pk<|s_y y_mv<|s_no<|s_no<|s_no<|s_y y_pk<|s_y y_as<|s_nil<|q_then<|c_ret<|?_
            exact ret1 Tryz.results144 rv_t fun w' hw=>⟨by rw [show lsB x = false from lsB_f.2 fun h9=>by have h1:=h9.d; have h2:=h9.v; have h3:=h9.l; have h4:=h9.ver; omega],hw.sub (List.nil_sublist _)⟩
        · refine s_y y_pk<|s_y y_mv<|s_no<|s_no<|s_no<|s_y y_pk<|s_y y_mv<|s_no<|s_no<|s_no<|s_y y_pk<|s_y y_as<|s_nil<|q_then<|c_ret<|?_
          exact ret1 Tryz.results144 rv_t fun w' hw=>⟨by rw [show lsB x = false from lsB_f.2 fun h9=>by have h1:=h9.d; have h2:=h9.v; have h3:=h9.l; have h4:=h9.ver; omega],hw.sub (List.nil_sublist _)⟩
      · refine s_y y_pk<|s_y y_mv<|s_no<|s_no<|s_no<|s_no<|s_y y_pk<|s_y y_mv<|s_no<|s_no<|s_no<|s_y y_pk<|s_y y_mv<|s_no<|s_no<|s_no<|s_y y_pk<|s_y y_as<|s_nil<|q_then<|c_ret<|?_
        exact ret1 Tryz.results144 rv_t fun w' hw=>⟨by rw [show lsB x = false from lsB_f.2 fun h9=>by have h1:=h9.d; have h2:=h9.v; have h3:=h9.l; have h4:=h9.ver; omega],hw.sub (List.nil_sublist _)⟩
    · refine s_y y_pk<|s_y y_mv<|s_no<|s_no<|s_no<|s_no<|s_y y_pk<|s_y y_mv<|s_no<|s_no<|s_no<|s_no<|s_y y_pk<|s_y y_mv<|s_no<|s_no<|s_no<|s_y y_pk<|s_y y_mv<|s_no<|s_no<|s_no<|s_y y_pk<|s_y y_as<|s_nil<|q_then<|c_ret<|?_
      exact ret1 Tryz.results144 rv_t fun w' hw=>⟨by rw [show lsB x = false from lsB_f.2 fun h9=>by have h1:=h9.d; have h2:=h9.v; have h3:=h9.l; have h4:=h9.ver; omega],hw.sub (List.nil_sublist _)⟩
  · refine s_y y_mv<|s_no<|s_no<|s_no<|s_y y_pk<|s_y y_mv<|s_no<|s_no<|s_no<|s_no<|s_y y_pk<|s_y y_mv<|s_no<|s_no<|s_no<|s_no<|s_y y_pk<|s_y y_mv<|s_no<|s_no<|s_no<|s_y y_pk<|s_y y_mv<|s_no<|s_no<|s_no<|s_y y_pk<|s_y y_as<|s_nil<|q_then<|c_ret<|?_
    exact ret1 Tryz.results144 rv_t fun w' hw=>⟨by rw [show lsB x = false from lsB_f.2 fun h9=>by have h1:=h9.d; have h2:=h9.v; have h3:=h9.l; have h4:=h9.ver; omega],hw.sub (List.nil_sublist _)⟩
theorem fits_ok (w:World) (x:Ls):Pure Tryz.prog 144 [.agg x.cell.toArray] w (.bool (lsB x)):=fits_ok' w x
theorem dirCheck_ok (w:World) (l:List Ls) (a:Option Addr) (c:Nat) (hr:Rd w a (lsc l)) (hl:l.length ≤ 1000000):Pure Tryz.prog 75 [.slice a l.length c] w (I (dirE l)):=by
  refine enter Tryz.func75 Tryz.ntmps75 ?_
  refine c_seq<|c_reg<|s_y y_as<|s_nil<|q_then<|c_seq<|c_reg<|s_y y_as<|s_nil<|q_then<|c_seq<|c_seq<|c_reg<|s_y y_mv<|s_y y_len<|s_y y_mv<|s_nil<|q_then<|c_block<|?_
  refine c_loop (fun k:Nat=>[(3,I (lsL l k)),(6,.slice a l.length c),(7,I l.length),(8,I k)]) (fun k=>[]) (fun k=>k ≤ l.length ∧ ∀ j,j < k → ∀ x,l[j]? = some x → LsRt x ∧ lsL l j < x.d) (fun k=>l.length - k) 0 ⟨by omega,fun _ h=>by omega⟩ ⟨rfl,rfl,rfl,rfl,trivial⟩ (by repeat (first | exact List.nil_sublist _ | exact List.Sublist.refl _ | apply List.Sublist.cons_cons | apply List.Sublist.cons)) ?_
  intro k ⟨hk,hinv⟩
  refine c_seq<|c_reg<|s_y (y_lss (p:=k) (q:=l.length))<|s_nil<|q_then<|c_seq<|c_ifd (fun h9=>?_) (fun h9=>?_)
  · have hkq:k < l.length:=by omega
    obtain ⟨x,hx⟩:∃ x,l[k]? = some x:=⟨_,List.getElem?_eq_getElem hkq⟩
    refine c_skip<|q_then<|c_seq<|c_block<|c_seq<|c_reg<|s_y (y_ixs (xs:=lsc l) (i:=((k:Nat):Int)) (hr:=(rdW0 hr)) (hl:=by rw [lsc_length]; omega))<|s_y (y_ldra (i:=k * 5) (cs:=x.cell) (rdW0 hr) rfl (fun j v h=>lsc_at hx h))<|s_alloc fun b5=>s_sta (b:=b5) (vs:=#[I x.d,I x.v,I x.l,I x.ver,.bool x.gone]) (cs:=#[I 0,I 0,I 0,I 0,.bool false]) (h1:=one_allA rfl) (hl:=rfl) (hs1:=rfl) ?_
    refine s_nil<|q_then<|c_seq<|c_seq<|c_reg<|s_y (y_lda (b:=b5) (cs:=#[I x.d,I x.v,I x.l,I x.ver,.bool x.gone]) (hl:=rfl))<|?_
    by_cases h13:LsRt x
    · refine s_pure (fun w' hw=>(by have h9:=fits_ok w' x; rw [lsB_t.2 h13] at h9; exact h9))<|s_y (v:=.bool false) (y_not (b:=true))<|s_y y_mv<|s_y y_fa<|s_y (y_ld (b:=b5) (v:=I x.d))<|s_y y_mv<|s_y (y_leq (p:=x.d) (q:=(lsL l k)))<|s_y y_pk<|s_nil<|q_then<|c_ifd (fun h20=>?_) (fun h20=>?_)
      · refine c_seq<|c_reg<|s_y y_as<|s_nil<|q_then<|c_ret<|q_ret<|q_retb<|q_ret<|q_ret<|q_retb<|q_ret<|?_
        exact ret1 Tryz.results75 rv_t fun w' hw=>⟨by rw [show dirE l = 350 from dirE_f fun h9=>by have h8:=h9 k x hx; first | exact absurd h8.1 ‹_› | (have h7:=h8.2; omega) | (have h7:=h8.2; rw [lsL_pos (by omega) hy] at h7; omega)],hw.sub (List.nil_sublist _)⟩
      · refine c_skip<|q_then<|c_reg<|s_y y_fa<|s_y (y_ld (b:=b5) (v:=I x.d))<|s_y y_as<|s_nil<|q_nb<|q_then<|c_reg<|s_y (y_add (p:=k) (q:=1))<|s_y y_mv<|s_nil<|?_
        rw [← lsL_succ hx]
        refine q_round (k + 1) ⟨by omega,?_⟩ (by omega) ⟨rfl,rfl,rfl,rfl,trivial⟩ (by repeat (first | exact List.nil_sublist _ | exact List.Sublist.refl _ | apply List.Sublist.cons_cons | apply List.Sublist.cons))
        intro j hj z hz
        rcases Nat.lt_or_ge j k with h8 | h8
        · exact hinv j h8 z hz
        · obtain rfl:j = k:=by omega
          obtain rfl:z = x:=Option.some.inj (hz.symm.trans hx)
          exact ⟨‹_›,by omega⟩
    · refine s_pure (fun w' hw=>(by have h9:=fits_ok w' x; rw [lsB_f.2 h13] at h9; exact h9))<|s_y (v:=.bool true) (y_not (b:=false))<|s_y y_mv<|s_no<|s_no<|s_no<|s_no<|s_y y_pk<|s_nil<|q_then<|c_t<|c_seq<|c_reg<|s_y y_as<|s_nil<|q_then<|c_ret<|q_ret<|q_retb<|q_ret<|q_ret<|q_retb<|q_ret<|?_
      exact ret1 Tryz.results75 rv_t fun w' hw=>⟨by rw [show dirE l = 350 from dirE_f fun h9=>by have h8:=h9 k x hx; first | exact absurd h8.1 ‹_› | (have h7:=h8.2; omega) | (have h7:=h8.2; rw [lsL_pos (by omega) hy] at h7; omega)],hw.sub (List.nil_sublist _)⟩
  · refine c_exit<|q_ex<|q_ex<|q_exb<|q_then<|c_seq<|c_reg<|s_y y_as<|s_nil<|q_then<|c_ret<|?_
    exact ret1 Tryz.results75 rv_t fun w' hw=>⟨by rw [show dirE l = 0 from dirE_t fun j x hj=>hinv j (by have:=(List.getElem?_eq_some_iff.1 hj).1; omega) x hj],hw.sub (List.nil_sublist _)⟩
theorem Of_some (w:World) (l:List Ls) (n:Int) (a:Option Addr) (c:Nat) (hr:Rd w a (lsc l)) (hl:l.length ≤ 1000000) (k:Nat) (z:Ls) (hz:l[k]? = some z) (hzd:z.d = n) (hfst:∀ j x,j < k → l[j]? = some x → x.d ≠ n):Pure Tryz.prog 34 [.slice a l.length c,I n] w (.tuple #[.agg z.cell.toArray,.bool true]):=by
  refine enter Tryz.func34 Tryz.ntmps34 ?_
  refine c_seq<|c_reg<|s_alloc fun b4=>s_y y_as<|s_nil<|q_then<|c_seq<|c_seq<|c_reg<|s_y y_as<|s_nil<|q_then<|c_block<|?_
  refine c_loop (fun j:Nat=>[(0,.slice a l.length c),(1,I n),(4,.pointer (some ⟨b4,0,none⟩)),(6,I j)]) (fun j=>[.blk b4 (.cells #[I 0,I 0,I 0,I 0,.bool false] 67 (0,0))]) (fun j=>j ≤ l.length ∧ j ≤ k) (fun j=>l.length - j) 0 ⟨by omega,by omega⟩ ⟨rfl,rfl,rfl,rfl,trivial⟩ (by repeat (first | exact List.nil_sublist _ | exact List.Sublist.refl _ | apply List.Sublist.cons_cons | apply List.Sublist.cons)) ?_
  intro j ⟨hk,hjk⟩
  refine c_seq<|c_seq<|c_reg<|s_y y_mv<|s_y y_mv<|s_y y_len<|s_y (y_lss (p:=j) (q:=l.length))<|s_nil<|q_then<|c_ifd (fun h10=>?_) (fun h10=>?_)
  · have hkq:j < l.length:=by omega
    obtain ⟨x,hx⟩:∃ x,l[j]? = some x:=⟨_,List.getElem?_eq_getElem hkq⟩
    refine c_skip<|q_then<|c_seq<|c_block<|c_seq<|c_reg<|s_y y_mv<|s_y y_mv<|s_y (y_ixs (xs:=lsc l) (i:=((j:Nat):Int)) (hr:=(rdW0 hr)) (hl:=by rw [lsc_length]; omega))<|s_y y_far<|s_y (y_ldr (i:=j * 5 + 0) (xs:=lsc l) (v:=I x.d) (lsc_at (j:=0) hx rfl) (hr:=(rdW0 hr)))<|s_y y_mv<|s_y (y_eql (p:=x.d) (q:=n))<|s_nil<|q_then<|c_ifd (fun h19=>?_) (fun h19=>?_)
    · refine c_seq<|c_reg<|s_y y_mv<|s_y y_mv<|s_y (y_ixs (xs:=lsc l) (i:=((j:Nat):Int)) (hr:=(rdW0 hr)) (hl:=by rw [lsc_length]; omega))<|s_y (y_ldra (i:=j * 5) (cs:=x.cell) (rdW0 hr) rfl (fun j v h=>lsc_at hx h))<|s_sta (b:=b4) (vs:=#[I x.d,I x.v,I x.l,I x.ver,.bool x.gone]) (cs:=#[I 0,I 0,I 0,I 0,.bool false]) (h1:=one_allA rfl) (hl:=rfl) (hs1:=rfl) ?_
      refine s_y y_as<|s_nil<|q_then<|c_ret<|q_retb<|q_ret<|q_ret<|q_retb<|q_ret<|?_
      exact ret2 Tryz.results34 (rv_ca (b:=b4) (cs:=#[I x.d,I x.v,I x.l,I x.ver,.bool x.gone]) (hl:=rfl)) rv_t fun w' hw=>⟨by rw [show z = x from (by have e9:j = k:=Classical.byContradiction fun h8=>hfst j x (by omega) hx h19; subst e9; exact Option.some.inj (hz.symm.trans hx))]; rfl,hw.sub (List.nil_sublist _)⟩
    · refine c_skip<|q_nb<|q_then<|c_reg<|s_y y_mv<|s_y (y_add (p:=j) (q:=1))<|s_y y_as<|s_nil<|?_
      refine q_round (j + 1) ⟨by omega,?_⟩ (by omega) ⟨rfl,rfl,rfl,rfl,trivial⟩ (by repeat (first | exact List.nil_sublist _ | exact List.Sublist.refl _ | apply List.Sublist.cons_cons | apply List.Sublist.cons))
      refine Classical.byContradiction fun h8=>?_
      obtain rfl:j = k:=by omega
      exact h19 (by rw [← hzd,Option.some.inj (hz.symm.trans hx)])
  · exact absurd (List.getElem?_eq_some_iff.1 hz).1 (by omega)
end Go.Proofs.YtojohglifijnnaaGreatDoor
end
