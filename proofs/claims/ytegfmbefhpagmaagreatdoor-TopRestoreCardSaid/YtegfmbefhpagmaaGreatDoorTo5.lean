/- Joined texts: RsC RsR RsS ShM ShN ShO ShP ShQ ShR ShS ShT Law08 LawB08 ShU RsT EqI SigA RsQ RsU RsV RsW RsX RsY RsZ RtA. -/
import Derived.WalkKit
import Derived.TacticsInMore
import Derived.OrdersIn
import Derived.RangeFuncCalls
import Derived.Deep.LoopGhost
import Derived.Deep.Quiet
import Derived.KernelRfl
import Derived.Laws.BytesString
import Derived.Laws.StructEq
import Derived.MapKept
import Derived.Laws.IdiomStrings
import Derived.Recover
import Derived.RangeFuncLeaves
import Derived.ChangeKeysEq
import Derived.Maps.RangeRun
import Derived.Laws.Build
import Derived.Lib.Overlaps
import Derived.ProofKit
import Derived.LaidMore
import Derived.LaidHandle
import Derived.OpenShut
import Derived.FnData
import Derived.SizedLaws
import Derived.ChangeMaps5
import Derived.Deep.Slices
import Derived.JoinedOf
import Derived.SevenTiedAt
import Derived.Test.YtegfmbefhpagmaaGreatDoorChecked
import Derived.Test.YtegfmbefhpagmaaGreatDoorRows
import Derived.Test.YtegfmbefhpagmaaGreatDoorCards
import Derived.Test.YtegfmbefhpagmaaGreatDoorTie
import Derived.Test.YtegfmbefhpagmaaGreatDoorTo4
set_option linter.all false
section
namespace Go.Proofs.YtegfmbefhpagmaaGreatDoor
open Go Eng Gf Sha Sig Wr Cod Cha Rst
set_option maxRecDepth 100000
theorem y_eqniR {n:Nat} {D:List Deferred} {W:World} {Bo:List Nat} {F:List (Nat × Value)} {l:SH} {d:Option Tmp} {ty:TypeId} {ps:String} {af:Array Edge} {g:Option (Nat × Bool)} {x:Operand} {c:Value} {tb:TypeId}
    (hx:evO F x = some .nilIface:=by rfl) (hy:evO F (.const c) = some .nilIface:=by rfl):Y Tryz.prog n D W Bo ⟨d,.binOp .eql 20 x (.const c) tb,ty,ps,af,g⟩ F l (.bool true) :=
  .mk (by simp) fun a w ha _=>by
    have e1:eqGuard .eql 20 x (.const c) .nilIface .nilIface = pure ():=by simp [eqGuard]
    have e2:(binOp .eql 20 .nilIface .nilIface).run Tryz.prog w = .ok (.bool true) w:=by kernel_rfl
    have h1:=ha.eval hx
    have h2:=ha.eval hy
    simp only [execOp,h1,h2,e1,Sem.run_bind,Sem.run_pure,e2,Result.andThen_ok]
theorem y_eqnfR {n:Nat} {D:List Deferred} {W:World} {Bo:List Nat} {F:List (Nat × Value)} {l:SH} {d:Option Tmp} {ty:TypeId} {ps:String} {af:Array Edge} {g:Option (Nat × Bool)} {x y:Operand} {tb:TypeId} {T:TypeId} {v:Value}
    (hx:evO F x = some (.iface T v):=by rfl) (hy:evO F y = some .nilIface:=by rfl):Y Tryz.prog n D W Bo ⟨d,.binOp .eql 20 x y tb,ty,ps,af,g⟩ F l (.bool false) :=
  .mk (by simp) fun a w ha _=>by simp only [execOp,ha.eval hx,ha.eval hy]; kernel_rfl
theorem y_tafailR {n:Nat} {D:List Deferred} {W:World} {Bo:List Nat} {F:List (Nat × Value)} {l:SH} {d:Option Tmp} {ty:TypeId} {ps:String} {af:Array Edge} {g:Option (Nat × Bool)} {x:Operand} {v:Value}
    (hx:evO F x = some (.iface 194 v):=by rfl):Y Tryz.prog n D W Bo ⟨d,.typeAssert x 20 194 true,ty,ps,af,g⟩ F l (.tuple #[v,.bool true]) :=
  .mk (by simp) fun a w ha _=>by simp only [execOp,ha.eval hx]; kernel_rfl
theorem caught_nil (w:World) (b:Nat):Pure Tryz.prog 48 [.nilIface,.pointer (some ⟨b,0,none⟩)] w (.tuple #[]):=by
  refine enter Tryz.func48 Tryz.ntmps48 ?_
  refine c_seq<|c_reg<|s_y y_mv<|s_nil<|q_then<|c_block<|c_seq<|c_reg<|s_y y_eqniR<|s_nil<|q_then<|c_t<|c_reg<|s_y y_as<|s_nil<|q_nb<|?_
  exact ret0 Tryz.results48 (fun w' hw=>⟨rfl,hw⟩) _ (.inr rfl)
theorem caught_fail (w:World) (b:Nat) (z c:Int) (hp:(Res.blk b (.cells #[I z] 29 (0,0))).holds w) :
    Gives Tryz.prog 48 [.iface 194 (.agg #[I c]),.pointer (some ⟨b,0,none⟩)] w (keys [.blk b (.cells #[I z] 29 (0,0))]) (fun _:Unit=>.tuple #[]) (fun _=>[.blk b (.cells #[I c] 29 (0,0))]) (fun _=>True):=by
  refine enterR Tryz.func48 Tryz.ntmps48 hp ?_
  refine c_seq<|c_reg<|s_y y_mv<|s_nil<|q_then<|c_block<|c_seq<|c_reg<|s_y y_eqnfR<|s_nil<|q_then<|c_f<|c_seq<|c_reg<|s_y y_tafailR<|s_y y_ext<|s_y y_ext<|s_nil<|q_then<|c_t<|c_seq<|c_reg<|s_alloc fun b5=>s_sta (b:=b5) (vs:=#[I c]) (cs:=#[I 0]) (h1:=by intro u hu; simp at hu; subst hu; rfl) (hl:=rfl) (hs1:=rfl) ?_
  refine s_nil<|q_then<|c_reg<|s_y y_mv<|s_y y_fa<|s_y (y_ld (b:=b5) (v:=I c))<|s_y y_nc<|s_st (b:=b) (v:=I c) (cs:=#[I z]) (hl:=Nat.zero_lt_one) ?_
  refine s_nil<|q_nb<|?_
  exact ret0 Tryz.results48 (fun w' hw=>⟨(),trivial,rfl,hw.sub (.cons _ (.refl _))⟩) _ (.inr rfl)
theorem rcApprove_R (w:World) (b:Nat):GivesD Tryz.prog 47 [.pointer (some ⟨b,0,none⟩)] .returning w [] .returning [] :=
  recov (kc:=48) Tryz.func47 rfl Tryz.ntmps47 Tryz.results47 (.inl ⟨rfl,rfl,rfl⟩) ((caught_nil w b).mono fun _ _ h=>⟨(),trivial,h.1,h.2⟩)
theorem rcApprove_P (w:World) (b:Nat) (z c:Int) (hp:(Res.blk b (.cells #[I z] 29 (0,0))).holds w):GivesD Tryz.prog 47 [.pointer (some ⟨b,0,none⟩)] (.panicking [{ v:=.iface 194 (.agg #[I c]),recovered:=false }]) w (keys [.blk b (.cells #[I z] 29 (0,0))]) (.panicking [{ v:=.iface 194 (.agg #[I c]),recovered:=true }]) [.blk b (.cells #[I c] 29 (0,0))] :=
  recov (kc:=48) Tryz.func47 rfl Tryz.ntmps47 Tryz.results47 (.inr ⟨_,rfl,rfl,rfl⟩) (caught_fail w b z c hp)
theorem rcObject_R (w:World) (b:Nat):GivesD Tryz.prog 60 [.pointer (some ⟨b,0,none⟩)] .returning w [] .returning [] :=
  recov (kc:=48) Tryz.func60 rfl Tryz.ntmps60 Tryz.results60 (.inl ⟨rfl,rfl,rfl⟩) ((caught_nil w b).mono fun _ _ h=>⟨(),trivial,h.1,h.2⟩)
theorem rcState_R (w:World) (b:Nat):GivesD Tryz.prog 121 [.pointer (some ⟨b,0,none⟩)] .returning w [] .returning [] :=
  recov (kc:=48) Tryz.func121 rfl Tryz.ntmps121 Tryz.results121 (.inl ⟨rfl,rfl,rfl⟩) ((caught_nil w b).mono fun _ _ h=>⟨(),trivial,h.1,h.2⟩)
theorem rcState_P (w:World) (b:Nat) (z c:Int) (hp:(Res.blk b (.cells #[I z] 29 (0,0))).holds w):GivesD Tryz.prog 121 [.pointer (some ⟨b,0,none⟩)] (.panicking [{ v:=.iface 194 (.agg #[I c]),recovered:=false }]) w (keys [.blk b (.cells #[I z] 29 (0,0))]) (.panicking [{ v:=.iface 194 (.agg #[I c]),recovered:=true }]) [.blk b (.cells #[I c] 29 (0,0))] :=
  recov (kc:=48) Tryz.func121 rfl Tryz.ntmps121 Tryz.results121 (.inr ⟨_,rfl,rfl,rfl⟩) (caught_fail w b z c hp)
theorem rcFinish_R (w:World) (b:Nat):GivesD Tryz.prog 66 [.pointer (some ⟨b,0,none⟩)] .returning w [] .returning [] :=
  recov (kc:=48) Tryz.func66 rfl Tryz.ntmps66 Tryz.results66 (.inl ⟨rfl,rfl,rfl⟩) ((caught_nil w b).mono fun _ _ h=>⟨(),trivial,h.1,h.2⟩)
theorem rcFinish_P (w:World) (b:Nat) (z c:Int) (hp:(Res.blk b (.cells #[I z] 29 (0,0))).holds w):GivesD Tryz.prog 66 [.pointer (some ⟨b,0,none⟩)] (.panicking [{ v:=.iface 194 (.agg #[I c]),recovered:=false }]) w (keys [.blk b (.cells #[I z] 29 (0,0))]) (.panicking [{ v:=.iface 194 (.agg #[I c]),recovered:=true }]) [.blk b (.cells #[I c] 29 (0,0))] :=
  recov (kc:=48) Tryz.func66 rfl Tryz.ntmps66 Tryz.results66 (.inr ⟨_,rfl,rfl,rfl⟩) (caught_fail w b z c hp)
theorem cv8_nat (m:Nat):UInt8.ofNat ((m:Int) % 256).toNat = UInt8.ofNat m:=by
  rw [show ((m:Int) % 256).toNat = m % 256 by omega]
  apply UInt8.toNat_inj.1
  simp
theorem be8_be {n:Nat}:be8 (n:Int) = be n 8:=by
  have h1:=be8_length (n:Int)
  have h2:=be_length n 8
  refine List.ext_getElem (by rw [h1,h2]) fun i h3 h4=>?_
  have hi:i < 8:=by omega
  have e1:=be8_get (n:Int) hi
  have e2:=be_get n 8 i hi
  rw [List.getD_eq_getElem?_getD,List.getElem?_eq_getElem h3,Option.getD_some] at e1
  rw [List.getD_eq_getElem?_getD,List.getElem?_eq_getElem h4,Option.getD_some] at e2
  rw [e1,e2,show 8 * (8 - 1 - i) = 56 - 8 * i by omega,← cv8_nat (n / 2 ^ (56 - 8 * i))]
  congr 3
theorem number_ok (w:World) (m:Int):Pure Tryz.prog 55 [I m] w (.agg (bs (be8 m)).toArray):=by
  have h8:=be8_length m
  have hz8:(bs (be8 m)).toArray.size = 8:=by simp [bs_length,h8]
  refine enter Tryz.func55 Tryz.ntmps55 ?_
  refine c_seq<|c_reg<|s_alloc fun b2=>s_nil<|q_then<|c_seq<|c_seq<|c_reg<|s_y y_mv<|s_nil<|q_then<|c_block<|?_
  refine c_loop (fun i:Nat=>[(0,I m),(2,.pointer (some ⟨b2,0,none⟩)),(4,I i)]) (fun i=>[.blk b2 (.cells (bs ((be8 m).take i ++ List.replicate (8 - i) 0)).toArray 120 (0,0))]) (fun i=>i ≤ 8) (fun i=>8 - i) 0 (by omega) ⟨rfl,rfl,rfl,trivial⟩ (List.Sublist.refl _) ?_
  intro i hi
  refine c_seq<|c_reg<|s_y (y_lss (p:=i) (q:=8))<|s_nil<|q_then<|c_seq<|c_ifd (fun h10=>?_) (fun h10=>?_)
  · have hi8:i < 8:=by omega
    refine c_skip<|q_then<|c_seq<|c_block<|c_seq<|c_reg<|s_y y_mv<|s_y y_as<|s_nil<|q_then<|c_reg<|s_y y_mv<|s_y y_mv<|s_y y_mv<|s_y (y_mul (p:=8) (q:=i))<|s_y (y_sub (p:=56) (q:=8 * (i:Int)))<|?_
    rw [show (56:Int) - 8 * (i:Int) = ((56 - 8 * i:Nat):Int) by omega]
    refine s_y (y_sar (p:=m) (q:=((56 - 8 * i:Nat):Int)))<|?_
    rw [Int.toNat_natCast]
    refine s_y y_cv8<|s_y (y_ixa1 (i:=i))<|s_stb (b:=b2) (off:=0 + i) (q:=(be8 m).take i ++ List.replicate (8 - i) 0) (p:=UInt8.ofNat ((m / 2 ^ (56 - 8 * i)) % 256).toNat) (hl:=by simp [h8]; omega) ?_
    rw [Nat.zero_add i,set_fill (d:=0) (be8 m) i 8 0 _ (by omega) hi8 (be8_get m hi8)]
    refine s_nil<|q_nb<|q_then<|c_reg<|s_y (y_add (p:=i) (q:=1))<|s_y y_mv<|s_nil<|q_round (i + 1) (by omega) (by omega) ⟨rfl,rfl,rfl,trivial⟩ (List.Sublist.refl _)
  · obtain rfl:i = 8:=by omega
    rw [show (be8 m).take 8 ++ List.replicate (8 - 8) 0 = be8 m by rw [List.take_of_length_le (by omega)]; simp]
    refine c_exit<|q_ex<|q_ex<|q_exb<|q_then<|c_seq<|c_reg<|s_y (y_lda (b:=b2) (cs:=(bs (be8 m)).toArray) (hl:=hz8))<|s_sta (b:=b2) (vs:=(bs (be8 m)).toArray) (cs:=(bs (be8 m)).toArray) (h1:=fun v hv=>bs_one (by simpa using hv)) (hl:=rfl) (hs1:=hz8) ?_
    refine s_nil<|q_then<|c_ret<|?_
    exact ret1 Tryz.results55 (rv_ca (hl:=hz8)) fun w' hw=>⟨rfl,hw.sub (List.nil_sublist _)⟩
def R5 (c:Cs):Prop:=R64 c.p ∧ R64 c.d ∧ R64 c.v ∧ R64 c.l ∧ R64 c.st
theorem R5.msg {c:Cs} (h:R5 c) {role by':Int} (h1:R64 role) (h2:R64 by'):∀ n ∈ msgN c role by',R64 n:=by
  intro n hn
  simp only [msgN,List.mem_cons,List.not_mem_nil,or_false] at hn
  rcases hn with rfl | rfl | rfl | rfl | rfl | rfl | rfl
  · exact h.1
  · exact h.2.1
  · exact h.2.2.1
  · exact h.2.2.2.1
  · exact h.2.2.2.2
  · exact h1
  · exact h2
variable (w:World) (c:Cs) (role by':Int) (aa va:Option Addr) (ac vc:Nat)
theorem Message_ok (hg:LS w) (hc:R5 c) (h1:R64 role) (h2:R64 by') :
    Gives Tryz.prog 56 [.agg #[I c.p,I c.d,I c.v,I c.l,I c.st,.slice aa c.ap.length ac,.slice va c.vt.length vc],I role,I by'] w [] (fun b:Nat=>.slice (some ⟨b,0,none⟩) 32 32) (fun b=>[.blk b (.cells (bs (msg c role by')).toArray 69 (0,0))]) (fun _=>True):=by
  obtain ⟨ns,hns⟩:∃ ns,ns = msgN c role by':=⟨_,rfl⟩
  have hR:∀ n ∈ ns,R64 n:=by rw [hns]; exact hc.msg h1 h2
  have hl7:ns.length = 7:=by rw [hns]; rfl
  have hel:=iv_len hR (by omega)
  have hm:tagged lbCase (ivE ns) = msg c role by':=by rw [hns]; rfl
  refine enter Tryz.func56 Tryz.ntmps56 ?_
  refine c_seq<|c_reg<|s_box rfl fun b3=>s_y y_as<|s_nil<|q_then<|c_seq<|c_reg<|s_y y_as<|s_nil<|q_then<|c_seq<|c_seq<|c_reg<|s_y y_fa<|s_y (y_ld (b:=b3) (v:=I c.p))<|s_y y_fa<|s_y (y_ld (b:=b3) (v:=I c.d))<|s_y y_fa<|s_y (y_ld (b:=b3) (v:=I c.v))<|s_y y_fa<|s_y (y_ld (b:=b3) (v:=I c.l))<|s_y y_fa<|s_y (y_ld (b:=b3) (v:=I c.st))<|s_y y_mv<|s_y y_mv<|s_y (y_blda (cs:=is (msgN c role by')))<|?_
  rw [← hns]
  refine s_y y_mv<|s_nil<|q_then<|c_nilrow 156 4<|c_block<|?_
  refine c_loop3 (fun (k:Nat) (a':Option Addr) (c':Nat)=>[(7,.slice a' k c'),(25,.agg (is ns).toArray),(26,I k)]) (fun k a' c'=>[.row a' c' 156 4 k (fcells ((ns.take k).map vI))]) (fun k _ _=>k ≤ 7) (fun k _ _=>7 - k) 0 none 0 (by omega) ⟨rfl,rfl,rfl,trivial⟩ (.cons_cons _ (List.nil_sublist _)) ?_
  intro k a' c' hk
  refine c_seq<|c_reg<|s_y (y_lss (p:=((k:Nat):Int)) (q:=7))<|s_nil<|q_then<|c_seq<|c_ifd (fun h27=>?_) (fun h27=>?_)
  · have hk7:k < 7:=by omega
    obtain ⟨z,hz⟩:∃ z,ns[k]? = some z:=⟨_,List.getElem?_eq_getElem (by omega)⟩
    have hix:(is ns).toArray[k]? = some (I z):=by rw [List.getElem?_toArray,is,List.getElem?_map,hz]; rfl
    refine c_skip<|q_then<|c_seq<|c_block<|c_seq<|c_reg<|s_y (y_ixv (v:=I z) k hix)<|s_y y_as<|s_nil<|q_then<|c_reg<|s_y y_mv<|s_y y_mv<|s_y (y_bval (cs:=[I 1,I z,.string (sb []),.slice none 0 0]))<|s_bslr (cs:=[I 1,I z,.string (sb []),.slice none 0 0]) fun b32=>s_app (m:=1) (fun w' hw=>Src.slice (rdR (.head _) w' hw) rfl) (h1:=fun v hv=>by simp at hv; rcases hv with rfl | rfl | rfl | rfl <;> rfl) (hm:=.tail _ (.head _)) (hrep:=fun _ _=>.tail _ (.head _)) fun a33 c33 h33=>s_y y_as<|s_nil<|q_nb<|q_then<|c_reg<|s_y (y_add (p:=((k:Nat):Int)) (q:=1))<|s_y y_mv<|s_nil<|?_
    rw [show ((k:Nat):Int) + 1 = ((k + 1:Nat):Int) by omega]
    exact q_round3 (x:=k) (y:=a') (z:=c') (k + 1) a33 c33 (by omega) (by omega) ⟨rfl,rfl,rfl,trivial⟩ (by rw [iv_step hz]; exact .cons _ (.refl _))
  · obtain rfl:k = 7:=by omega
    rw [List.take_of_length_le (by omega)]
    refine c_exit<|q_ex<|q_ex<|q_exb<|q_then<|c_seq<|c_reg<|s_y y_mv<|s_y (y_bval (cs:=[I 3,I 0,.string (sb []),.slice a' 7 c']))<|s_gives (fun w' hw=>EncodeN_iv w' ns 7 a' c' hl7 hR (by omega) (rdR (.head _) w' hw)) fun x38 _=>s_y y_mv<|s_y y_ext<|s_y y_ext<|s_y y_as<|s_y y_as<|s_nil<|q_then<|c_seq<|c_reg<|s_y y_mv<|s_pure (fun w' hw=>digest_Tagged_ok w' lbCase x38.1 x38.2 (ivE ns) (hg.st hw) (by decide) (rdR (.head _) w' hw) (by omega))<|?_
    rw [hm]
    refine s_alloc fun b12=>s_sta (b:=b12) (vs:=(bs (msg c role by')).toArray) (cs:=(bs (List.replicate 32 0)).toArray) (h1:=fun v hv=>bs_one (by simpa using hv)) (hl:=((hz32 (msg_length _ _ _))).trans ((hz32 List.length_replicate)).symm) (hs1:=hz32 (msg_length _ _ _)) ?_
    refine s_nil<|q_then<|c_seq<|c_reg<|s_y y_sla<|s_y y_as<|s_nil<|q_then<|c_ret<|?_
    exact ret1 Tryz.results56 rv_t fun w' hw=>⟨b12,trivial,rfl,hw.sub (.cons_cons _ (List.nil_sublist _))⟩
end Go.Proofs.YtegfmbefhpagmaaGreatDoor
end
section
namespace Rst
open Go Eng
end Rst
namespace Go.Proofs.YtegfmbefhpagmaaGreatDoor
open Go Eng Gf Sha Sig Wr Cod Cha Rst
end Go.Proofs.YtegfmbefhpagmaaGreatDoor
end
section
namespace Rst
end Rst
namespace Go.Proofs.YtegfmbefhpagmaaGreatDoor
open Go Eng Gf Sha Sig Wr Cod Cha Rst
end Go.Proofs.YtegfmbefhpagmaaGreatDoor
end
section
namespace Gf
open Go Eng
end Gf
namespace Go.Proofs.YtegfmbefhpagmaaGreatDoor
open Go Eng Gf
end Go.Proofs.YtegfmbefhpagmaaGreatDoor
end
section
namespace Go.Proofs.YtegfmbefhpagmaaGreatDoor
open Go Eng Gf
end Go.Proofs.YtegfmbefhpagmaaGreatDoor
end
section
namespace Eng
open Go Go.RowKit
section
variable {P:Program} {n:Nat} {D:List Deferred} {W:World} {Bo:List Nat} {F:List (Nat × Value)} {l:SH}
  {d:Option Tmp} {ty:TypeId} {ps:String} {af:Array Edge} {g:Option (Nat × Bool)} {x y:Operand} {ta tb:TypeId}
end
end Eng
namespace Gf
open Go Eng
theorem Vld.take {l:List (Nat × Nat)} (hv:Vld l) {k:Nat} (h1:1 ≤ k):Vld (l.take k) where
  le:=by rw [List.length_take]; have:=hv.le; omega
  pos:=by rw [List.length_take]; have:=hv.pos; omega
  at' s hs:=hv.at' s (List.mem_of_mem_take hs)
  up:=hv.up.sublist (List.take_sublist _ _)
end Gf
end
section
namespace Gf
open Go Eng
end Gf
namespace Go.Proofs.YtegfmbefhpagmaaGreatDoor
open Go Eng Gf
end Go.Proofs.YtegfmbefhpagmaaGreatDoor
end
section
namespace Gf
open Go Eng Poly
theorem vld_okS:∀ (l:List (Nat × Nat)) (last:Nat),(∀ s ∈ l,last < s.1 ∧ s.1 ≤ 64 ∧ s.2 < 2305843009213688669) → l.Pairwise (fun s t=>s.1 < t.1) → okS (last:Int) (sN l) = true
  | [],_,_,_=>rfl
  | s :: l,last,h,hp=>by
    have h1:=h s (.head _)
    have ih:=vld_okS l s.1 (fun t ht=>⟨(List.pairwise_cons.1 hp).1 t ht,(h t (.tail _ ht)).2⟩) (List.pairwise_cons.1 hp).2
    show (decide ((last:Int) < (s.1:Int)) && (decide ((s.1:Int) ≤ 64) && (sc (s.2:Int) && okS (s.1:Int) (sN l)))) = true
    rw [ih,decide_eq_true (by omega),decide_eq_true (by omega),sc_of h1.2.2]; rfl
theorem Vld.ch {l:List (Nat × Nat)} (hv:Vld l):chS (sN l) = 0:=by
  unfold chS
  rw [if_pos ⟨by rw [sN_length]; exact hv.pos,by rw [sN_length]; exact hv.le,vld_okS l 0 (fun s hs=>by have:=hv.at' s hs; omega) hv.up⟩]
theorem Vld.sub {z x:List (Nat × Nat)} (hv:Vld x) (hz:z.Sublist x) (hp:1 ≤ z.length):Vld z where
  le:=Nat.le_trans hz.length_le hv.le
  pos:=hp
  at' s hs:=hv.at' s (hz.subset hs)
  up:=hv.up.sublist hz
theorem Vld.last {L:List (Nat × Nat)} {A y0:Nat} (hv:Vld (L ++ [(A,y0)])) {y:Nat} (hy:y < 2305843009213688669):Vld (L ++ [(A,y)]) where
  le:=by have:=hv.le; simpa using this
  pos:=by simp
  at' s hs:=by
    rcases List.mem_append.1 hs with h | h
    · exact hv.at' s (List.mem_append_left _ h)
    · rw [List.mem_singleton.1 h]
      have:=hv.at' (A,y0) (List.mem_append_right _ (.head _))
      exact ⟨this.1,this.2.1,hy⟩
  up:=by
    have h:=hv.up
    rw [List.pairwise_append] at h ⊢
    refine ⟨h.1,List.pairwise_singleton _ _,fun s hs t ht=>?_⟩
    rw [List.mem_singleton.1 ht]
    exact h.2.2 s hs (A,y0) (.head _)
def smS (a b:List (Nat × Nat)):List (Nat × Nat):=List.zipWith (fun s t=>(s.1,(s.2 + t.2) % 2305843009213688669)) a b
theorem pl_len {a b:List (Nat × Nat)} (h:pl a = pl b):a.length = b.length:=by rw [← pl_length a,h,pl_length]
theorem smS_length {a b:List (Nat × Nat)} (h:pl a = pl b):(smS a b).length = a.length:=by
  unfold smS; rw [List.length_zipWith,pl_len h,Nat.min_self]
theorem smS_cons (s t:Nat × Nat) (a b:List (Nat × Nat)):smS (s :: a) (t :: b) = (s.1,(s.2 + t.2) % 2305843009213688669) :: smS a b:=rfl
theorem smS_pl:∀ {a b:List (Nat × Nat)},pl a = pl b → pl (smS a b) = pl a
  | [],_,_=>rfl
  | s :: a,[],h=>by cases h
  | s :: a,t :: b,h=>by
    have h1:pl a = pl b:=(List.cons.inj h).2
    rw [smS_cons]
    show s.1 :: pl (smS a b) = s.1 :: pl a
    rw [smS_pl h1]
theorem Vld.sum {a b:List (Nat × Nat)} (ha:Vld a) (h:pl a = pl b):Vld (smS a b) where
  le:=by rw [smS_length h]; exact ha.le
  pos:=by rw [smS_length h]; exact ha.pos
  at' s hs:=by
    obtain ⟨i,hi,rfl⟩:=List.mem_iff_getElem.1 hs
    have hi':i < a.length:=by rw [← smS_length h]; exact hi
    have h1:=ha.at' a[i] (List.getElem_mem hi')
    simp only [smS,List.getElem_zipWith]
    exact ⟨h1.1,h1.2.1,Nat.mod_lt _ (by decide)⟩
  up:=by
    have h1:(pl (smS a b)).Pairwise (· < ·):=by rw [smS_pl h]; exact List.pairwise_map.2 ha.up
    exact List.pairwise_map.1 h1
end Gf
end
section
namespace Gf
open Go Eng
end Gf
namespace Go.Proofs.YtegfmbefhpagmaaGreatDoor
open Go Eng Gf
end Go.Proofs.YtegfmbefhpagmaaGreatDoor
end
section
namespace Gf
open Go Eng
end Gf
namespace Go.Proofs.YtegfmbefhpagmaaGreatDoor
open Go Eng Gf
end Go.Proofs.YtegfmbefhpagmaaGreatDoor
end
section
namespace Eng
open Go Go.RowKit
section
variable {r:Option Nat} {P:Program} {n:Nat} {D:List Deferred} {W:World} {Bo:List Nat} {F:List (Nat × Value)} {l l':SH}
  {dd:Nat} {ty:TypeId} {ps:String} {af:Array Edge} {g:Option (Nat × Bool)} {x y:Operand} {v:Value} {t e:TypeId}
  {Q:Exit → Act → World → Prop} {ops:Array Oper} {rest:List Oper}
end
end Eng
namespace Gf
open Go Eng
end Gf
namespace Go.Proofs.YtegfmbefhpagmaaGreatDoor
open Go Eng Gf Cod
set_option maxRecDepth 100000
section
variable (w:World) (a:Option Addr) (c n:Nat) (L:List (Nat × Nat)) (hv:Vld L) (hn:L.length = n) (hr:Rd w a (shc (sN L)))
include hv hn hr
end
end Go.Proofs.YtegfmbefhpagmaaGreatDoor
end
section
namespace Gf
open Go Eng
end Gf
namespace Go.Proofs.YtegfmbefhpagmaaGreatDoor
open Go Eng Gf Cod Sha
set_option maxRecDepth 100000
end Go.Proofs.YtegfmbefhpagmaaGreatDoor
end
section
namespace Go.Proofs.YtegfmbefhpagmaaGreatDoor
open Go Eng Gf Cod Sha
set_option maxRecDepth 100000
end Go.Proofs.YtegfmbefhpagmaaGreatDoor
end
section
namespace Gf
open Go Eng
end Gf
namespace Go.Proofs.YtegfmbefhpagmaaGreatDoor
open Go Eng Gf Cod Sha
end Go.Proofs.YtegfmbefhpagmaaGreatDoor
end
section
namespace Rst
open Go Eng Gf Go.Proofs.YtegfmbefhpagmaaGreatDoor
abbrev lbRec:List UInt8:=[114,101,99,111,118,101,114,121]
abbrev lbShs:List UInt8:=[115,104,97,114,101,115]
def opC (p:Pn) (d v l st:Int):Cs:=⟨p.id,d,v,l,st,[],[]⟩
noncomputable def stP (id:Int) (gs:List Int) (need cool:Int) (k:List UInt8):Pn:=⟨id,(pp 4 (dscal k lbRec):Nat),gs,need,cool⟩
end Rst
namespace Go.Proofs.YtegfmbefhpagmaaGreatDoor
open Go Eng Gf Sha Sig Wr Cod Cha Rst
set_option maxRecDepth 100000
theorem y_bper {n:Nat} {D:List Deferred} {W:World} {Bo:List Nat} {F:List (Nat × Value)} {l:SH} {d:Option Tmp} {ty:TypeId} {ps:String} {af:Array Edge} {g:Option (Nat × Bool)} {parts:Array (Nat × Operand)} {vs:List (Nat × Value)} {cs:List Value}
    (hp:evP F parts.toList = some vs:=by rfl) (hf:fillL (fun i=>(#[(0,1),(1,1),(2,1),(3,1),(4,1)]:Array (Nat × Nat))[i]?) [I 0,I 0,.slice none 0 0,I 0,I 0] vs = some cs:=by rfl) :
    Y Tryz.prog n D W Bo ⟨d,.build 27 parts,ty,ps,af,g⟩ F l (.agg cs.toArray) :=
  y_blds Tryz.underlying27 (fun w=>by kernel_rfl) hp hf
theorem y_bcas {n:Nat} {D:List Deferred} {W:World} {Bo:List Nat} {F:List (Nat × Value)} {l:SH} {d:Option Tmp} {ty:TypeId} {ps:String} {af:Array Edge} {g:Option (Nat × Bool)} {parts:Array (Nat × Operand)} {vs:List (Nat × Value)} {cs:List Value}
    (hp:evP F parts.toList = some vs:=by rfl) (hf:fillL (fun i=>(#[(0,1),(1,1),(2,1),(3,1),(4,1),(5,1),(6,1)]:Array (Nat × Nat))[i]?) [I 0,I 0,I 0,I 0,I 0,.slice none 0 0,.slice none 0 0] vs = some cs:=by rfl) :
    Y Tryz.prog n D W Bo ⟨d,.build 56 parts,ty,ps,af,g⟩ F l (.agg cs.toArray) :=
  y_blds Tryz.underlying56 (fun w=>by kernel_rfl) hp hf
theorem y_bapr {n:Nat} {D:List Deferred} {W:World} {Bo:List Nat} {F:List (Nat × Value)} {l:SH} {d:Option Tmp} {ty:TypeId} {ps:String} {af:Array Edge} {g:Option (Nat × Bool)} {parts:Array (Nat × Operand)} {vs:List (Nat × Value)} {cs:List Value}
    (hp:evP F parts.toList = some vs:=by rfl) (hf:fillL (fun i=>(#[(0,1),(1,2),(3,2)]:Array (Nat × Nat))[i]?) [I 0,I 0,.slice none 0 0,I 0,I 0] vs = some cs:=by rfl) :
    Y Tryz.prog n D W Bo ⟨d,.build 116 parts,ty,ps,af,g⟩ F l (.agg cs.toArray) :=
  y_blds Tryz.underlying116 (fun w=>by kernel_rfl) hp hf
theorem y_bvet {n:Nat} {D:List Deferred} {W:World} {Bo:List Nat} {F:List (Nat × Value)} {l:SH} {d:Option Tmp} {ty:TypeId} {ps:String} {af:Array Edge} {g:Option (Nat × Bool)} {parts:Array (Nat × Operand)} {vs:List (Nat × Value)} {cs:List Value}
    (hp:evP F parts.toList = some vs:=by rfl) (hf:fillL (fun i=>(#[(0,1),(1,1),(2,2)]:Array (Nat × Nat))[i]?) [I 0,I 0,I 0,I 0] vs = some cs:=by rfl) :
    Y Tryz.prog n D W Bo ⟨d,.build 130 parts,ty,ps,af,g⟩ F l (.agg cs.toArray) :=
  y_blds Tryz.underlying130 (fun w=>by kernel_rfl) hp hf
theorem Open_y (w:World) (p:Pn) (ga:Option Addr) (gc:Nat) (hrg:Rd w ga (is p.gs)) (hgs:p.gs.length ≤ 1000000000000000) (d v l st:Int) (hp:Prs p) (hb:Blg p (opC p d v l st)):Pure Tryz.prog 11 [.agg #[I p.id,I p.rk,.slice ga p.gs.length gc,I p.need,I p.cool],I d,I v,I l,I st] w (.tuple #[.agg #[I p.id,I d,I v,I l,I st,.slice none 0 0,.slice none 0 0],I 0]):=by
  refine enter Tryz.func11 Tryz.ntmps11 ?_
  refine c_seq<|c_reg<|s_box rfl fun b5=>s_alloc fun b10=>s_y y_as<|s_nil<|q_then<|c_seq<|c_seq<|c_reg<|s_y (y_lda (b:=b5) (cs:=#[I p.id,I p.rk,.slice ga p.gs.length gc,I p.need,I p.cool]) (hl:=rfl))<|s_pure (fun w' hw=>(by have h9:=valid_ok w' p ga gc (hrg.st hw) hgs; rw [prsB_t.2 hp] at h9; exact h9))<|s_y (v:=.bool false) (y_not (b:=true))<|s_nil<|q_then<|c_f<|c_skip<|q_then<|c_seq<|c_reg<|s_y y_fa<|s_y (y_ld (b:=b5) (v:=I p.id))<|s_y y_mv<|s_y y_mv<|s_y y_mv<|s_y y_mv<|s_y (y_bcas (cs:=[I p.id,I d,I v,I l,I st,.slice none 0 0,.slice none 0 0]))<|s_alloc fun b12=>s_sta (b:=b12) (vs:=#[I p.id,I d,I v,I l,I st,.slice none 0 0,.slice none 0 0]) (cs:=#[I 0,I 0,I 0,I 0,I 0,.slice none 0 0,.slice none 0 0]) (h1:=one_allA rfl) (hl:=rfl) (hs1:=rfl) ?_
  refine s_nil<|q_then<|c_seq<|c_seq<|c_reg<|s_y (y_lda (b:=b5) (cs:=#[I p.id,I p.rk,.slice ga p.gs.length gc,I p.need,I p.cool]) (hl:=rfl))<|s_y (y_lda (b:=b12) (cs:=#[I p.id,I d,I v,I l,I st,.slice none 0 0,.slice none 0 0]) (hl:=rfl))<|s_pure (fun w' hw=>(by have h9:=belongs_ok w' p (opC p d v l st) ga none none gc 0 0 hp (hrg.st hw) (Rd.nil _ _) (Rd.nil _ _) (Nat.zero_le _) (Nat.zero_le _); rw [blgB_t.2 hb] at h9; exact h9))<|s_y (v:=.bool false) (y_not (b:=true))<|s_nil<|q_then<|c_f<|c_skip<|q_then<|c_seq<|c_reg<|s_y (y_lda (b:=b12) (cs:=#[I p.id,I d,I v,I l,I st,.slice none 0 0,.slice none 0 0]) (hl:=rfl))<|s_sta (b:=b10) (vs:=#[I p.id,I d,I v,I l,I st,.slice none 0 0,.slice none 0 0]) (cs:=#[I 0,I 0,I 0,I 0,I 0,.slice none 0 0,.slice none 0 0]) (h1:=one_allA rfl) (hl:=rfl) (hs1:=rfl) ?_
  refine s_y y_as<|s_nil<|q_then<|c_ret<|?_
  exact ret2 Tryz.results11 (rv_ca (b:=b10) (cs:=#[I p.id,I d,I v,I l,I st,.slice none 0 0,.slice none 0 0]) (hl:=rfl)) rv_t fun w' hw=>⟨rfl,hw.sub (List.nil_sublist _)⟩
theorem Setup_yes (w:World) (id cool:Int) (N:Nat) (gs:List Int) (k:List UInt8) (ga:Option Addr) (gc:Nat) (hg:LS w) (hk:k.length = 32) (hrg:Rd w ga (is gs)) (hgl:gs.length ≤ 1000000) (hp:Prs (stP id gs ((N + 1:Nat):Int) cool k)):Gives Tryz.prog 4 [I id,.slice ga gs.length gc,I ((N + 1:Nat):Int),I cool,.agg (bs k).toArray] w [] (fun y:(Option Addr × Nat) × (Option Addr × Nat)=>.tuple #[.agg #[I id,I (pp 4 (dscal k lbRec):Nat),.slice y.1.1 gs.length y.1.2,I ((N + 1:Nat):Int),I cool],.slice y.2.1 gs.length y.2.2,I 0]) (fun y=>[.row y.2.1 y.2.2 62 2 gs.length (shc (sN (spl (cof (expand k lbShs []) (dscal k lbRec) N) gs.length))),.row y.1.1 y.1.2 3 1 gs.length (is gs)]) (fun _=>True):=by
  obtain ⟨r,hre⟩:∃ r,dscal k lbRec = r:=⟨_,rfl⟩
  have hrl:r < 2305843009213688669:=by rw [← hre]; exact (scal_lt _ _).2
  refine enter Tryz.func4 Tryz.ntmps4 ?_
  refine c_seq<|c_reg<|s_box rfl fun b9=>s_alloc fun b10=>s_y y_as<|s_y y_as<|s_nil<|q_then<|c_seq<|c_reg<|s_y (y_lda (b:=b9) (cs:=(bs k).toArray) (hl:=(hz32 hk)))<|s_pure (fun w' hw=>derive_Scalar_ok w' k lbRec (hg.st hw) hk (by decide))<|?_
  rw [hre]
  refine s_y y_as<|s_nil<|q_then<|c_seq<|c_reg<|s_y y_mv<|s_y y_mv<|s_gives (fun w' hw=>CloneI_ok w' ga gc gs (hrg.st hw) (by omega)) fun (x19:Option Addr × Nat) _=>s_y y_mv<|s_y y_mv<|s_y (y_bper (cs:=[I id,I 0,.slice x19.1 gs.length x19.2,I ((N + 1:Nat):Int),I cool]))<|s_alloc fun b14=>s_sta (b:=b14) (vs:=#[I id,I 0,.slice x19.1 gs.length x19.2,I ((N + 1:Nat):Int),I cool]) (cs:=#[I 0,I 0,.slice none 0 0,I 0,I 0]) (h1:=one_allA rfl) (hl:=rfl) (hs1:=rfl) ?_
  refine s_nil<|q_then<|c_seq<|c_seq<|c_reg<|s_y y_mv<|s_pure (fun w' hw=>gBase_el w' r hrl)<|s_y y_mv<|s_y y_ext<|s_y y_ext<|s_y y_fa<|s_st (b:=b14) (v:=I (pp 4 r:Nat)) (cs:=#[I id,I 0,.slice x19.1 gs.length x19.2,I ((N + 1:Nat):Int),I cool]) (hl:=by simp) ?_
  refine s_y y_as<|s_nil<|q_then<|c_seq<|c_reg<|s_y y_mv<|s_nf (y_neq (p:=0) (q:=0)) (by omega)<|s_nil<|q_then<|c_f<|c_skip<|q_then<|c_seq<|c_seq<|c_reg<|s_y (y_lda (b:=b14) (cs:=#[I id,I (pp 4 r:Nat),.slice x19.1 gs.length x19.2,I ((N + 1:Nat):Int),I cool]) (hl:=rfl))<|s_pure (fun w' hw=>(by have h9:=valid_ok w' (stP id gs ((N + 1:Nat):Int) cool k) x19.1 x19.2 (rdR (.tail _ (.head _)) w' hw) (by show gs.length ≤ _; omega); rw [prsB_t.2 hp] at h9; simp only [stP,hre] at h9; exact h9))<|s_y (v:=.bool false) (y_not (b:=true))<|s_nil<|q_then<|c_f<|c_skip<|q_then<|c_seq<|c_seq<|c_reg<|s_y y_mv<|s_y y_mv<|s_y y_mv<|s_y y_len<|s_y (y_lda (b:=b9) (cs:=(bs k).toArray) (hl:=(hz32 hk)))<|s_pure (fun w' hw=>derive_Expand_ok w' k lbShs none 0 [] (hg.st hw) hk (Rd.nil _ _) (by simp) (by decide) (by decide))<|s_gives (fun w' hw=>s_Split_yes w' r N gs.length (expand k lbShs []) (expand_length _ _ _) (hg.st hw) hrl (by have:=hp.need; simp only [stP] at this; omega) (by have:=hp.gl; simp only [stP] at this; omega)) fun (x44:Option Addr × Nat) _=>s_y y_mv<|s_y y_ext<|s_y y_ext<|s_y y_as<|s_y y_as<|s_nil<|q_then<|c_seq<|c_reg<|s_y y_mv<|s_nf (y_neq (p:=0) (q:=0)) (by omega)<|s_nil<|q_then<|c_f<|c_skip<|q_then<|c_seq<|c_reg<|s_y (y_lda (b:=b14) (cs:=#[I id,I (pp 4 r:Nat),.slice x19.1 gs.length x19.2,I ((N + 1:Nat):Int),I cool]) (hl:=rfl))<|s_y y_mv<|s_sta (b:=b10) (vs:=#[I id,I (pp 4 r:Nat),.slice x19.1 gs.length x19.2,I ((N + 1:Nat):Int),I cool]) (cs:=#[I 0,I 0,.slice none 0 0,I 0,I 0]) (h1:=one_allA rfl) (hl:=rfl) (hs1:=rfl) ?_
  refine s_y y_as<|s_y y_as<|s_nil<|q_then<|c_ret<|?_
  exact ret3 Tryz.results4 (rv_ca (b:=b10) (cs:=#[I id,I (pp 4 r:Nat),.slice x19.1 gs.length x19.2,I ((N + 1:Nat):Int),I cool]) (hl:=rfl)) rv_t rv_t fun w' hw=>⟨((x19.1,x19.2),(x44.1,x44.2)),trivial,rfl,hw.sub (by repeat (first | exact List.nil_sublist _ | exact List.Sublist.refl _ | apply List.Sublist.cons_cons | apply List.Sublist.cons))⟩
end Go.Proofs.YtegfmbefhpagmaaGreatDoor
end
section
namespace Eng
open Go Go.RowKit
section
variable {P:Program} {n:Nat} {D:List Deferred} {W:World} {Bo:List Nat} {F:List (Nat × Value)} {l:SH}
  {d:Option Tmp} {ty:TypeId} {ps:String} {af:Array Edge} {g:Option (Nat × Bool)} {x y:Operand} {ta tb e:TypeId}
theorem is_at {p:List Int} {i:Nat} (h:i < p.length):(is p).toArray[i]? = some (I p[i]):=by
  rw [List.getElem?_toArray]; simp [is,List.getElem?_eq_getElem h]
theorem eqItems_i [hf:HT P e true] {by':Nat} [hs:HS P e 1 by'] [hi:HU P e (.int .i64)] {p q:List Int} (w:World):∀ is':List Nat,(∀ i ∈ is',i < p.length ∧ i < q.length) →
    (Op.eqItems 9999 e 1 (is p).toArray (is q).toArray is').run P w = .ok (is'.all fun i=>p[i]? == q[i]?) w
  | [],_=>by simp [Op.eqItems]
  | i :: is',h=>by
    obtain ⟨h1,h2⟩:=h i (.head _)
    have e1:=is_at h1
    have e2:=is_at h2
    have e3:(Op.equalIn 9999 e (I p[i]) (I q[i])).run P w = .ok (p[i] == q[i]) w:=run_equalIn_int w 9998 e .i64 .i64 _ _ hi.h
    have e4:(p[i] == q[i]) = (p[i]? == q[i]?):=by
      rw [List.getElem?_eq_getElem h1,List.getElem?_eq_getElem h2]
      by_cases hpq:p[i] = q[i]
      · simp [hpq]
      · have h5:(p[i] == q[i]) = false:=by rw [beq_eq_false_iff_ne]; exact hpq
        have h6:(some p[i] == some q[i]) = false:=by simpa using hpq
        rw [h5,h6]
    simp only [Op.eqItems,Sem.run_bind,Nat.mul_one,run_part1 e1,run_part1 e2,Result.andThen_ok,e3,List.all_cons,← e4]
    cases p[i] == q[i] with
    | false=>simp
    | true=>simpa using eqItems_i w is' fun j hj=>h j (.tail _ hj)
theorem all_eqi {p q:List Int} {m:Nat} (hp:p.length = m) (hq:q.length = m):((List.range m).all fun i=>p[i]? == q[i]?) = decide (p = q):=by
  by_cases h:p = q
  · subst h; simp
  · rw [decide_eq_false h,List.all_eq_false]
    apply Classical.byContradiction
    intro hc
    refine h (List.ext_getElem? fun i=>?_)
    rcases Nat.lt_or_ge i m with hi | hi
    · apply Classical.byContradiction
      intro hne
      exact hc ⟨i,List.mem_range.2 hi,by simpa using hne⟩
    · rw [List.getElem?_eq_none (by omega),List.getElem?_eq_none (by omega)]
theorem run_eqi {m:Nat} [hu:HU P ta (.array m e)] [hf:HT P e true] {by':Nat} [hs:HS P e 1 by'] [hi:HU P e (.int .i64)] {p q:List Int} (hp:p.length = m) (hq:q.length = m) (w:World) :
    (Op.equalIn 10000 ta (.agg (is p).toArray) (.agg (is q).toArray)).run P w = .ok (decide (p = q)) w:=by
  obtain ⟨inf,h1,h2,h3⟩:=hs.h
  have h4:=run_equalIn_array w 9999 (is p).toArray (is q).toArray hu.h h1
  have h5:P.cellsOf e = 1:=by simp [Program.cellsOf,h1,h2]
  rw [h5,eqItems_i w (List.range m) (fun i hi=>by have:=List.mem_range.1 hi; omega),all_eqi hp hq] at h4
  exact h4
theorem y_neqi {m:Nat} [hu:HU P ta (.array m e)] [hf:HT P e true] {by':Nat} [hs:HS P e 1 by'] [hi:HU P e (.int .i64)] {p q:List Int} (hp:p.length = m) (hq:q.length = m) (hgd:P.eqGuardType P.depth ta = false)
    (hx:evO F x = some (.agg (is p).toArray):=by rfl) (hy:evO F y = some (.agg (is q).toArray):=by rfl):Y P n D W Bo ⟨d,.binOp .neq ta x y tb,ty,ps,af,g⟩ F l (.bool (!decide (p = q))) :=
  .mk (by simp) fun ac w ha _=>by
    simp only [execOp,ha.eval hx,ha.eval hy,Sem.run_bind,run_eqGuard_agg w .neq ta x y _ _ hgd,Result.andThen_ok,run_neq_struct,run_eqi hp hq,Sem.run_pure]
end
end Eng
end
section
namespace Sig
open Go Eng Sha Gf Wr Go.Proofs.YtegfmbefhpagmaaGreatDoor
def bey (ns:List Nat):List UInt8:=(ns.map fun n=>be n 8).flatten
theorem bey_one (n:Nat):bey [n] = be n 8:=by simp [bey]
theorem bey_two (m n:Nat):bey [m,n] = be m 8 ++ be n 8:=by simp [bey]
theorem bey_length:∀ ns:List Nat,(bey ns).length = 8 * ns.length
  | []=>rfl
  | n :: ns=>by
    have:=bey_length ns
    unfold bey at this ⊢
    rw [List.map_cons,List.flatten_cons,List.length_append,be_length,this,List.length_cons]; omega
theorem bey_take (ns:List Nat) (k:Nat) (h:k < ns.length):bey (ns.take (k + 1)) = bey (ns.take k) ++ be ns[k] 8:=by
  unfold bey
  rw [List.take_succ_eq_append_getElem h,List.map_append,List.flatten_append]; simp
theorem one63 {x:Nat} (h:x < 9223372036854775808):∀ n ∈ [x],n < 9223372036854775808:=fun n hn=>by rw [List.mem_singleton.1 hn]; exact h
theorem two63 {x y:Nat} (h:x < 9223372036854775808) (h2:y < 9223372036854775808):∀ n ∈ [x,y],n < 9223372036854775808:=fun n hn=>by
  rcases List.mem_cons.1 hn with rfl | hn
  · exact h
  · rw [List.mem_singleton.1 hn]; exact h2
theorem pp63 (a k:Nat):pp a k < 9223372036854775808:=Nat.lt_trans (pp_lt a k) (by decide)
theorem _root_.Gf.El.l63 {x:Nat} (h:El x):x < 9223372036854775808:=Nat.lt_trans h.lt (by decide)
theorem el_El {u:Int} (h:el u = true):∃ x:Nat,u = (x:Int) ∧ El x:=by
  obtain ⟨x,e,h0,h1,h2⟩:=el_nat h
  exact ⟨x,e,⟨h0,h1,h2⟩⟩
end Sig
namespace Go.Proofs.YtegfmbefhpagmaaGreatDoor
open Go Eng Gf Sha Sig Wr Cod Cha
set_option maxRecDepth 100000
theorem hgk3:(Tryz.prog).eqGuardType (Tryz.prog).depth 239 = false:=by kernel_rfl
theorem sValid_y (w:World) (x:Nat) (h0:1 ≤ x) (h:x < 2305843009213688669):Pure Tryz.prog 25 [I x] w (.bool true):=by
  have h9:=sValid_ok w (x:Int)
  rw [pvB_of h0 h] at h9
  exact h9
theorem sPub_y (w:World) (x:Nat) (h:x < 2305843009213688669):Pure Tryz.prog 26 [I x] w (I (pp 4 x:Nat)):=by
  refine enter Tryz.func26 Tryz.ntmps26 ?_
  refine c_seq<|c_reg<|s_y y_as<|s_nil<|q_then<|c_seq<|c_reg<|s_y y_mv<|s_pure (v:=.tuple #[I (pp 4 x:Nat),I 0]) (fun w' hw=>gBase_el w' x h)<|s_y y_mv<|s_y y_ext<|s_y y_ext<|s_y y_as<|s_y y_as<|s_nil<|q_then<|c_seq<|c_reg<|s_y y_mv<|s_y y_as<|s_nil<|q_then<|c_ret<|?_
  exact ret1 Tryz.results26 rv_t fun w' hw=>⟨rfl,hw⟩
theorem one3 {a b c:Int} {v:Value} (h:v ∈ [I a,I b,I c]):v.oneCell' = true:=by
  rcases h with _ | ⟨_,_ | ⟨_,_ | ⟨_,h⟩⟩⟩
  · rfl
  · rfl
  · rfl
  · cases h
theorem gMul_yes (w:World) (x y:Nat) (hx:El x) (hy:El y):Pure Tryz.prog 149 [I x,I y] w (.tuple #[I (x * y % 4611686018427377339:Nat),I 0]):=by
  have h:=gMul_ok w (x:Int) (y:Int)
  rw [show mulV (x:Int) (y:Int) = ((x * y % 4611686018427377339:Nat):Int) by rw [mulV,hx.el,hy.el]; simp,show mulE (x:Int) (y:Int) = 0 by rw [mulE,hx.el,hy.el]; rfl] at h
  exact h
theorem s_hash_ok (w:World) (t m:List UInt8) (a A:Option Addr) (c C:Nat) (ns:List Nat) (hg:LS w) (ht:t.length ≤ 1000) (hr:Rd w a (bs m)) (hA:Rd w A (ns.map fun n=>I ((n:Nat):Int))) (hn:∀ n ∈ ns,n < 9223372036854775808) (hnl:ns.length ≤ 2) (hl:m.length ≤ 100000000) :
    Pure Tryz.prog 90 [.string (sb t),.slice a m.length c,.slice A ns.length C] w (I (scal t (bey ns ++ m):Nat)):=by
  have hml:ns.length ≤ (ns.map fun n=>I ((n:Nat):Int)).length:=by rw [List.length_map]; exact Nat.le_refl _
  refine enter Tryz.func90 Tryz.ntmps90 ?_
  refine c_seq<|c_reg<|s_y y_as<|s_nil<|q_then<|c_seq<|c_reg<|s_y y_as<|s_nil<|q_then<|c_seq<|c_seq<|c_reg<|s_y y_mv<|s_y y_len<|s_y y_mv<|s_nil<|q_then<|c_nilrow 5 1<|c_block<|?_
  refine c_loop3 (fun (k:Nat) (b:Option Addr) (d:Nat)=>[(0,.string (sb t)),(1,.slice a m.length c),(7,.slice b (8 * k) d),(11,.slice A ns.length C),(12,I ns.length),(13,I k)]) (fun k b d=>[.row b d 5 1 (8 * k) (bs (bey (ns.take k)))]) (fun k _ _=>k ≤ ns.length) (fun k _ _=>ns.length - k) 0 none 0 (by omega) ⟨rfl,rfl,rfl,rfl,rfl,rfl,trivial⟩ (.refl _) ?_
  intro k b d hk
  by_cases hlt:k < ns.length
  · have hv:(ns.map fun n=>I ((n:Nat):Int))[k]? = some (I ((ns[k]:Nat):Int)):=by rw [List.getElem?_map,List.getElem?_eq_getElem hlt]; rfl
    have hb:=hn ns[k] (List.getElem_mem hlt)
    have hbl:=be_length ns[k] 8
    have hstep:=bey_take ns k hlt
    obtain ⟨z,hz⟩:∃ z,ns[k] = z:=⟨_,rfl⟩
    rw [hz] at hv hb hbl hstep
    refine c_seq<|c_reg<|s_kt (y_lss (p:=((k:Nat):Int)) (q:=((ns.length:Nat):Int))) (by omega)<|s_nil<|q_then<|c_seq<|c_t<|c_skip<|q_then<|c_seq<|c_block<|c_seq<|c_reg<|s_y (y_ixs1 (xs:=ns.map fun n=>I ((n:Nat):Int)) (hl:=hml))<|s_y (y_ldr (v:=I ((z:Nat):Int)) (xs:=ns.map fun n=>I ((n:Nat):Int)) (i:=(k:Int).toNat) hv)<|s_y y_as<|s_nil<|q_then<|c_seq<|c_reg<|s_y y_as<|s_nil<|q_then<|c_block<|?_
    refine c_loop3 (fun (j:Nat) (b:Option Addr) (d:Nat)=>[(0,.string (sb t)),(1,.slice a m.length c),(7,.slice b (8 * k + j) d),(9,I z),(10,I (56 - 8 * (j:Int))),(11,.slice A ns.length C),(12,I ns.length),(13,I k)]) (fun j b d=>[.row b d 5 1 (8 * k + j) (bs (bey (ns.take k) ++ (be z 8).take j))]) (fun j _ _=>j ≤ 8) (fun j _ _=>8 - j) 0 b d (by omega) ⟨rfl,rfl,rfl,rfl,rfl,rfl,rfl,rfl,trivial⟩ (by rw [List.take_zero,List.append_nil]; exact .refl _) ?_
    intro j b2 d2 hj
    by_cases h8:j < 8
    · refine c_seq<|c_seq<|c_reg<|s_y y_mv<|s_kt (y_geq (p:=56 - 8 * (j:Int)) (q:=0)) (by omega)<|s_nil<|q_then<|c_t<|c_skip<|q_then<|c_seq<|c_block<|c_reg<|s_y y_mv<|s_y y_mv<|s_y (y_cvn (k:=.u64) (p:=((z:Nat):Int)) (hw:=wrap_u64 (by omega) (by omega)))<|s_y y_mv<|?_
      rw [show (56:Int) - 8 * (j:Int) = ((56 - 8 * j:Nat):Int) by omega]
      refine s_y (y_shr (p:=z) (q:=((56 - 8 * j:Nat):Int)))<|?_
      rw [Int.toNat_natCast]
      refine s_y y_cv8<|?_
      rw [cvn8,show UInt8.ofNat (z / 2 ^ (56 - 8 * j)) = (be z 8).getD j 0 by rw [be_get z 8 j h8,show 8 * (8 - 1 - j) = 56 - 8 * j by omega]]
      refine s_bslr (cs:=bs [(be z 8).getD j 0]) fun b29=>s_app (m:=1) (srcB (q:=[(be z 8).getD j 0]) (rdR (.head _)) rfl) (h1:=fun v hv=>bs_one hv) (hm:=.tail _ (.head _)) (hrep:=fun _ _=>.tail _ (.head _)) fun a30 c30 h30=>?_
      rw [← bs_append,List.append_assoc,← Eng.take_snoc (be z 8) j 0 (by omega),show 8 * k + j + 1 = 8 * k + (j + 1) by omega]
      refine s_y y_as<|s_nil<|q_nb<|q_then<|c_reg<|s_y y_mv<|s_y (y_sub (p:=((56 - 8 * j:Nat):Int)) (q:=8))<|?_
      rw [show ((56 - 8 * j:Nat):Int) - 8 = 56 - 8 * ((j + 1:Nat):Int) by omega]
      refine s_y y_as<|s_nil<|q_round3 (x:=j) (y:=b2) (z:=d2) (j + 1) a30 c30 (by omega) (by omega) ⟨rfl,rfl,rfl,rfl,rfl,rfl,rfl,rfl,trivial⟩ (.cons _ (.refl _))
    · obtain rfl:j = 8:=by omega
      rw [List.take_of_length_le (l:=be z 8) (by omega),← hstep,show 8 * k + 8 = 8 * (k + 1) by omega]
      refine c_seq<|c_seq<|c_reg<|s_y y_mv<|s_kf (y_geq (p:=56 - 8 * ((8:Nat):Int)) (q:=0)) (by omega)<|s_nil<|q_then<|c_f<|c_exit<|q_ex<|q_ex<|q_exb<|q_nb<|q_then<|c_reg<|s_y (y_add (p:=((k:Nat):Int)) (q:=1))<|s_y y_mv<|s_nil<|?_
      rw [show ((k:Nat):Int) + 1 = ((k + 1:Nat):Int) by omega]
      exact q_round3 (x:=k) (y:=b) (z:=d) (k + 1) b2 d2 (by omega) (by omega) ⟨rfl,rfl,rfl,rfl,rfl,rfl,trivial⟩ (.refl _)
  · obtain rfl:k = ns.length:=by omega
    have hbl:=bey_length ns
    rw [List.take_length]
    refine c_seq<|c_reg<|s_kf (y_lss (p:=((ns.length:Nat):Int)) (q:=((ns.length:Nat):Int))) (by omega)<|s_nil<|q_then<|c_seq<|c_f<|c_exit<|q_ex<|q_ex<|q_exb<|q_then<|c_seq<|c_reg<|s_y y_mv<|s_y y_mv<|s_y y_mv<|s_app (m:=m.length) (srcB (q:=m) (rdW0 hr) rfl) (h1:=fun v hv=>bs_one hv) (hm:=.head _) (hrep:=fun _ _=>.head _) fun a33 c33 h33=>?_
    rw [← bs_append,show 8 * ns.length + m.length = (bey ns ++ m).length by rw [List.length_append]; omega]
    refine s_pure (fun w' hw=>group_Scalar_ok w' t a33 c33 (bey ns ++ m) (hg.st hw) (by omega) (rdR (.head _) w' hw) (by rw [List.length_append]; omega))<|s_y y_as<|s_nil<|q_then<|c_ret<|?_
    exact ret1 Tryz.results90 rv_t fun w' hw=>⟨rfl,hw.sub (List.nil_sublist _)⟩
theorem sSign_yes (w:World) (a:Option Addr) (c:Nat) (m:List UInt8) (x:Nat) (hg:LS w) (hr:Rd w a (bs m)) (hl:m.length ≤ 100000000) (hx0:1 ≤ x) (hx:x < 2305843009213688669):Pure Tryz.prog 28 [I x,.slice a m.length c] w (.tuple #[.agg #[I (sgR x m:Nat),I (sgS x m:Nat)],I 0]):=by
  refine enter Tryz.func28 Tryz.ntmps28 ?_
  refine c_seq<|c_reg<|s_alloc fun b4=>s_y y_as<|s_nil<|q_then<|c_seq<|c_reg<|s_y y_mv<|s_y y_as<|s_nil<|q_then<|c_seq<|c_reg<|s_y y_mv<|s_y y_func<|s_y y_mv<|s_y y_func<|s_y y_as<|s_y y_as<|s_nil<|q_then<|c_seq<|c_seq<|c_reg<|s_y y_mv<|s_pure (fun w' hw=>sValid_y w' x hx0 hx)<|s_y (v:=.bool false) (y_not (b:=true))<|s_nil<|q_then<|c_f<|c_skip<|q_then<|c_seq<|c_reg<|s_y y_mv<|s_y y_mv<|s_bslr (cs:=[I x]) fun b23=>s_pure (fun w' hw=>s_hash_ok w' tNonce m a (some ⟨b23,0,none⟩) c 1 [x] (hg.st hw) (by decide) (hr.st hw) (rdR (.head _) w' hw) (one63 (by omega)) (by simp) hl)<|?_
  rw [bey_one,show scal tNonce (be x 8 ++ m) = nonce x m from rfl]
  refine s_y y_as<|s_nil<|q_then<|c_seq<|c_reg<|s_y y_mv<|s_pure (fun w' hw=>gBase_el w' (nonce x m) (nonce_lt _ _))<|?_
  rw [show pp 4 (nonce x m) = sgR x m from rfl]
  refine s_y y_mv<|s_y y_ext<|s_y y_ext<|s_y y_fa<|s_st (b:=b4) (v:=I (sgR x m:Nat)) (cs:=#[I 0,I 0]) (hl:=by simp) ?_
  refine s_nil<|q_then<|c_seq<|c_regL [.row (some ⟨b23,0,none⟩) 1 3 1 1 [I x],.blk b4 (.cells #[I (sgR x m:Nat),I 0] 43 (0,0))]<|r_y 0 rfl y_mv<|r_y 1 rfl y_fa<|r_y 2 rfl (y_ld (b:=b4) (v:=I (sgR x m:Nat)))<|r_y 3 rfl y_mv<|r_y 7 rfl y_mv<|r_W 4 rfl<|s_pure (fun w' hw=>sPub_y w' x hx)<|r_K<|r_W 5 rfl<|s_bslr (cs:=[I (sgR x m:Nat),I (pp 4 x:Nat)]) fun b37=>r_K<|r_W 6 rfl<|s_pure (fun w' hw=>s_hash_ok w' tSign m a (some ⟨b37,0,none⟩) c 2 [sgR x m,pp 4 x] (hg.st hw) (by decide) (hr.st hw) (rdR (.head _) w' hw) (two63 (Sig.pp63 _ _) (Sig.pp63 _ _)) (by simp) hl)<|?_
  rw [bey_two,show scal tSign (be (sgR x m) 8 ++ be (pp 4 x) 8 ++ m) = chal (sgR x m) (pp 4 x) m from rfl]
  refine r_K<|r_W 8 rfl<|s_pure (fun w' hw=>f_Mul_yes w' (chal (sgR x m) (pp 4 x) m) x (chal_lt _ _ _) hx)<|r_K<|r_y 9 rfl y_mv<|r_y 10 rfl y_ext<|r_y 11 rfl y_ext<|r_y 12 rfl y_as<|r_y 13 rfl y_as<|r_E<|q_then<|c_seq<|c_reg<|s_y y_mv<|s_y y_mv<|s_pure (fun w' hw=>f_Add_yes w' (nonce x m) ((chal (sgR x m) (pp 4 x) m) * x % 2305843009213688669) (nonce_lt _ _) (Nat.mod_lt _ (by decide)))<|?_
  rw [show (nonce x m + (chal (sgR x m) (pp 4 x) m) * x % 2305843009213688669) % 2305843009213688669 = sgS x m from rfl]
  refine s_y y_mv<|s_y y_ext<|s_y y_ext<|s_y y_fa<|s_st (b:=b4) (v:=I (sgS x m:Nat)) (cs:=#[I (sgR x m:Nat),I 0]) (hl:=by simp) ?_
  refine s_y y_as<|s_nil<|q_then<|c_seq<|c_reg<|s_y (y_lda (b:=b4) (cs:=#[I (sgR x m:Nat),I (sgS x m:Nat)]) (hl:=rfl))<|s_y y_mv<|s_sta (b:=b4) (vs:=#[I (sgR x m:Nat),I (sgS x m:Nat)]) (cs:=#[I (sgR x m:Nat),I (sgS x m:Nat)]) (h1:=by intro u hu; simp at hu; rcases hu with rfl | rfl <;> rfl) (hl:=rfl) (hs1:=rfl) ?_
  refine s_y y_as<|s_nil<|q_then<|c_ret<|?_
  exact ret2 Tryz.results28 (rv_ca (b:=b4) (cs:=#[I (sgR x m:Nat),I (sgS x m:Nat)]) (hl:=rfl)) rv_t fun w' hw=>⟨rfl,hw.sub (List.nil_sublist _)⟩
theorem sVerify_bad (w:World) (a:Option Addr) (c:Nat) (m:List UInt8) (p r s:Int) (hr:Rd w a (bs m)) (hl:m.length ≤ 100000000) (hz:¬ [chk p,chk r,bif sc s then 0 else 1] = [0,0,0]):Pure Tryz.prog 99 [I p,.slice a m.length c,.agg #[I r,I s]] w (.bool false):=by
  refine enter Tryz.func99 Tryz.ntmps99 ?_
  refine c_seq<|c_reg<|s_box rfl fun b5=>s_y y_as<|s_nil<|q_then<|c_seq<|c_regL [.blk b5 (.cells #[I r,I s] 43 (0,0))]<|r_y 0 rfl y_mv<|r_y 2 rfl y_fa<|r_y 3 rfl (y_ld (b:=b5) (v:=I r))<|r_y 5 rfl y_fa<|r_y 6 rfl (y_ld (b:=b5) (v:=I s))<|r_w2 1 9 rfl rfl ?_ ?_ (hsub:=by repeat (first | exact List.nil_sublist _ | exact List.Sublist.refl _ | apply List.Sublist.cons_cons | apply List.Sublist.cons))
  · refine s_pure (fun w' hw=>gCheck_ok w' p)<|r_K<|r_w2 4 9 rfl rfl ?_ ?_ (hsub:=by repeat (first | exact List.nil_sublist _ | exact List.Sublist.refl _ | apply List.Sublist.cons_cons | apply List.Sublist.cons))
    · refine s_pure (fun w' hw=>gCheck_ok w' r)<|r_K<|r_w2 7 9 rfl rfl ?_ ?_ (hsub:=by repeat (first | exact List.nil_sublist _ | exact List.Sublist.refl _ | apply List.Sublist.cons_cons | apply List.Sublist.cons))
      · refine s_pure (fun w' hw=>f_Check_ok w' s)<|r_K<|r_y 8 rfl (y_blda (cs:=[I (chk p),I (chk r),I (bif sc s then 0 else 1)]))<|r_W 9 rfl<|s_alloc fun b7=>r_K<|r_W 10 rfl<|s_sta (b:=b7) (vs:=#[I (chk p),I (chk r),I (bif sc s then 0 else 1)]) (cs:=#[I 0,I 0,I 0]) (h1:=fun v hv=>one3 hv) (hl:=(rfl:(3:Nat) = 3)) (hs1:=(rfl:(3:Nat) = 3)) ?_
        refine r_K<|r_E<|q_then<|c_seq<|c_seq<|c_reg<|s_y (y_lda (b:=b7) (cs:=#[I (chk p),I (chk r),I (bif sc s then 0 else 1)]) (hl:=rfl))<|s_y (y_blda (cs:=[I 0,I 0,I 0]))<|s_nt (y_neqi (m:=3) (p:=[chk p,chk r,bif sc s then 0 else 1]) (q:=[0,0,0]) rfl rfl hgk3) hz<|s_nil<|q_then<|c_t<|c_seq<|c_reg<|s_y y_as<|s_nil<|q_then<|c_ret<|q_ret<|?_
        exact ret1 Tryz.results99 rv_t fun w' hw=>⟨rfl,hw.sub (List.nil_sublist _)⟩
      · refine s_alloc fun b7=>r_K<|r_W 7 rfl<|s_pure (fun w' hw=>f_Check_ok w' s)<|r_K<|r_y 8 rfl (y_blda (cs:=[I (chk p),I (chk r),I (bif sc s then 0 else 1)]))<|r_W 10 rfl<|s_sta (b:=b7) (vs:=#[I (chk p),I (chk r),I (bif sc s then 0 else 1)]) (cs:=#[I 0,I 0,I 0]) (h1:=fun v hv=>one3 hv) (hl:=(rfl:(3:Nat) = 3)) (hs1:=(rfl:(3:Nat) = 3)) ?_
        refine r_K<|r_E<|q_then<|c_seq<|c_seq<|c_reg<|s_y (y_lda (b:=b7) (cs:=#[I (chk p),I (chk r),I (bif sc s then 0 else 1)]) (hl:=rfl))<|s_y (y_blda (cs:=[I 0,I 0,I 0]))<|s_nt (y_neqi (m:=3) (p:=[chk p,chk r,bif sc s then 0 else 1]) (q:=[0,0,0]) rfl rfl hgk3) hz<|s_nil<|q_then<|c_t<|c_seq<|c_reg<|s_y y_as<|s_nil<|q_then<|c_ret<|q_ret<|?_
        exact ret1 Tryz.results99 rv_t fun w' hw=>⟨rfl,hw.sub (List.nil_sublist _)⟩
    · refine s_alloc fun b7=>r_K<|r_W 4 rfl<|s_pure (fun w' hw=>gCheck_ok w' r)<|r_K<|r_W 7 rfl<|s_pure (fun w' hw=>f_Check_ok w' s)<|r_K<|r_y 8 rfl (y_blda (cs:=[I (chk p),I (chk r),I (bif sc s then 0 else 1)]))<|r_W 10 rfl<|s_sta (b:=b7) (vs:=#[I (chk p),I (chk r),I (bif sc s then 0 else 1)]) (cs:=#[I 0,I 0,I 0]) (h1:=fun v hv=>one3 hv) (hl:=(rfl:(3:Nat) = 3)) (hs1:=(rfl:(3:Nat) = 3)) ?_
      refine r_K<|r_E<|q_then<|c_seq<|c_seq<|c_reg<|s_y (y_lda (b:=b7) (cs:=#[I (chk p),I (chk r),I (bif sc s then 0 else 1)]) (hl:=rfl))<|s_y (y_blda (cs:=[I 0,I 0,I 0]))<|s_nt (y_neqi (m:=3) (p:=[chk p,chk r,bif sc s then 0 else 1]) (q:=[0,0,0]) rfl rfl hgk3) hz<|s_nil<|q_then<|c_t<|c_seq<|c_reg<|s_y y_as<|s_nil<|q_then<|c_ret<|q_ret<|?_
      exact ret1 Tryz.results99 rv_t fun w' hw=>⟨rfl,hw.sub (List.nil_sublist _)⟩
  · refine s_alloc fun b7=>r_K<|r_W 1 rfl<|s_pure (fun w' hw=>gCheck_ok w' p)<|r_K<|r_W 4 rfl<|s_pure (fun w' hw=>gCheck_ok w' r)<|r_K<|r_W 7 rfl<|s_pure (fun w' hw=>f_Check_ok w' s)<|r_K<|r_y 8 rfl (y_blda (cs:=[I (chk p),I (chk r),I (bif sc s then 0 else 1)]))<|r_W 10 rfl<|s_sta (b:=b7) (vs:=#[I (chk p),I (chk r),I (bif sc s then 0 else 1)]) (cs:=#[I 0,I 0,I 0]) (h1:=fun v hv=>one3 hv) (hl:=(rfl:(3:Nat) = 3)) (hs1:=(rfl:(3:Nat) = 3)) ?_
    refine r_K<|r_E<|q_then<|c_seq<|c_seq<|c_reg<|s_y (y_lda (b:=b7) (cs:=#[I (chk p),I (chk r),I (bif sc s then 0 else 1)]) (hl:=rfl))<|s_y (y_blda (cs:=[I 0,I 0,I 0]))<|s_nt (y_neqi (m:=3) (p:=[chk p,chk r,bif sc s then 0 else 1]) (q:=[0,0,0]) rfl rfl hgk3) hz<|s_nil<|q_then<|c_t<|c_seq<|c_reg<|s_y y_as<|s_nil<|q_then<|c_ret<|q_ret<|?_
    exact ret1 Tryz.results99 rv_t fun w' hw=>⟨rfl,hw.sub (List.nil_sublist _)⟩
theorem sVerify_good (w:World) (a:Option Addr) (c:Nat) (m:List UInt8) (p r s:Nat) (hg:LS w) (hr:Rd w a (bs m)) (hl:m.length ≤ 100000000) (hep:El p) (her:El r) (hs:s < 2305843009213688669):Pure Tryz.prog 99 [I p,.slice a m.length c,.agg #[I r,I s]] w (.bool (decide (pp 4 s = r * pp p (chal r p m) % 4611686018427377339))):=by
  have hz:[chk p,chk r,bif sc s then 0 else 1] = [0,0,0]:=by rw [chk,hep.el,chk,her.el,sc_of hs]; rfl
  refine enter Tryz.func99 Tryz.ntmps99 ?_
  refine c_seq<|c_reg<|s_box rfl fun b5=>s_y y_as<|s_nil<|q_then<|c_seq<|c_regL [.blk b5 (.cells #[I r,I s] 43 (0,0))]<|r_y 0 rfl y_mv<|r_y 2 rfl y_fa<|r_y 3 rfl (y_ld (b:=b5) (v:=I r))<|r_y 5 rfl y_fa<|r_y 6 rfl (y_ld (b:=b5) (v:=I s))<|r_w2 1 9 rfl rfl ?_ ?_ (hsub:=by repeat (first | exact List.nil_sublist _ | exact List.Sublist.refl _ | apply List.Sublist.cons_cons | apply List.Sublist.cons))
  · refine s_pure (fun w' hw=>gCheck_ok w' p)<|r_K<|r_w2 4 9 rfl rfl ?_ ?_ (hsub:=by repeat (first | exact List.nil_sublist _ | exact List.Sublist.refl _ | apply List.Sublist.cons_cons | apply List.Sublist.cons))
    · refine s_pure (fun w' hw=>gCheck_ok w' r)<|r_K<|r_w2 7 9 rfl rfl ?_ ?_ (hsub:=by repeat (first | exact List.nil_sublist _ | exact List.Sublist.refl _ | apply List.Sublist.cons_cons | apply List.Sublist.cons))
      · refine s_pure (fun w' hw=>f_Check_ok w' s)<|r_K<|r_y 8 rfl (y_blda (cs:=[I (chk p),I (chk r),I (bif sc s then 0 else 1)]))<|r_W 9 rfl<|s_alloc fun b7=>r_K<|r_W 10 rfl<|s_sta (b:=b7) (vs:=#[I (chk p),I (chk r),I (bif sc s then 0 else 1)]) (cs:=#[I 0,I 0,I 0]) (h1:=fun v hv=>one3 hv) (hl:=(rfl:(3:Nat) = 3)) (hs1:=(rfl:(3:Nat) = 3)) ?_
        refine r_K<|r_E<|q_then<|c_seq<|c_seq<|c_reg<|s_y (y_lda (b:=b7) (cs:=#[I (chk p),I (chk r),I (bif sc s then 0 else 1)]) (hl:=rfl))<|s_y (y_blda (cs:=[I 0,I 0,I 0]))<|s_nf (y_neqi (m:=3) (p:=[chk p,chk r,bif sc s then 0 else 1]) (q:=[0,0,0]) rfl rfl hgk3) hz<|s_nil<|q_then<|c_f<|c_skip<|q_then<|c_seq<|c_reg<|s_y y_fa<|s_y (y_ld (b:=b5) (v:=I s))<|s_pure (fun w' hw=>gBase_el w' s hs)<|s_y y_mv<|s_y y_ext<|s_y y_ext<|s_y y_as<|s_y y_as<|s_nil<|q_then<|c_seq<|c_reg<|s_y y_mv<|s_y y_mv<|s_y y_fa<|s_y (y_ld (b:=b5) (v:=I r))<|s_y y_mv<|s_bslr (cs:=[I r,I p]) fun b38=>s_pure (fun w' hw=>s_hash_ok w' tSign m a (some ⟨b38,0,none⟩) c 2 [r,p] (hg.st hw) (by decide) (hr.st hw) (rdR (.head _) w' hw) (two63 (Gf.El.l63 her) (Gf.El.l63 hep)) (by simp) hl)<|?_
        rw [bey_two,show scal tSign (be r 8 ++ be p 8 ++ m) = chal r p m from rfl]
        refine s_pure (fun w' hw=>gExp_yes w' p (chal r p m) hep (chal_lt _ _ _))<|s_y y_mv<|s_y y_ext<|s_y y_ext<|s_y y_as<|s_y y_as<|s_nil<|q_then<|c_seq<|c_reg<|s_y y_fa<|s_y (y_ld (b:=b5) (v:=I r))<|s_y y_mv<|s_pure (fun w' hw=>gMul_yes w' r (pp p (chal r p m)) her (hep.pow _))<|s_y y_mv<|s_y y_ext<|s_y y_ext<|s_y y_as<|s_y y_as<|s_nil<|q_then<|c_seq<|c_reg<|s_y y_mv<|s_y y_mv<|s_y (y_eql (p:=((pp 4 s:Nat):Int)) (q:=((r * pp p (chal r p m) % 4611686018427377339:Nat):Int)))<|?_
        rw [show decide (((pp 4 s:Nat):Int) = ((r * pp p (chal r p m) % 4611686018427377339:Nat):Int)) = decide (pp 4 s = r * pp p (chal r p m) % 4611686018427377339) by rw [decide_eq_decide]; omega]
        refine s_y y_as<|s_nil<|q_then<|c_ret<|?_
        exact ret1 Tryz.results99 rv_t fun w' hw=>⟨rfl,hw.sub (List.nil_sublist _)⟩
      · refine s_alloc fun b7=>r_K<|r_W 7 rfl<|s_pure (fun w' hw=>f_Check_ok w' s)<|r_K<|r_y 8 rfl (y_blda (cs:=[I (chk p),I (chk r),I (bif sc s then 0 else 1)]))<|r_W 10 rfl<|s_sta (b:=b7) (vs:=#[I (chk p),I (chk r),I (bif sc s then 0 else 1)]) (cs:=#[I 0,I 0,I 0]) (h1:=fun v hv=>one3 hv) (hl:=(rfl:(3:Nat) = 3)) (hs1:=(rfl:(3:Nat) = 3)) ?_
        refine r_K<|r_E<|q_then<|c_seq<|c_seq<|c_reg<|s_y (y_lda (b:=b7) (cs:=#[I (chk p),I (chk r),I (bif sc s then 0 else 1)]) (hl:=rfl))<|s_y (y_blda (cs:=[I 0,I 0,I 0]))<|s_nf (y_neqi (m:=3) (p:=[chk p,chk r,bif sc s then 0 else 1]) (q:=[0,0,0]) rfl rfl hgk3) hz<|s_nil<|q_then<|c_f<|c_skip<|q_then<|c_seq<|c_reg<|s_y y_fa<|s_y (y_ld (b:=b5) (v:=I s))<|s_pure (fun w' hw=>gBase_el w' s hs)<|s_y y_mv<|s_y y_ext<|s_y y_ext<|s_y y_as<|s_y y_as<|s_nil<|q_then<|c_seq<|c_reg<|s_y y_mv<|s_y y_mv<|s_y y_fa<|s_y (y_ld (b:=b5) (v:=I r))<|s_y y_mv<|s_bslr (cs:=[I r,I p]) fun b38=>s_pure (fun w' hw=>s_hash_ok w' tSign m a (some ⟨b38,0,none⟩) c 2 [r,p] (hg.st hw) (by decide) (hr.st hw) (rdR (.head _) w' hw) (two63 (Gf.El.l63 her) (Gf.El.l63 hep)) (by simp) hl)<|?_
        rw [bey_two,show scal tSign (be r 8 ++ be p 8 ++ m) = chal r p m from rfl]
        refine s_pure (fun w' hw=>gExp_yes w' p (chal r p m) hep (chal_lt _ _ _))<|s_y y_mv<|s_y y_ext<|s_y y_ext<|s_y y_as<|s_y y_as<|s_nil<|q_then<|c_seq<|c_reg<|s_y y_fa<|s_y (y_ld (b:=b5) (v:=I r))<|s_y y_mv<|s_pure (fun w' hw=>gMul_yes w' r (pp p (chal r p m)) her (hep.pow _))<|s_y y_mv<|s_y y_ext<|s_y y_ext<|s_y y_as<|s_y y_as<|s_nil<|q_then<|c_seq<|c_reg<|s_y y_mv<|s_y y_mv<|s_y (y_eql (p:=((pp 4 s:Nat):Int)) (q:=((r * pp p (chal r p m) % 4611686018427377339:Nat):Int)))<|?_
        rw [show decide (((pp 4 s:Nat):Int) = ((r * pp p (chal r p m) % 4611686018427377339:Nat):Int)) = decide (pp 4 s = r * pp p (chal r p m) % 4611686018427377339) by rw [decide_eq_decide]; omega]
        refine s_y y_as<|s_nil<|q_then<|c_ret<|?_
        exact ret1 Tryz.results99 rv_t fun w' hw=>⟨rfl,hw.sub (List.nil_sublist _)⟩
    · refine s_alloc fun b7=>r_K<|r_W 4 rfl<|s_pure (fun w' hw=>gCheck_ok w' r)<|r_K<|r_W 7 rfl<|s_pure (fun w' hw=>f_Check_ok w' s)<|r_K<|r_y 8 rfl (y_blda (cs:=[I (chk p),I (chk r),I (bif sc s then 0 else 1)]))<|r_W 10 rfl<|s_sta (b:=b7) (vs:=#[I (chk p),I (chk r),I (bif sc s then 0 else 1)]) (cs:=#[I 0,I 0,I 0]) (h1:=fun v hv=>one3 hv) (hl:=(rfl:(3:Nat) = 3)) (hs1:=(rfl:(3:Nat) = 3)) ?_
      refine r_K<|r_E<|q_then<|c_seq<|c_seq<|c_reg<|s_y (y_lda (b:=b7) (cs:=#[I (chk p),I (chk r),I (bif sc s then 0 else 1)]) (hl:=rfl))<|s_y (y_blda (cs:=[I 0,I 0,I 0]))<|s_nf (y_neqi (m:=3) (p:=[chk p,chk r,bif sc s then 0 else 1]) (q:=[0,0,0]) rfl rfl hgk3) hz<|s_nil<|q_then<|c_f<|c_skip<|q_then<|c_seq<|c_reg<|s_y y_fa<|s_y (y_ld (b:=b5) (v:=I s))<|s_pure (fun w' hw=>gBase_el w' s hs)<|s_y y_mv<|s_y y_ext<|s_y y_ext<|s_y y_as<|s_y y_as<|s_nil<|q_then<|c_seq<|c_reg<|s_y y_mv<|s_y y_mv<|s_y y_fa<|s_y (y_ld (b:=b5) (v:=I r))<|s_y y_mv<|s_bslr (cs:=[I r,I p]) fun b38=>s_pure (fun w' hw=>s_hash_ok w' tSign m a (some ⟨b38,0,none⟩) c 2 [r,p] (hg.st hw) (by decide) (hr.st hw) (rdR (.head _) w' hw) (two63 (Gf.El.l63 her) (Gf.El.l63 hep)) (by simp) hl)<|?_
      rw [bey_two,show scal tSign (be r 8 ++ be p 8 ++ m) = chal r p m from rfl]
      refine s_pure (fun w' hw=>gExp_yes w' p (chal r p m) hep (chal_lt _ _ _))<|s_y y_mv<|s_y y_ext<|s_y y_ext<|s_y y_as<|s_y y_as<|s_nil<|q_then<|c_seq<|c_reg<|s_y y_fa<|s_y (y_ld (b:=b5) (v:=I r))<|s_y y_mv<|s_pure (fun w' hw=>gMul_yes w' r (pp p (chal r p m)) her (hep.pow _))<|s_y y_mv<|s_y y_ext<|s_y y_ext<|s_y y_as<|s_y y_as<|s_nil<|q_then<|c_seq<|c_reg<|s_y y_mv<|s_y y_mv<|s_y (y_eql (p:=((pp 4 s:Nat):Int)) (q:=((r * pp p (chal r p m) % 4611686018427377339:Nat):Int)))<|?_
      rw [show decide (((pp 4 s:Nat):Int) = ((r * pp p (chal r p m) % 4611686018427377339:Nat):Int)) = decide (pp 4 s = r * pp p (chal r p m) % 4611686018427377339) by rw [decide_eq_decide]; omega]
      refine s_y y_as<|s_nil<|q_then<|c_ret<|?_
      exact ret1 Tryz.results99 rv_t fun w' hw=>⟨rfl,hw.sub (List.nil_sublist _)⟩
  · refine s_alloc fun b7=>r_K<|r_W 1 rfl<|s_pure (fun w' hw=>gCheck_ok w' p)<|r_K<|r_W 4 rfl<|s_pure (fun w' hw=>gCheck_ok w' r)<|r_K<|r_W 7 rfl<|s_pure (fun w' hw=>f_Check_ok w' s)<|r_K<|r_y 8 rfl (y_blda (cs:=[I (chk p),I (chk r),I (bif sc s then 0 else 1)]))<|r_W 10 rfl<|s_sta (b:=b7) (vs:=#[I (chk p),I (chk r),I (bif sc s then 0 else 1)]) (cs:=#[I 0,I 0,I 0]) (h1:=fun v hv=>one3 hv) (hl:=(rfl:(3:Nat) = 3)) (hs1:=(rfl:(3:Nat) = 3)) ?_
    refine r_K<|r_E<|q_then<|c_seq<|c_seq<|c_reg<|s_y (y_lda (b:=b7) (cs:=#[I (chk p),I (chk r),I (bif sc s then 0 else 1)]) (hl:=rfl))<|s_y (y_blda (cs:=[I 0,I 0,I 0]))<|s_nf (y_neqi (m:=3) (p:=[chk p,chk r,bif sc s then 0 else 1]) (q:=[0,0,0]) rfl rfl hgk3) hz<|s_nil<|q_then<|c_f<|c_skip<|q_then<|c_seq<|c_reg<|s_y y_fa<|s_y (y_ld (b:=b5) (v:=I s))<|s_pure (fun w' hw=>gBase_el w' s hs)<|s_y y_mv<|s_y y_ext<|s_y y_ext<|s_y y_as<|s_y y_as<|s_nil<|q_then<|c_seq<|c_reg<|s_y y_mv<|s_y y_mv<|s_y y_fa<|s_y (y_ld (b:=b5) (v:=I r))<|s_y y_mv<|s_bslr (cs:=[I r,I p]) fun b38=>s_pure (fun w' hw=>s_hash_ok w' tSign m a (some ⟨b38,0,none⟩) c 2 [r,p] (hg.st hw) (by decide) (hr.st hw) (rdR (.head _) w' hw) (two63 (Gf.El.l63 her) (Gf.El.l63 hep)) (by simp) hl)<|?_
    rw [bey_two,show scal tSign (be r 8 ++ be p 8 ++ m) = chal r p m from rfl]
    refine s_pure (fun w' hw=>gExp_yes w' p (chal r p m) hep (chal_lt _ _ _))<|s_y y_mv<|s_y y_ext<|s_y y_ext<|s_y y_as<|s_y y_as<|s_nil<|q_then<|c_seq<|c_reg<|s_y y_fa<|s_y (y_ld (b:=b5) (v:=I r))<|s_y y_mv<|s_pure (fun w' hw=>gMul_yes w' r (pp p (chal r p m)) her (hep.pow _))<|s_y y_mv<|s_y y_ext<|s_y y_ext<|s_y y_as<|s_y y_as<|s_nil<|q_then<|c_seq<|c_reg<|s_y y_mv<|s_y y_mv<|s_y (y_eql (p:=((pp 4 s:Nat):Int)) (q:=((r * pp p (chal r p m) % 4611686018427377339:Nat):Int)))<|?_
    rw [show decide (((pp 4 s:Nat):Int) = ((r * pp p (chal r p m) % 4611686018427377339:Nat):Int)) = decide (pp 4 s = r * pp p (chal r p m) % 4611686018427377339) by rw [decide_eq_decide]; omega]
    refine s_y y_as<|s_nil<|q_then<|c_ret<|?_
    exact ret1 Tryz.results99 rv_t fun w' hw=>⟨rfl,hw.sub (List.nil_sublist _)⟩
theorem chk_0 {p:Int}:chk p = 0 ↔ el p = true:=by
  unfold chk
  cases el p <;> simp
theorem sVerify_ok (w:World) (a:Option Addr) (c:Nat) (m:List UInt8) (p r s:Int) (hg:LS w) (hr:Rd w a (bs m)) (hl:m.length ≤ 100000000):Pure Tryz.prog 99 [I p,.slice a m.length c,.agg #[I r,I s]] w (.bool (vrf p m r s)):=by
  cases hp:el p with
  | false =>
    rw [show vrf p m r s = false by rw [vrf,hp,Bool.false_and]]
    exact sVerify_bad w a c m p r s hr hl (fun h=>by have h1:=(List.cons.inj h).1; rw [chk_0,hp] at h1; cases h1)
  | true =>
    cases hr2:el r with
    | false =>
      rw [show vrf p m r s = false by rw [vrf,hr2,Bool.false_and,Bool.and_false]]
      exact sVerify_bad w a c m p r s hr hl (fun h=>by have h1:=(List.cons.inj (List.cons.inj h).2).1; rw [chk_0,hr2] at h1; cases h1)
    | true =>
      cases hs:sc s with
      | false =>
        rw [show vrf p m r s = false by rw [vrf,hs,Bool.false_and,Bool.and_false,Bool.and_false]]
        exact sVerify_bad w a c m p r s hr hl (fun h=>by have h1:=(List.cons.inj (List.cons.inj (List.cons.inj h).2).2).1; rw [hs] at h1; cases h1)
      | true =>
        obtain ⟨x,rfl,hx⟩:=Sig.el_El hp
        obtain ⟨y,rfl,hy⟩:=Sig.el_El hr2
        obtain ⟨z,rfl,hz⟩:=sc_nat hs
        rw [show vrf (x:Int) m y z = decide (pp 4 z = y * pp x (chal y x m) % 4611686018427377339) by rw [vrf,hp,hr2,hs,Bool.true_and,Bool.true_and,Bool.true_and,Int.toNat_natCast,Int.toNat_natCast,Int.toNat_natCast]]
        exact sVerify_good w a c m x y z hg hr hl hx hy hz
end Go.Proofs.YtegfmbefhpagmaaGreatDoor
end
section
namespace Rst
open Go Eng Gf Sha Sig Wr Cod Cha Go.Proofs.YtegfmbefhpagmaaGreatDoor
def gIx (g:Int) (l:List Int):Int:=fidx (fun y=>decide (y = g)) l
theorem gIx_lt (g:Int) (l:List Int):gIx g l < (l.length:Int):=fidx_lt
theorem gIx_ge (g:Int) (l:List Int):-1 ≤ gIx g l:=fidx_ge
structure ApRt (p:Pn) (c:Cs) (g at' y:Int):Prop where
  b:Blg p c
  i:0 ≤ gIx g p.gs
  n:¬ g ∈ c.ap.map Ap.g
  a:at' = gIx g p.gs + 1
  y:(0:Int) ≤ y ∧ (y:Int) ≤ 2305843009213688668
theorem anyG {c:Cs} {g:Int}:(c.ap.any fun a=>decide (a.g = g)) = true ↔ g ∈ c.ap.map Ap.g:=by
  rw [List.any_eq_true,List.mem_map]
  exact ⟨fun ⟨x,hx,e⟩=>⟨x,hx,of_decide_eq_true e⟩,fun ⟨x,hx,e⟩=>⟨x,hx,decide_eq_true e⟩⟩
theorem anyG_no {c:Cs} {g:Int} (h:¬ g ∈ c.ap.map Ap.g):(c.ap.any fun a=>decide (a.g = g)) = false:=by
  cases e:(c.ap.any fun a=>decide (a.g = g)) with
  | false=>rfl
  | true=>exact absurd (anyG.1 e) h
def bdy (A Y:Nat):List UInt8:=be A 8 ++ be Y 8
theorem bdy_length (A Y:Nat):(bdy A Y).length = 16:=by unfold bdy; rw [List.length_append,be_length,be_length]
noncomputable def wtx (c:Cs) (g:Int) (k:List UInt8) (A Y:Nat):List UInt8:=wB c.l.toNat k (msg c 0 g) (bdy A Y)
theorem wtx_length (c:Cs) (g:Int) (k:List UInt8) (A Y:Nat):(wtx c g k A Y).length = 32:=by unfold wtx; rw [wB_length,bdy_length]
noncomputable def sgt (c:Cs) (g:Int) (k:List UInt8) (A Y:Nat):List UInt8:=msg c 0 g ++ be (wU k) 8 ++ wtx c g k A Y
theorem sgt_length (c:Cs) (g:Int) (k:List UInt8) (A Y:Nat):(sgt c g k A Y).length = 72:=by unfold sgt; rw [List.length_append,List.length_append,msg_length,be_length,wtx_length]
noncomputable def nAp (c:Cs) (g:Int) (k:List UInt8) (A Y x:Nat) (ba:Option Addr) (bc:Nat):Ap :=
  ⟨g,(wU k:Nat),ba,bc,wtx c g k A Y,(sgR x (sgt c g k A Y):Nat),(sgS x (sgt c g k A Y):Nat)⟩
/-- .. laid in memory -/
structure AX where
  aa:Option Addr
  ac:Nat
  ba:Option Addr
  bc:Nat
end Rst
namespace Go.Proofs.YtegfmbefhpagmaaGreatDoor
open Go Eng Gf Sha Sig Wr Cod Cha Rst
set_option maxRecDepth 100000
theorem sIx_ok (w:World) (a:Option Addr) (q:List Int) (c:Nat) (v:Int) (hr:Rd w a (is q)) (hl:q.length ≤ 1000000000000000):Pure Tryz.prog 50 [.slice a q.length c,I v] w (I (gIx v q)):=by
  have h:=slices_Index_int_int_ok w a q c v hr (by omega)
  rw [show (fun x:Int=>decide (v = x)) = fun x=>decide (x = v) from funext fun x=>decide_eq_decide.2 eq_comm] at h
  exact h
theorem numN_ok (w:World) (n:Nat):Pure Tryz.prog 55 [I n] w (.agg (bs (be n 8)).toArray):=by
  have h:=number_ok w (n:Int); rw [be8_be] at h; exact h
theorem el_of_chk {p:Int} (h:chk p = 0):∃ x:Nat,p = (x:Int) ∧ El x:=Wr.el_El (chk_0.1 h)
theorem wrapQ (w:World) (p:Int) (s h b q:List UInt8) (ha ca:Option Addr) (hc cc n m:Nat) (hg:LC w) (hp:chk p = 0) (hs:s.length = 32) (hn:h.length = n) (hm:b.length = m) (hq:wB p.toNat s h b = q) (hrh:Rd w ha (bs h)) (hln:n ≤ 100000) (hrc:Rd w ca (bs b)) (hlm:m ≤ 65536) :
    Gives Tryz.prog 57 [I p,.agg (bs s).toArray,.slice ha n hc,.slice ca m cc] w [] (fun y:Option Addr × Nat=>.tuple #[.agg #[I (wU s:Nat),.slice y.1 q.length y.2],I 0]) (fun y=>[.row y.1 y.2 5 1 q.length (bs q)]) (fun _=>True):=by
  obtain ⟨x,rfl,hx⟩:=el_of_chk hp
  rw [Int.toNat_natCast] at hq
  subst hn hm
  have h9:=w_Wrap_yes w ha ca hc cc s h b x hg hx hs hrh hln hrc hlm
  rw [hq,show b.length + 16 = q.length by rw [← hq,wB_length]] at h9
  exact h9
theorem signQ (w:World) (a:Option Addr) (c n x:Nat) (m:List UInt8) (hg:LS w) (hn:m.length = n) (hr:Rd w a (bs m)) (hl:n ≤ 100000000) (hx0:1 ≤ x) (hx:x < 2305843009213688669):Pure Tryz.prog 28 [I x,.slice a n c] w (.tuple #[.agg #[I (sgR x m:Nat),I (sgS x m:Nat)],I 0]):=by
  subst hn; exact sSign_yes w a c m x hg hr hl hx0 hx
theorem concat2 (w:World) (la a1 a2:Option Addr) (lc n1 c1 n2 c2 N:Nat) (q1 q2 q:List UInt8) (h1:q1.length = n1) (h2:q2.length = n2) (hq:q1 ++ q2 = q) (hN:q.length = N) (hl:N ≤ 1000000) (hr:Rd w la [.slice a1 n1 c1,.slice a2 n2 c2]) (r1:Rd w a1 (bs q1)) (r2:Rd w a2 (bs q2)) :
    Gives Tryz.prog 58 [.slice la 2 lc] w [] (fun y:Option Addr × Nat=>.slice y.1 N y.2) (fun y=>[.row y.1 y.2 5 1 N (bs q)]) (fun _=>True):=by
  subst h1 h2 hN
  have h9:=slices_Concat_ok w la lc _ [q1,q2] hr (SlL.cons r1 (SlL.cons r2 (SlL.nil w))) (by rw [show [q1,q2].flatten = q by rw [← hq]; simp]; omega) (show 2 < 1000000000 by decide)
  rw [show [q1,q2].flatten = q by rw [← hq]; simp] at h9
  exact h9
theorem concat3 (w:World) (la a1 a2 a3:Option Addr) (lc n1 c1 n2 c2 n3 c3 N:Nat) (q1 q2 q3 q:List UInt8) (h1:q1.length = n1) (h2:q2.length = n2) (h3:q3.length = n3) (hq:q1 ++ q2 ++ q3 = q) (hN:q.length = N) (hl:N ≤ 1000000) (hr:Rd w la [.slice a1 n1 c1,.slice a2 n2 c2,.slice a3 n3 c3]) (r1:Rd w a1 (bs q1)) (r2:Rd w a2 (bs q2)) (r3:Rd w a3 (bs q3)) :
    Gives Tryz.prog 58 [.slice la 3 lc] w [] (fun y:Option Addr × Nat=>.slice y.1 N y.2) (fun y=>[.row y.1 y.2 5 1 N (bs q)]) (fun _=>True):=by
  subst h1 h2 h3 hN
  have e:[q1,q2,q3].flatten = q:=by rw [← hq]; simp
  have h9:=slices_Concat_ok w la lc _ [q1,q2,q3] hr (SlL.cons r1 (SlL.cons r2 (SlL.cons r3 (SlL.nil w)))) (by rw [e]; omega) (show 3 < 1000000000 by decide)
  rw [e] at h9
  exact h9
theorem Approve2_ok' (w:World) (b:Nat) (x:Ap) (g:Int) (hb:Rd w (some ⟨b,0,none⟩) [I g]):Pure Tryz.prog 52 [.agg #[I x.g,I x.u,.slice x.a x.q.length x.c,I x.r,I x.s],.pointer (some ⟨b,0,none⟩)] w (.bool (decide (x.g = g))):=by
  refine enter Tryz.func52 Tryz.ntmps52 ?_
  refine c_seq<|c_reg<|s_box rfl fun b2=>s_y y_as<|s_nil<|q_then<|c_seq<|c_reg<|s_y y_fa<|s_y (y_ld (b:=b2) (v:=I x.g))<|s_y (y_ldr (a:=some ⟨b,0,none⟩) (i:=0) (xs:=[I g]) (v:=I g) rfl (hr:=rdW0 hb))<|s_y (y_eql (p:=x.g) (q:=g))<|s_y y_as<|s_nil<|q_then<|c_ret<|?_
  exact ret1 Tryz.results52 rv_t fun w' hw=>⟨rfl,hw.sub (List.nil_sublist _)⟩
theorem Approve2_ok (w:World) (b:Nat) (x:Ap) (g:Int) (hb:Rd w (some ⟨b,0,none⟩) [I g]):Pure Tryz.prog 52 [.agg x.cell.toArray,.pointer (some ⟨b,0,none⟩)] w (.bool (decide (x.g = g))):=Approve2_ok' w b x g hb
end Go.Proofs.YtegfmbefhpagmaaGreatDoor
end
section
namespace Rst
open Go Eng
theorem apc_snoc (l:List Ap) (x:Ap) (cs:List Value) (h:cs = x.cell):apc l ++ cs = apc (l ++ [x]):=by rw [apc_append,h]; simp [apc]
end Rst
namespace Go.Proofs.YtegfmbefhpagmaaGreatDoor
open Go Eng Gf Sha Sig Wr Cod Cha Rst
set_option maxRecDepth 100000
set_option linter.all false
theorem Approve_n2 (w:World) (p:Pn) (c:Cs) (ga aa va:Option Addr) (gc ac vc:Nat) (g aT y ver x:Int) (k:List UInt8) (hg:LC w) (hk:k.length = 32) (hrg:Rd w ga (is p.gs)) (hgs:p.gs.length ≤ 1000000) (hra:Rd w aa (apc c.ap)) (hac:c.ap.length ≤ ac) (hrv:Rd w va (vtc c.vt)) (hal:c.ap.length ≤ 1000000) (hvl:c.vt.length ≤ 1000000) (hp:Prs p) (ho:¬ ApRt p c g aT y):Pure Tryz.prog 12 [.agg #[I p.id,I p.rk,.slice ga p.gs.length gc,I p.need,I p.cool],.agg #[I c.p,I c.d,I c.v,I c.l,I c.st,.slice aa c.ap.length ac,.slice va c.vt.length vc],I g,.agg #[I aT,I y],I ver,I x,.agg (bs k).toArray] w (.tuple #[.agg #[I 0,I 0,I 0,I 0,I 0,.slice none 0 0,.slice none 0 0],I 390]):=by
  have hgi:=gIx_lt g p.gs
  have hgj:=gIx_ge g p.gs
  refine enterD Tryz.func12 Tryz.ntmps12 ?_
  refine c_seq<|c_reg<|s_box rfl fun b7=>s_box rfl fun b8=>s_box rfl fun b9=>s_box rfl fun b10=>s_box rfl fun b13=>s_alloc fun b14=>s_alloc fun b15=>s_nil<|q_then<|c_seq<|c_reg<|s_y y_func<|s_deferC<|s_nil<|q_then<|c_seq<|c_reg<|s_y (y_lda (b:=b7) (cs:=#[I p.id,I p.rk,.slice ga p.gs.length gc,I p.need,I p.cool]) (hl:=rfl))<|s_pure (fun w' hw=>(by have h9:=valid_ok w' p ga gc (hrg.st hw) (by omega); rw [prsB_t.2 hp] at h9; exact h9))<|s_pure (fun w' hw=>demand_ok w' 371)<|s_nil<|q_then<|c_seq<|c_reg<|s_y y_fa<|s_y (y_ld (b:=b7) (v:=.slice ga p.gs.length gc))<|s_y (y_ld (b:=b9) (v:=I g))<|s_pure (fun w' hw=>sIx_ok w' ga p.gs gc g (hrg.st hw) (by omega))<|s_y y_as<|s_nil<|q_then<|c_seq<|c_reg<|s_y (y_lda (b:=b7) (cs:=#[I p.id,I p.rk,.slice ga p.gs.length gc,I p.need,I p.cool]) (hl:=rfl))<|s_y (y_lda (b:=b8) (cs:=#[I c.p,I c.d,I c.v,I c.l,I c.st,.slice aa c.ap.length ac,.slice va c.vt.length vc]) (hl:=rfl))<|?_
  by_cases h34:Blg p c
  · refine s_pure (fun w' hw=>(by have h9:=belongs_ok w' p c ga aa va gc ac vc hp (hrg.st hw) (hra.st hw) (hrv.st hw) hal hvl; rw [blgB_t.2 h34] at h9; exact h9))<|s_y y_mv<|s_y y_mv<|s_ifd (y_geq (p:=gIx g p.gs) (q:=0)) (fun h37=>?_) (fun h37=>?_)
    · refine s_y y_pk<|s_y y_mv<|s_y y_fa<|s_y (y_ld (b:=b8) (v:=.slice aa c.ap.length ac))<|s_y y_func<|?_
      by_cases h43:g ∈ c.ap.map Ap.g
      · refine s_pure (fun w' hw=>(by have h9:=CoF_Ap w' aa ac c.ap 52 [.pointer (some ⟨b9,0,none⟩)] (fun a=>decide (a.g = g)) (hra.st hw) (by omega) (fun x _ w2 h2=>Approve2_ok w2 b9 x g ((rd0B hw (xs:=[I g]) (.tail _ (.tail _ (.tail _ (.tail _ (.head _)))))).st h2)); rw [anyG.2 h43] at h9; exact h9))<|s_y (v:=.bool false) (y_not (b:=true))<|s_y y_pk<|s_y y_mv<|s_no<|s_no<|s_no<|s_no<|s_no<|s_y y_pk<|s_y y_mv<|s_no<|s_no<|s_no<|s_y y_pk<|s_dies (fun w' hw=>demand_dies w' 390)<|q_pt<|?_
        exact leave_P (fun w' hw=>rcApprove_P w' b15 0 390 (hw.own _ (.head _)).1) Tryz.results12 (.refl _) (.cons (rv_ca (b:=b14) (cs:=#[I 0,I 0,I 0,I 0,I 0,.slice none 0 0,.slice none 0 0]) (hl:=rfl)) (.cons (rv_cf (b:=b15) (v:=I 390)) .nil)) fun w' hw=>⟨rfl,hw.sub (List.nil_sublist _)⟩
      · refine s_pure (fun w' hw=>(by have h9:=CoF_Ap w' aa ac c.ap 52 [.pointer (some ⟨b9,0,none⟩)] (fun a=>decide (a.g = g)) (hra.st hw) (by omega) (fun x _ w2 h2=>Approve2_ok w2 b9 x g ((rd0B hw (xs:=[I g]) (.tail _ (.tail _ (.tail _ (.tail _ (.head _)))))).st h2)); rw [anyG_no h43] at h9; exact h9))<|s_y (v:=.bool true) (y_not (b:=false))<|s_y y_pk<|s_y y_mv<|s_y y_fa<|s_y (y_ld (b:=b10) (v:=I aT))<|s_y y_mv<|s_y (y_add (p:=gIx g p.gs) (q:=1))<|s_ifd (y_eql (p:=aT) (q:=(gIx g p.gs) + 1)) (fun h51=>?_) (fun h51=>?_)
        · refine s_y y_pk<|s_y y_mv<|s_y y_fa<|s_y (y_ld (b:=b10) (v:=I y))<|?_
          by_cases h56:(0:Int) ≤ y ∧ (y:Int) ≤ 2305843009213688668
          · refine s_pure (fun w' hw=>between_ok w' y 0 2305843009213688668 true ⟨fun _=>rfl,fun _=>h56⟩)<|s_y y_pk<|?_
            exact absurd (ApRt.mk ‹_› ‹_› ‹_› ‹_› ‹_›) ho
          · refine s_pure (fun w' hw=>between_ok w' y 0 2305843009213688668 false ⟨fun h9=>absurd h9 h56,fun h9=>by cases h9⟩)<|s_y y_pk<|s_dies (fun w' hw=>demand_dies w' 390)<|q_pt<|?_
            exact leave_P (fun w' hw=>rcApprove_P w' b15 0 390 (hw.own _ (.head _)).1) Tryz.results12 (.refl _) (.cons (rv_ca (b:=b14) (cs:=#[I 0,I 0,I 0,I 0,I 0,.slice none 0 0,.slice none 0 0]) (hl:=rfl)) (.cons (rv_cf (b:=b15) (v:=I 390)) .nil)) fun w' hw=>⟨rfl,hw.sub (List.nil_sublist _)⟩
        · refine s_y y_pk<|s_y y_mv<|s_no<|s_no<|s_no<|s_y y_pk<|s_dies (fun w' hw=>demand_dies w' 390)<|q_pt<|?_
          exact leave_P (fun w' hw=>rcApprove_P w' b15 0 390 (hw.own _ (.head _)).1) Tryz.results12 (.refl _) (.cons (rv_ca (b:=b14) (cs:=#[I 0,I 0,I 0,I 0,I 0,.slice none 0 0,.slice none 0 0]) (hl:=rfl)) (.cons (rv_cf (b:=b15) (v:=I 390)) .nil)) fun w' hw=>⟨rfl,hw.sub (List.nil_sublist _)⟩
    · refine s_y y_pk<|s_y y_mv<|s_no<|s_no<|s_no<|s_no<|s_no<|s_y y_pk<|s_y y_mv<|s_no<|s_no<|s_no<|s_no<|s_no<|s_y y_pk<|s_y y_mv<|s_no<|s_no<|s_no<|s_y y_pk<|s_dies (fun w' hw=>demand_dies w' 390)<|q_pt<|?_
      exact leave_P (fun w' hw=>rcApprove_P w' b15 0 390 (hw.own _ (.head _)).1) Tryz.results12 (.refl _) (.cons (rv_ca (b:=b14) (cs:=#[I 0,I 0,I 0,I 0,I 0,.slice none 0 0,.slice none 0 0]) (hl:=rfl)) (.cons (rv_cf (b:=b15) (v:=I 390)) .nil)) fun w' hw=>⟨rfl,hw.sub (List.nil_sublist _)⟩
  · refine s_pure (fun w' hw=>(by have h9:=belongs_ok w' p c ga aa va gc ac vc hp (hrg.st hw) (hra.st hw) (hrv.st hw) hal hvl; rw [blgB_f.2 h34] at h9; exact h9))<|s_y y_mv<|s_no<|s_no<|s_y y_pk<|s_y y_mv<|s_no<|s_no<|s_no<|s_no<|s_no<|s_y y_pk<|s_y y_mv<|s_no<|s_no<|s_no<|s_no<|s_no<|s_y y_pk<|s_y y_mv<|s_no<|s_no<|s_no<|s_y y_pk<|s_dies (fun w' hw=>demand_dies w' 390)<|q_pt<|?_
    exact leave_P (fun w' hw=>rcApprove_P w' b15 0 390 (hw.own _ (.head _)).1) Tryz.results12 (.refl _) (.cons (rv_ca (b:=b14) (cs:=#[I 0,I 0,I 0,I 0,I 0,.slice none 0 0,.slice none 0 0]) (hl:=rfl)) (.cons (rv_cf (b:=b15) (v:=I 390)) .nil)) fun w' hw=>⟨rfl,hw.sub (List.nil_sublist _)⟩
theorem Approve_y (w:World) (p:Pn) (c:Cs) (ga aa va:Option Addr) (gc ac vc:Nat) (g ver:Int) (k:List UInt8) (A Y x:Nat) (hg:LC w) (hk:k.length = 32) (hrg:Rd w ga (is p.gs)) (hgs:p.gs.length ≤ 1000000) (hra:Rd w aa (apc c.ap)) (hac:c.ap.length ≤ ac) (hrv:Rd w va (vtc c.vt)) (hal:c.ap.length ≤ 1000000) (hvl:c.vt.length ≤ 1000000) (hR:R5 c) (hRg:R64 g) (hp:Prs p) (ho:ApRt p c g (A:Nat) (Y:Nat)) (hx0:1 ≤ x) (hx:x < 2305843009213688669) (hv:((pp 4 x:Nat):Int) = ver):Gives Tryz.prog 12 [.agg #[I p.id,I p.rk,.slice ga p.gs.length gc,I p.need,I p.cool],.agg #[I c.p,I c.d,I c.v,I c.l,I c.st,.slice aa c.ap.length ac,.slice va c.vt.length vc],I g,.agg #[I (A:Nat),I (Y:Nat)],I ver,I (x:Nat),.agg (bs k).toArray] w [] (fun y:AX=>.tuple #[.agg #[I c.p,I c.d,I c.v,I c.l,I c.st,.slice y.aa (c.ap.length + 1) y.ac,.slice va c.vt.length vc],I 0]) (fun y=>[.row y.aa y.ac 116 5 (c.ap.length + 1) (apc (c.ap ++ [nAp c g k A Y x y.ba y.bc])),.row y.ba y.bc 5 1 (wtx c g k A Y).length (bs (wtx c g k A Y))]) (fun _=>True):=by
  have hgi:=gIx_lt g p.gs
  have hgj:=gIx_ge g p.gs
  refine enterD Tryz.func12 Tryz.ntmps12 ?_
  refine c_seq<|c_reg<|s_box rfl fun b7=>s_box rfl fun b8=>s_box rfl fun b9=>s_box rfl fun b10=>s_box rfl fun b13=>s_alloc fun b14=>s_alloc fun b15=>s_nil<|q_then<|c_seq<|c_reg<|s_y y_func<|s_deferC<|s_nil<|q_then<|c_seq<|c_reg<|s_y (y_lda (b:=b7) (cs:=#[I p.id,I p.rk,.slice ga p.gs.length gc,I p.need,I p.cool]) (hl:=rfl))<|s_pure (fun w' hw=>(by have h9:=valid_ok w' p ga gc (hrg.st hw) (by omega); rw [prsB_t.2 hp] at h9; exact h9))<|s_pure (fun w' hw=>demand_ok w' 371)<|s_nil<|q_then<|c_seq<|c_reg<|s_y y_fa<|s_y (y_ld (b:=b7) (v:=.slice ga p.gs.length gc))<|s_y (y_ld (b:=b9) (v:=I g))<|s_pure (fun w' hw=>sIx_ok w' ga p.gs gc g (hrg.st hw) (by omega))<|s_y y_as<|s_nil<|q_then<|c_seq<|c_reg<|s_y (y_lda (b:=b7) (cs:=#[I p.id,I p.rk,.slice ga p.gs.length gc,I p.need,I p.cool]) (hl:=rfl))<|s_y (y_lda (b:=b8) (cs:=#[I c.p,I c.d,I c.v,I c.l,I c.st,.slice aa c.ap.length ac,.slice va c.vt.length vc]) (hl:=rfl))<|s_pure (fun w' hw=>(by have h9:=belongs_ok w' p c ga aa va gc ac vc hp (hrg.st hw) (hra.st hw) (hrv.st hw) hal hvl; rw [blgB_t.2 ho.b] at h9; exact h9))<|s_y y_mv<|s_y y_mv<|s_kt (y_geq (p:=gIx g p.gs) (q:=0)) ho.i<|s_y y_pk<|s_y y_mv<|s_y y_fa<|s_y (y_ld (b:=b8) (v:=.slice aa c.ap.length ac))<|s_y y_func<|s_pure (fun w' hw=>(by have h9:=CoF_Ap w' aa ac c.ap 52 [.pointer (some ⟨b9,0,none⟩)] (fun a=>decide (a.g = g)) (hra.st hw) (by omega) (fun x _ w2 h2=>Approve2_ok w2 b9 x g ((rd0B hw (xs:=[I g]) (.tail _ (.tail _ (.tail _ (.tail _ (.head _)))))).st h2)); rw [anyG_no ho.n] at h9; exact h9))<|s_y (v:=.bool true) (y_not (b:=false))<|s_y y_pk<|s_y y_mv<|s_y y_fa<|s_y (y_ld (b:=b10) (v:=I (A:Nat)))<|s_y y_mv<|s_y (y_add (p:=gIx g p.gs) (q:=1))<|s_kt (y_eql (p:=(A:Nat)) (q:=(gIx g p.gs) + 1)) ho.a<|s_y y_pk<|s_y y_mv<|s_y y_fa<|s_y (y_ld (b:=b10) (v:=I (Y:Nat)))<|s_pure (fun w' hw=>between_ok w' (Y:Nat) 0 2305843009213688668 true ⟨fun _=>rfl,fun _=>ho.y⟩)<|s_y y_pk<|s_pure (fun w' hw=>demand_ok w' 390)<|s_nil<|q_then<|c_seq<|c_reg<|s_y y_mv<|s_pure (fun w' hw=>sPublic_yes w' x hx0 hx)<|s_y y_mv<|s_y y_ext<|s_y y_ext<|s_y y_as<|s_st (b:=b15) (v:=I 0) (cs:=#[I 0]) (hl:=by simp) ?_
  refine s_nil<|q_then<|c_seq<|c_reg<|s_y (y_ld (b:=b15) (v:=I 0))<|s_pure (fun w' hw=>try_ok w')<|s_nil<|q_then<|c_seq<|c_reg<|s_y y_mv<|s_y y_mv<|s_kt (y_eql (p:=(pp 4 x:Nat)) (q:=ver)) hv<|s_pure (fun w' hw=>demand_ok w' 390)<|s_nil<|q_then<|c_seq<|c_cut (R:=fun a' w'=>∃ (b18:Nat),∃ (b19:Nat),Fr 120 [(5,I (x:Nat)),(7,.pointer (some ⟨b7,0,none⟩)),(8,.pointer (some ⟨b8,0,none⟩)),(9,.pointer (some ⟨b9,0,none⟩)),(10,.pointer (some ⟨b10,0,none⟩)),(13,.pointer (some ⟨b13,0,none⟩)),(14,.pointer (some ⟨b14,0,none⟩)),(15,.pointer (some ⟨b15,0,none⟩)),(18,.pointer (some ⟨b18,0,none⟩)),(19,.pointer (some ⟨b19,0,none⟩))] [{ target:=.fn (.func 47) #[.pointer (some ⟨b15,0,none⟩)],args:=#[] }] a' ∧ St w [] w' [.blk b19 (.cells (bs (be Y 8)).toArray 120 (0,0)),.blk b18 (.cells (bs (be A 8)).toArray 120 (0,0)),.blk b15 (.cells #[I 0] 29 (0,0)),.blk b14 (.cells #[I 0,I 0,I 0,I 0,I 0,.slice none 0 0,.slice none 0 0] 56 (0,0)),.blk b13 (.cells (bs k).toArray 23 (0,0)),.blk b10 (.cells #[I (A:Nat),I (Y:Nat)] 62 (0,0)),.blk b9 (.cells #[I g] 3 (0,0)),.blk b8 (.cells #[I c.p,I c.d,I c.v,I c.l,I c.st,.slice aa c.ap.length ac,.slice va c.vt.length vc] 56 (0,0)),.blk b7 (.cells #[I p.id,I p.rk,.slice ga p.gs.length gc,I p.need,I p.cool] 27 (0,0))]) ?_ ?_
  · refine c_regL [.blk b15 (.cells #[I 0] 29 (0,0)),.blk b14 (.cells #[I 0,I 0,I 0,I 0,I 0,.slice none 0 0,.slice none 0 0] 56 (0,0)),.blk b13 (.cells (bs k).toArray 23 (0,0)),.blk b10 (.cells #[I (A:Nat),I (Y:Nat)] 62 (0,0)),.blk b9 (.cells #[I g] 3 (0,0)),.blk b8 (.cells #[I c.p,I c.d,I c.v,I c.l,I c.st,.slice aa c.ap.length ac,.slice va c.vt.length vc] 56 (0,0)),.blk b7 (.cells #[I p.id,I p.rk,.slice ga p.gs.length gc,I p.need,I p.cool] 27 (0,0))]<|r_y 0 rfl y_fa<|r_y 1 rfl (y_ld (b:=b10) (v:=I (A:Nat)))<|r_y 3 rfl y_fa<|r_y 4 rfl (y_ld (b:=b10) (v:=I (Y:Nat)))<|r_w3B 2 6 7 rfl rfl rfl ?_ ?_ ?_ (hsub:=by repeat (first | exact List.nil_sublist _ | exact List.Sublist.refl _ | apply List.Sublist.cons_cons | apply List.Sublist.cons))
    · refine s_pure (fun w' hw=>numN_ok w' A)<|r_K<|r_w3B 5 6 7 rfl rfl rfl ?_ ?_ ?_ (hsub:=by repeat (first | exact List.nil_sublist _ | exact List.Sublist.refl _ | apply List.Sublist.cons_cons | apply List.Sublist.cons))
      · refine s_pure (fun w' hw=>numN_ok w' Y)<|r_K<|r_w2 6 7 rfl rfl ?_ ?_ (hsub:=by repeat (first | exact List.nil_sublist _ | exact List.Sublist.refl _ | apply List.Sublist.cons_cons | apply List.Sublist.cons))
        · refine s_alloc fun b18=>r_K<|r_W 7 rfl<|s_alloc fun b19=>r_K<|r_W 8 rfl<|s_sta (b:=b18) (vs:=(bs (be A 8)).toArray) (cs:=(bs (List.replicate 8 0)).toArray) (h1:=fun v hv=>bs_one (by simpa using hv)) (hl:=by simp [bs_length,List.length_replicate,(be_length _ _)]) (hs1:=(by simp [bs_length,(be_length _ _)])) ?_
          refine r_K<|r_W 9 rfl<|s_sta (b:=b19) (vs:=(bs (be Y 8)).toArray) (cs:=(bs (List.replicate 8 0)).toArray) (h1:=fun v hv=>bs_one (by simpa using hv)) (hl:=by simp [bs_length,List.length_replicate,(be_length _ _)]) (hs1:=(by simp [bs_length,(be_length _ _)])) ?_
          refine r_K<|r_E<|?_
          exact fun a' w' ha hw=>⟨rfl,b18,b19,ha.weaken ⟨rfl,rfl,rfl,rfl,rfl,rfl,rfl,rfl,rfl,rfl,trivial⟩,hw⟩
        · refine s_alloc fun b19=>r_K<|r_W 6 rfl<|s_alloc fun b18=>r_K<|r_W 8 rfl<|s_sta (b:=b18) (vs:=(bs (be A 8)).toArray) (cs:=(bs (List.replicate 8 0)).toArray) (h1:=fun v hv=>bs_one (by simpa using hv)) (hl:=by simp [bs_length,List.length_replicate,(be_length _ _)]) (hs1:=(by simp [bs_length,(be_length _ _)])) ?_
          refine r_K<|r_W 9 rfl<|s_sta (b:=b19) (vs:=(bs (be Y 8)).toArray) (cs:=(bs (List.replicate 8 0)).toArray) (h1:=fun v hv=>bs_one (by simpa using hv)) (hl:=by simp [bs_length,List.length_replicate,(be_length _ _)]) (hs1:=(by simp [bs_length,(be_length _ _)])) ?_
          refine r_K<|r_E<|?_
          exact fun a' w' ha hw=>⟨rfl,b18,b19,ha.weaken ⟨rfl,rfl,rfl,rfl,rfl,rfl,rfl,rfl,rfl,rfl,trivial⟩,(hw.perm (.swap _ _ _))⟩
      · refine s_alloc fun b18=>r_K<|r_w2 5 7 rfl rfl ?_ ?_ (hsub:=by repeat (first | exact List.nil_sublist _ | exact List.Sublist.refl _ | apply List.Sublist.cons_cons | apply List.Sublist.cons))
        · refine s_pure (fun w' hw=>numN_ok w' Y)<|r_K<|r_W 7 rfl<|s_alloc fun b19=>r_K<|r_W 8 rfl<|s_sta (b:=b18) (vs:=(bs (be A 8)).toArray) (cs:=(bs (List.replicate 8 0)).toArray) (h1:=fun v hv=>bs_one (by simpa using hv)) (hl:=by simp [bs_length,List.length_replicate,(be_length _ _)]) (hs1:=(by simp [bs_length,(be_length _ _)])) ?_
          refine r_K<|r_W 9 rfl<|s_sta (b:=b19) (vs:=(bs (be Y 8)).toArray) (cs:=(bs (List.replicate 8 0)).toArray) (h1:=fun v hv=>bs_one (by simpa using hv)) (hl:=by simp [bs_length,List.length_replicate,(be_length _ _)]) (hs1:=(by simp [bs_length,(be_length _ _)])) ?_
          refine r_K<|r_E<|?_
          exact fun a' w' ha hw=>⟨rfl,b18,b19,ha.weaken ⟨rfl,rfl,rfl,rfl,rfl,rfl,rfl,rfl,rfl,rfl,trivial⟩,hw⟩
        · refine s_alloc fun b19=>r_K<|r_W 5 rfl<|s_pure (fun w' hw=>numN_ok w' Y)<|r_K<|r_W 8 rfl<|s_sta (b:=b18) (vs:=(bs (be A 8)).toArray) (cs:=(bs (List.replicate 8 0)).toArray) (h1:=fun v hv=>bs_one (by simpa using hv)) (hl:=by simp [bs_length,List.length_replicate,(be_length _ _)]) (hs1:=(by simp [bs_length,(be_length _ _)])) ?_
          refine r_K<|r_W 9 rfl<|s_sta (b:=b19) (vs:=(bs (be Y 8)).toArray) (cs:=(bs (List.replicate 8 0)).toArray) (h1:=fun v hv=>bs_one (by simpa using hv)) (hl:=by simp [bs_length,List.length_replicate,(be_length _ _)]) (hs1:=(by simp [bs_length,(be_length _ _)])) ?_
          refine r_K<|r_E<|?_
          exact fun a' w' ha hw=>⟨rfl,b18,b19,ha.weaken ⟨rfl,rfl,rfl,rfl,rfl,rfl,rfl,rfl,rfl,rfl,trivial⟩,hw⟩
      · refine s_alloc fun b19=>r_K<|r_w2 5 6 rfl rfl ?_ ?_ (hsub:=by repeat (first | exact List.nil_sublist _ | exact List.Sublist.refl _ | apply List.Sublist.cons_cons | apply List.Sublist.cons))
        · refine s_pure (fun w' hw=>numN_ok w' Y)<|r_K<|r_W 6 rfl<|s_alloc fun b18=>r_K<|r_W 8 rfl<|s_sta (b:=b18) (vs:=(bs (be A 8)).toArray) (cs:=(bs (List.replicate 8 0)).toArray) (h1:=fun v hv=>bs_one (by simpa using hv)) (hl:=by simp [bs_length,List.length_replicate,(be_length _ _)]) (hs1:=(by simp [bs_length,(be_length _ _)])) ?_
          refine r_K<|r_W 9 rfl<|s_sta (b:=b19) (vs:=(bs (be Y 8)).toArray) (cs:=(bs (List.replicate 8 0)).toArray) (h1:=fun v hv=>bs_one (by simpa using hv)) (hl:=by simp [bs_length,List.length_replicate,(be_length _ _)]) (hs1:=(by simp [bs_length,(be_length _ _)])) ?_
          refine r_K<|r_E<|?_
          exact fun a' w' ha hw=>⟨rfl,b18,b19,ha.weaken ⟨rfl,rfl,rfl,rfl,rfl,rfl,rfl,rfl,rfl,rfl,trivial⟩,(hw.perm (.swap _ _ _))⟩
        · refine s_alloc fun b18=>r_K<|r_W 5 rfl<|s_pure (fun w' hw=>numN_ok w' Y)<|r_K<|r_W 8 rfl<|s_sta (b:=b18) (vs:=(bs (be A 8)).toArray) (cs:=(bs (List.replicate 8 0)).toArray) (h1:=fun v hv=>bs_one (by simpa using hv)) (hl:=by simp [bs_length,List.length_replicate,(be_length _ _)]) (hs1:=(by simp [bs_length,(be_length _ _)])) ?_
          refine r_K<|r_W 9 rfl<|s_sta (b:=b19) (vs:=(bs (be Y 8)).toArray) (cs:=(bs (List.replicate 8 0)).toArray) (h1:=fun v hv=>bs_one (by simpa using hv)) (hl:=by simp [bs_length,List.length_replicate,(be_length _ _)]) (hs1:=(by simp [bs_length,(be_length _ _)])) ?_
          refine r_K<|r_E<|?_
          exact fun a' w' ha hw=>⟨rfl,b18,b19,ha.weaken ⟨rfl,rfl,rfl,rfl,rfl,rfl,rfl,rfl,rfl,rfl,trivial⟩,(hw.perm (.swap _ _ _))⟩
    · refine s_alloc fun b18=>r_K<|r_w2 2 7 rfl rfl ?_ ?_ (hsub:=by repeat (first | exact List.nil_sublist _ | exact List.Sublist.refl _ | apply List.Sublist.cons_cons | apply List.Sublist.cons))
      · refine s_pure (fun w' hw=>numN_ok w' A)<|r_K<|r_w2 5 7 rfl rfl ?_ ?_ (hsub:=by repeat (first | exact List.nil_sublist _ | exact List.Sublist.refl _ | apply List.Sublist.cons_cons | apply List.Sublist.cons))
        · refine s_pure (fun w' hw=>numN_ok w' Y)<|r_K<|r_W 7 rfl<|s_alloc fun b19=>r_K<|r_W 8 rfl<|s_sta (b:=b18) (vs:=(bs (be A 8)).toArray) (cs:=(bs (List.replicate 8 0)).toArray) (h1:=fun v hv=>bs_one (by simpa using hv)) (hl:=by simp [bs_length,List.length_replicate,(be_length _ _)]) (hs1:=(by simp [bs_length,(be_length _ _)])) ?_
          refine r_K<|r_W 9 rfl<|s_sta (b:=b19) (vs:=(bs (be Y 8)).toArray) (cs:=(bs (List.replicate 8 0)).toArray) (h1:=fun v hv=>bs_one (by simpa using hv)) (hl:=by simp [bs_length,List.length_replicate,(be_length _ _)]) (hs1:=(by simp [bs_length,(be_length _ _)])) ?_
          refine r_K<|r_E<|?_
          exact fun a' w' ha hw=>⟨rfl,b18,b19,ha.weaken ⟨rfl,rfl,rfl,rfl,rfl,rfl,rfl,rfl,rfl,rfl,trivial⟩,hw⟩
        · refine s_alloc fun b19=>r_K<|r_W 5 rfl<|s_pure (fun w' hw=>numN_ok w' Y)<|r_K<|r_W 8 rfl<|s_sta (b:=b18) (vs:=(bs (be A 8)).toArray) (cs:=(bs (List.replicate 8 0)).toArray) (h1:=fun v hv=>bs_one (by simpa using hv)) (hl:=by simp [bs_length,List.length_replicate,(be_length _ _)]) (hs1:=(by simp [bs_length,(be_length _ _)])) ?_
          refine r_K<|r_W 9 rfl<|s_sta (b:=b19) (vs:=(bs (be Y 8)).toArray) (cs:=(bs (List.replicate 8 0)).toArray) (h1:=fun v hv=>bs_one (by simpa using hv)) (hl:=by simp [bs_length,List.length_replicate,(be_length _ _)]) (hs1:=(by simp [bs_length,(be_length _ _)])) ?_
          refine r_K<|r_E<|?_
          exact fun a' w' ha hw=>⟨rfl,b18,b19,ha.weaken ⟨rfl,rfl,rfl,rfl,rfl,rfl,rfl,rfl,rfl,rfl,trivial⟩,hw⟩
      · refine s_alloc fun b19=>r_K<|r_W 2 rfl<|s_pure (fun w' hw=>numN_ok w' A)<|r_K<|r_W 5 rfl<|s_pure (fun w' hw=>numN_ok w' Y)<|r_K<|r_W 8 rfl<|s_sta (b:=b18) (vs:=(bs (be A 8)).toArray) (cs:=(bs (List.replicate 8 0)).toArray) (h1:=fun v hv=>bs_one (by simpa using hv)) (hl:=by simp [bs_length,List.length_replicate,(be_length _ _)]) (hs1:=(by simp [bs_length,(be_length _ _)])) ?_
        refine r_K<|r_W 9 rfl<|s_sta (b:=b19) (vs:=(bs (be Y 8)).toArray) (cs:=(bs (List.replicate 8 0)).toArray) (h1:=fun v hv=>bs_one (by simpa using hv)) (hl:=by simp [bs_length,List.length_replicate,(be_length _ _)]) (hs1:=(by simp [bs_length,(be_length _ _)])) ?_
        refine r_K<|r_E<|?_
        exact fun a' w' ha hw=>⟨rfl,b18,b19,ha.weaken ⟨rfl,rfl,rfl,rfl,rfl,rfl,rfl,rfl,rfl,rfl,trivial⟩,hw⟩
    · refine s_alloc fun b19=>r_K<|r_w2 2 6 rfl rfl ?_ ?_ (hsub:=by repeat (first | exact List.nil_sublist _ | exact List.Sublist.refl _ | apply List.Sublist.cons_cons | apply List.Sublist.cons))
      · refine s_pure (fun w' hw=>numN_ok w' A)<|r_K<|r_w2 5 6 rfl rfl ?_ ?_ (hsub:=by repeat (first | exact List.nil_sublist _ | exact List.Sublist.refl _ | apply List.Sublist.cons_cons | apply List.Sublist.cons))
        · refine s_pure (fun w' hw=>numN_ok w' Y)<|r_K<|r_W 6 rfl<|s_alloc fun b18=>r_K<|r_W 8 rfl<|s_sta (b:=b18) (vs:=(bs (be A 8)).toArray) (cs:=(bs (List.replicate 8 0)).toArray) (h1:=fun v hv=>bs_one (by simpa using hv)) (hl:=by simp [bs_length,List.length_replicate,(be_length _ _)]) (hs1:=(by simp [bs_length,(be_length _ _)])) ?_
          refine r_K<|r_W 9 rfl<|s_sta (b:=b19) (vs:=(bs (be Y 8)).toArray) (cs:=(bs (List.replicate 8 0)).toArray) (h1:=fun v hv=>bs_one (by simpa using hv)) (hl:=by simp [bs_length,List.length_replicate,(be_length _ _)]) (hs1:=(by simp [bs_length,(be_length _ _)])) ?_
          refine r_K<|r_E<|?_
          exact fun a' w' ha hw=>⟨rfl,b18,b19,ha.weaken ⟨rfl,rfl,rfl,rfl,rfl,rfl,rfl,rfl,rfl,rfl,trivial⟩,(hw.perm (.swap _ _ _))⟩
        · refine s_alloc fun b18=>r_K<|r_W 5 rfl<|s_pure (fun w' hw=>numN_ok w' Y)<|r_K<|r_W 8 rfl<|s_sta (b:=b18) (vs:=(bs (be A 8)).toArray) (cs:=(bs (List.replicate 8 0)).toArray) (h1:=fun v hv=>bs_one (by simpa using hv)) (hl:=by simp [bs_length,List.length_replicate,(be_length _ _)]) (hs1:=(by simp [bs_length,(be_length _ _)])) ?_
          refine r_K<|r_W 9 rfl<|s_sta (b:=b19) (vs:=(bs (be Y 8)).toArray) (cs:=(bs (List.replicate 8 0)).toArray) (h1:=fun v hv=>bs_one (by simpa using hv)) (hl:=by simp [bs_length,List.length_replicate,(be_length _ _)]) (hs1:=(by simp [bs_length,(be_length _ _)])) ?_
          refine r_K<|r_E<|?_
          exact fun a' w' ha hw=>⟨rfl,b18,b19,ha.weaken ⟨rfl,rfl,rfl,rfl,rfl,rfl,rfl,rfl,rfl,rfl,trivial⟩,(hw.perm (.swap _ _ _))⟩
      · refine s_alloc fun b18=>r_K<|r_W 2 rfl<|s_pure (fun w' hw=>numN_ok w' A)<|r_K<|r_W 5 rfl<|s_pure (fun w' hw=>numN_ok w' Y)<|r_K<|r_W 8 rfl<|s_sta (b:=b18) (vs:=(bs (be A 8)).toArray) (cs:=(bs (List.replicate 8 0)).toArray) (h1:=fun v hv=>bs_one (by simpa using hv)) (hl:=by simp [bs_length,List.length_replicate,(be_length _ _)]) (hs1:=(by simp [bs_length,(be_length _ _)])) ?_
        refine r_K<|r_W 9 rfl<|s_sta (b:=b19) (vs:=(bs (be Y 8)).toArray) (cs:=(bs (List.replicate 8 0)).toArray) (h1:=fun v hv=>bs_one (by simpa using hv)) (hl:=by simp [bs_length,List.length_replicate,(be_length _ _)]) (hs1:=(by simp [bs_length,(be_length _ _)])) ?_
        refine r_K<|r_E<|?_
        exact fun a' w' ha hw=>⟨rfl,b18,b19,ha.weaken ⟨rfl,rfl,rfl,rfl,rfl,rfl,rfl,rfl,rfl,rfl,trivial⟩,(hw.perm (.swap _ _ _))⟩
  rintro a8' w8' ⟨b18,b19,ha8',hw8'⟩
  refine (show CP none Tryz.prog 120 [{ target:=.fn (.func 47) #[.pointer (some ⟨b15,0,none⟩)],args:=#[] }] w [] _ _ [(5,I (x:Nat)),(7,.pointer (some ⟨b7,0,none⟩)),(8,.pointer (some ⟨b8,0,none⟩)),(9,.pointer (some ⟨b9,0,none⟩)),(10,.pointer (some ⟨b10,0,none⟩)),(13,.pointer (some ⟨b13,0,none⟩)),(14,.pointer (some ⟨b14,0,none⟩)),(15,.pointer (some ⟨b15,0,none⟩)),(18,.pointer (some ⟨b18,0,none⟩)),(19,.pointer (some ⟨b19,0,none⟩))] [.blk b19 (.cells (bs (be Y 8)).toArray 120 (0,0)),.blk b18 (.cells (bs (be A 8)).toArray 120 (0,0)),.blk b15 (.cells #[I 0] 29 (0,0)),.blk b14 (.cells #[I 0,I 0,I 0,I 0,I 0,.slice none 0 0,.slice none 0 0] 56 (0,0)),.blk b13 (.cells (bs k).toArray 23 (0,0)),.blk b10 (.cells #[I (A:Nat),I (Y:Nat)] 62 (0,0)),.blk b9 (.cells #[I g] 3 (0,0)),.blk b8 (.cells #[I c.p,I c.d,I c.v,I c.l,I c.st,.slice aa c.ap.length ac,.slice va c.vt.length vc] 56 (0,0)),.blk b7 (.cells #[I p.id,I p.rk,.slice ga p.gs.length gc,I p.need,I p.cool] 27 (0,0))] from ?_) a8' w8' ha8' hw8'
  clear ha8' hw8'
  refine c_seq<|c_reg<|s_y (y_lda (b:=b8) (cs:=#[I c.p,I c.d,I c.v,I c.l,I c.st,.slice aa c.ap.length ac,.slice va c.vt.length vc]) (hl:=rfl))<|s_y (y_ld (b:=b9) (v:=I g))<|s_gives (fun w' hw=>Message_ok w' c 0 g aa va ac vc (hg.st hw).1 hR R64_0 hRg) fun (x78:Nat) _=>s_y y_as<|s_nil<|q_then<|c_seq<|c_cut (R:=fun a' w'=>∃ (x88:Option Addr × Nat),∃ (b21:Nat),Fr 120 [(5,I (x:Nat)),(8,.pointer (some ⟨b8,0,none⟩)),(9,.pointer (some ⟨b9,0,none⟩)),(13,.pointer (some ⟨b13,0,none⟩)),(14,.pointer (some ⟨b14,0,none⟩)),(15,.pointer (some ⟨b15,0,none⟩)),(20,.slice (some ⟨x78,0,none⟩) 32 32),(21,.pointer (some ⟨b21,0,none⟩))] [{ target:=.fn (.func 47) #[.pointer (some ⟨b15,0,none⟩)],args:=#[] }] a' ∧ St w [] w' [.blk b21 (.cells #[I (wU k:Nat),.slice x88.1 ((wtx c g k A Y).length) x88.2] 114 (0,0)),.row x88.1 x88.2 5 1 ((wtx c g k A Y).length) (bs (wtx c g k A Y)),.blk x78 (.cells (bs (msg c 0 g)).toArray 69 (0,0)),.blk b15 (.cells #[I 0] 29 (0,0)),.blk b14 (.cells #[I 0,I 0,I 0,I 0,I 0,.slice none 0 0,.slice none 0 0] 56 (0,0)),.blk b9 (.cells #[I g] 3 (0,0)),.blk b8 (.cells #[I c.p,I c.d,I c.v,I c.l,I c.st,.slice aa c.ap.length ac,.slice va c.vt.length vc] 56 (0,0))]) ?_ ?_
  · refine c_regL [.blk x78 (.cells (bs (msg c 0 g)).toArray 69 (0,0)),.blk b19 (.cells (bs (be Y 8)).toArray 120 (0,0)),.blk b18 (.cells (bs (be A 8)).toArray 120 (0,0)),.blk b14 (.cells #[I 0,I 0,I 0,I 0,I 0,.slice none 0 0,.slice none 0 0] 56 (0,0)),.blk b13 (.cells (bs k).toArray 23 (0,0)),.blk b10 (.cells #[I (A:Nat),I (Y:Nat)] 62 (0,0)),.blk b9 (.cells #[I g] 3 (0,0)),.blk b8 (.cells #[I c.p,I c.d,I c.v,I c.l,I c.st,.slice aa c.ap.length ac,.slice va c.vt.length vc] 56 (0,0)),.blk b7 (.cells #[I p.id,I p.rk,.slice ga p.gs.length gc,I p.need,I p.cool] 27 (0,0))]<|r_y 0 rfl y_fa<|r_y 1 rfl (y_ld (b:=b8) (v:=I c.l))<|r_y 2 rfl (y_lda (b:=b13) (cs:=(bs k).toArray) (hl:=(hz32 hk)))<|r_y 3 rfl y_mv<|r_y 4 rfl y_sla<|r_y 5 rfl y_sla<|r_w2 6 12 rfl rfl ?_ ?_ (hsub:=by repeat (first | exact List.nil_sublist _ | exact List.Sublist.refl _ | apply List.Sublist.cons_cons | apply List.Sublist.cons))
    · refine s_bslr (cs:=[.slice (some ⟨b18,0,none⟩) 8 8,.slice (some ⟨b19,0,none⟩) 8 8]) fun b86=>r_K<|r_w2 7 12 rfl rfl ?_ ?_ (hsub:=by repeat (first | exact List.nil_sublist _ | exact List.Sublist.refl _ | apply List.Sublist.cons_cons | apply List.Sublist.cons))
      · refine s_gives (fun w' hw=>concat2 w' (some ⟨b86,0,none⟩) (some ⟨b18,0,none⟩) (some ⟨b19,0,none⟩) 2 8 8 8 8 16 (be A 8) (be Y 8) (bdy A Y) (be_length _ _) (be_length _ _) rfl (bdy_length _ _) (by decide) (rdR (.head _) w' hw) (rd_blkB (e:=120) (.tail _ (.tail _ (.tail _ (.head _)))) w' hw) (rd_blkB (e:=120) (.tail _ (.tail _ (.head _))) w' hw)) fun (x87:Option Addr × Nat) _=>r_K<|r_w2 8 12 rfl rfl ?_ ?_ (hsub:=by repeat (first | exact List.nil_sublist _ | exact List.Sublist.refl _ | apply List.Sublist.cons_cons | apply List.Sublist.cons))
        · refine s_gives (fun w' hw=>wrapQ w' c.l k (msg c 0 g) (bdy A Y) (wtx c g k A Y) (some ⟨x78,0,none⟩) x87.1 32 x87.2 32 16 (hg.st hw) ho.b.fl hk (msg_length _ _ _) (bdy_length _ _) rfl (rd_blkB (e:=69) (.tail _ (.tail _ (.head _))) w' hw) (by decide) (rdR (.head _) w' hw) (by decide)) fun (x88:Option Addr × Nat) _=>r_K<|r_y 9 rfl y_mv<|r_y 10 rfl y_ext<|r_y 11 rfl y_ext<|r_W 12 rfl<|s_alloc fun b21=>r_K<|r_W 13 rfl<|s_sta (b:=b21) (vs:=#[I (wU k:Nat),.slice x88.1 ((wtx c g k A Y).length) x88.2]) (cs:=#[I 0,.slice none 0 0]) (h1:=one_allA rfl) (hl:=rfl) (hs1:=rfl) ?_
          refine r_K<|r_W 14 rfl<|s_st (b:=b15) (v:=I 0) (cs:=#[I 0]) (hl:=by simp) ?_
          refine r_K<|r_E<|?_
          exact fun a' w' ha hw=>⟨rfl,x88,b21,ha.weaken ⟨rfl,rfl,rfl,rfl,rfl,rfl,rfl,rfl,trivial⟩,(hw.sub (l':=[.blk b21 (.cells #[I (wU k:Nat),.slice x88.1 ((wtx c g k A Y).length) x88.2] 114 (0,0)),.row x88.1 x88.2 5 1 ((wtx c g k A Y).length) (bs (wtx c g k A Y)),.blk x78 (.cells (bs (msg c 0 g)).toArray 69 (0,0)),.blk b15 (.cells #[I 0] 29 (0,0)),.blk b14 (.cells #[I 0,I 0,I 0,I 0,I 0,.slice none 0 0,.slice none 0 0] 56 (0,0)),.blk b9 (.cells #[I g] 3 (0,0)),.blk b8 (.cells #[I c.p,I c.d,I c.v,I c.l,I c.st,.slice aa c.ap.length ac,.slice va c.vt.length vc] 56 (0,0))]) (by repeat (first | exact List.nil_sublist _ | exact List.Sublist.refl _ | apply List.Sublist.cons_cons | apply List.Sublist.cons)))⟩
        · refine s_alloc fun b21=>r_K<|r_W 8 rfl<|s_gives (fun w' hw=>wrapQ w' c.l k (msg c 0 g) (bdy A Y) (wtx c g k A Y) (some ⟨x78,0,none⟩) x87.1 32 x87.2 32 16 (hg.st hw) ho.b.fl hk (msg_length _ _ _) (bdy_length _ _) rfl (rd_blkB (e:=69) (.tail _ (.tail _ (.tail _ (.head _)))) w' hw) (by decide) (rdR (.tail _ (.head _)) w' hw) (by decide)) fun (x88:Option Addr × Nat) _=>r_K<|r_y 9 rfl y_mv<|r_y 10 rfl y_ext<|r_y 11 rfl y_ext<|r_W 13 rfl<|s_sta (b:=b21) (vs:=#[I (wU k:Nat),.slice x88.1 ((wtx c g k A Y).length) x88.2]) (cs:=#[I 0,.slice none 0 0]) (h1:=one_allA rfl) (hl:=rfl) (hs1:=rfl) ?_
          refine r_K<|r_W 14 rfl<|s_st (b:=b15) (v:=I 0) (cs:=#[I 0]) (hl:=by simp) ?_
          refine r_K<|r_E<|?_
          exact fun a' w' ha hw=>⟨rfl,x88,b21,ha.weaken ⟨rfl,rfl,rfl,rfl,rfl,rfl,rfl,rfl,trivial⟩,((hw.sub (l':=[.row x88.1 x88.2 5 1 ((wtx c g k A Y).length) (bs (wtx c g k A Y)),.blk b21 (.cells #[I (wU k:Nat),.slice x88.1 ((wtx c g k A Y).length) x88.2] 114 (0,0)),.blk x78 (.cells (bs (msg c 0 g)).toArray 69 (0,0)),.blk b15 (.cells #[I 0] 29 (0,0)),.blk b14 (.cells #[I 0,I 0,I 0,I 0,I 0,.slice none 0 0,.slice none 0 0] 56 (0,0)),.blk b9 (.cells #[I g] 3 (0,0)),.blk b8 (.cells #[I c.p,I c.d,I c.v,I c.l,I c.st,.slice aa c.ap.length ac,.slice va c.vt.length vc] 56 (0,0))]) (by repeat (first | exact List.nil_sublist _ | exact List.Sublist.refl _ | apply List.Sublist.cons_cons | apply List.Sublist.cons))).perm (.swap _ _ _))⟩
      · refine s_alloc fun b21=>r_K<|r_W 7 rfl<|s_gives (fun w' hw=>concat2 w' (some ⟨b86,0,none⟩) (some ⟨b18,0,none⟩) (some ⟨b19,0,none⟩) 2 8 8 8 8 16 (be A 8) (be Y 8) (bdy A Y) (be_length _ _) (be_length _ _) rfl (bdy_length _ _) (by decide) (rdR (.tail _ (.head _)) w' hw) (rd_blkB (e:=120) (.tail _ (.tail _ (.tail _ (.tail _ (.head _))))) w' hw) (rd_blkB (e:=120) (.tail _ (.tail _ (.tail _ (.head _)))) w' hw)) fun (x87:Option Addr × Nat) _=>r_K<|r_W 8 rfl<|s_gives (fun w' hw=>wrapQ w' c.l k (msg c 0 g) (bdy A Y) (wtx c g k A Y) (some ⟨x78,0,none⟩) x87.1 32 x87.2 32 16 (hg.st hw) ho.b.fl hk (msg_length _ _ _) (bdy_length _ _) rfl (rd_blkB (e:=69) (.tail _ (.tail _ (.tail _ (.head _)))) w' hw) (by decide) (rdR (.head _) w' hw) (by decide)) fun (x88:Option Addr × Nat) _=>r_K<|r_y 9 rfl y_mv<|r_y 10 rfl y_ext<|r_y 11 rfl y_ext<|r_W 13 rfl<|s_sta (b:=b21) (vs:=#[I (wU k:Nat),.slice x88.1 ((wtx c g k A Y).length) x88.2]) (cs:=#[I 0,.slice none 0 0]) (h1:=one_allA rfl) (hl:=rfl) (hs1:=rfl) ?_
        refine r_K<|r_W 14 rfl<|s_st (b:=b15) (v:=I 0) (cs:=#[I 0]) (hl:=by simp) ?_
        refine r_K<|r_E<|?_
        exact fun a' w' ha hw=>⟨rfl,x88,b21,ha.weaken ⟨rfl,rfl,rfl,rfl,rfl,rfl,rfl,rfl,trivial⟩,((hw.sub (l':=[.row x88.1 x88.2 5 1 ((wtx c g k A Y).length) (bs (wtx c g k A Y)),.blk b21 (.cells #[I (wU k:Nat),.slice x88.1 ((wtx c g k A Y).length) x88.2] 114 (0,0)),.blk x78 (.cells (bs (msg c 0 g)).toArray 69 (0,0)),.blk b15 (.cells #[I 0] 29 (0,0)),.blk b14 (.cells #[I 0,I 0,I 0,I 0,I 0,.slice none 0 0,.slice none 0 0] 56 (0,0)),.blk b9 (.cells #[I g] 3 (0,0)),.blk b8 (.cells #[I c.p,I c.d,I c.v,I c.l,I c.st,.slice aa c.ap.length ac,.slice va c.vt.length vc] 56 (0,0))]) (by repeat (first | exact List.nil_sublist _ | exact List.Sublist.refl _ | apply List.Sublist.cons_cons | apply List.Sublist.cons))).perm (.swap _ _ _))⟩
    · refine s_alloc fun b21=>r_K<|r_W 6 rfl<|s_bslr (cs:=[.slice (some ⟨b18,0,none⟩) 8 8,.slice (some ⟨b19,0,none⟩) 8 8]) fun b86=>r_K<|r_W 7 rfl<|s_gives (fun w' hw=>concat2 w' (some ⟨b86,0,none⟩) (some ⟨b18,0,none⟩) (some ⟨b19,0,none⟩) 2 8 8 8 8 16 (be A 8) (be Y 8) (bdy A Y) (be_length _ _) (be_length _ _) rfl (bdy_length _ _) (by decide) (rdR (.head _) w' hw) (rd_blkB (e:=120) (.tail _ (.tail _ (.tail _ (.tail _ (.head _))))) w' hw) (rd_blkB (e:=120) (.tail _ (.tail _ (.tail _ (.head _)))) w' hw)) fun (x87:Option Addr × Nat) _=>r_K<|r_W 8 rfl<|s_gives (fun w' hw=>wrapQ w' c.l k (msg c 0 g) (bdy A Y) (wtx c g k A Y) (some ⟨x78,0,none⟩) x87.1 32 x87.2 32 16 (hg.st hw) ho.b.fl hk (msg_length _ _ _) (bdy_length _ _) rfl (rd_blkB (e:=69) (.tail _ (.tail _ (.tail _ (.head _)))) w' hw) (by decide) (rdR (.head _) w' hw) (by decide)) fun (x88:Option Addr × Nat) _=>r_K<|r_y 9 rfl y_mv<|r_y 10 rfl y_ext<|r_y 11 rfl y_ext<|r_W 13 rfl<|s_sta (b:=b21) (vs:=#[I (wU k:Nat),.slice x88.1 ((wtx c g k A Y).length) x88.2]) (cs:=#[I 0,.slice none 0 0]) (h1:=one_allA rfl) (hl:=rfl) (hs1:=rfl) ?_
      refine r_K<|r_W 14 rfl<|s_st (b:=b15) (v:=I 0) (cs:=#[I 0]) (hl:=by simp) ?_
      refine r_K<|r_E<|?_
      exact fun a' w' ha hw=>⟨rfl,x88,b21,ha.weaken ⟨rfl,rfl,rfl,rfl,rfl,rfl,rfl,rfl,trivial⟩,((hw.sub (l':=[.row x88.1 x88.2 5 1 ((wtx c g k A Y).length) (bs (wtx c g k A Y)),.blk b21 (.cells #[I (wU k:Nat),.slice x88.1 ((wtx c g k A Y).length) x88.2] 114 (0,0)),.blk x78 (.cells (bs (msg c 0 g)).toArray 69 (0,0)),.blk b15 (.cells #[I 0] 29 (0,0)),.blk b14 (.cells #[I 0,I 0,I 0,I 0,I 0,.slice none 0 0,.slice none 0 0] 56 (0,0)),.blk b9 (.cells #[I g] 3 (0,0)),.blk b8 (.cells #[I c.p,I c.d,I c.v,I c.l,I c.st,.slice aa c.ap.length ac,.slice va c.vt.length vc] 56 (0,0))]) (by repeat (first | exact List.nil_sublist _ | exact List.Sublist.refl _ | apply List.Sublist.cons_cons | apply List.Sublist.cons))).perm (.swap _ _ _))⟩
  rintro a10' w10' ⟨x88,b21,ha10',hw10'⟩
  refine (show CP none Tryz.prog 120 [{ target:=.fn (.func 47) #[.pointer (some ⟨b15,0,none⟩)],args:=#[] }] w [] _ _ [(5,I (x:Nat)),(8,.pointer (some ⟨b8,0,none⟩)),(9,.pointer (some ⟨b9,0,none⟩)),(13,.pointer (some ⟨b13,0,none⟩)),(14,.pointer (some ⟨b14,0,none⟩)),(15,.pointer (some ⟨b15,0,none⟩)),(20,.slice (some ⟨x78,0,none⟩) 32 32),(21,.pointer (some ⟨b21,0,none⟩))] [.blk b21 (.cells #[I (wU k:Nat),.slice x88.1 ((wtx c g k A Y).length) x88.2] 114 (0,0)),.row x88.1 x88.2 5 1 ((wtx c g k A Y).length) (bs (wtx c g k A Y)),.blk x78 (.cells (bs (msg c 0 g)).toArray 69 (0,0)),.blk b15 (.cells #[I 0] 29 (0,0)),.blk b14 (.cells #[I 0,I 0,I 0,I 0,I 0,.slice none 0 0,.slice none 0 0] 56 (0,0)),.blk b9 (.cells #[I g] 3 (0,0)),.blk b8 (.cells #[I c.p,I c.d,I c.v,I c.l,I c.st,.slice aa c.ap.length ac,.slice va c.vt.length vc] 56 (0,0))] from ?_) a10' w10' ha10' hw10'
  clear ha10' hw10'
  refine c_seq<|c_reg<|s_y (y_ld (b:=b15) (v:=I 0))<|s_pure (fun w' hw=>try_ok w')<|s_nil<|q_then<|c_seq<|c_reg<|s_y y_fa<|s_y (y_ld (b:=b21) (v:=I (wU k:Nat)))<|s_pure (fun w' hw=>numN_ok w' (wU k))<|s_alloc fun b22=>s_sta (b:=b22) (vs:=(bs (be (wU k) 8)).toArray) (cs:=(bs (List.replicate 8 0)).toArray) (h1:=fun v hv=>bs_one (by simpa using hv)) (hl:=by simp [bs_length,List.length_replicate,(be_length _ _)]) (hs1:=(by simp [bs_length,(be_length _ _)])) ?_
  refine s_nil<|q_then<|c_seq<|c_cut (R:=fun a' w'=>∃ (b23:Nat),Fr 120 [(8,.pointer (some ⟨b8,0,none⟩)),(9,.pointer (some ⟨b9,0,none⟩)),(14,.pointer (some ⟨b14,0,none⟩)),(15,.pointer (some ⟨b15,0,none⟩)),(21,.pointer (some ⟨b21,0,none⟩)),(23,.pointer (some ⟨b23,0,none⟩))] [{ target:=.fn (.func 47) #[.pointer (some ⟨b15,0,none⟩)],args:=#[] }] a' ∧ St w [] w' [.blk b23 (.cells #[I (sgR x (sgt c g k A Y):Nat),I (sgS x (sgt c g k A Y):Nat)] 43 (0,0)),.blk b21 (.cells #[I (wU k:Nat),.slice x88.1 ((wtx c g k A Y).length) x88.2] 114 (0,0)),.row x88.1 x88.2 5 1 ((wtx c g k A Y).length) (bs (wtx c g k A Y)),.blk b15 (.cells #[I 0] 29 (0,0)),.blk b14 (.cells #[I 0,I 0,I 0,I 0,I 0,.slice none 0 0,.slice none 0 0] 56 (0,0)),.blk b9 (.cells #[I g] 3 (0,0)),.blk b8 (.cells #[I c.p,I c.d,I c.v,I c.l,I c.st,.slice aa c.ap.length ac,.slice va c.vt.length vc] 56 (0,0))]) ?_ ?_
  · refine c_regL [.blk b22 (.cells (bs (be (wU k) 8)).toArray 120 (0,0)),.blk b21 (.cells #[I (wU k:Nat),.slice x88.1 ((wtx c g k A Y).length) x88.2] 114 (0,0)),.row x88.1 x88.2 5 1 ((wtx c g k A Y).length) (bs (wtx c g k A Y)),.blk x78 (.cells (bs (msg c 0 g)).toArray 69 (0,0)),.blk b14 (.cells #[I 0,I 0,I 0,I 0,I 0,.slice none 0 0,.slice none 0 0] 56 (0,0)),.blk b9 (.cells #[I g] 3 (0,0)),.blk b8 (.cells #[I c.p,I c.d,I c.v,I c.l,I c.st,.slice aa c.ap.length ac,.slice va c.vt.length vc] 56 (0,0))]<|r_y 0 rfl y_mv<|r_y 1 rfl y_mv<|r_y 2 rfl y_sla<|r_y 3 rfl y_fa<|r_y 4 rfl (y_ld (b:=b21) (v:=.slice x88.1 ((wtx c g k A Y).length) x88.2))<|r_w2 5 11 rfl rfl ?_ ?_ (hsub:=by repeat (first | exact List.nil_sublist _ | exact List.Sublist.refl _ | apply List.Sublist.cons_cons | apply List.Sublist.cons))
    · refine s_bslr (cs:=[.slice (some ⟨x78,0,none⟩) 32 32,.slice (some ⟨b22,0,none⟩) 8 8,.slice x88.1 ((wtx c g k A Y).length) x88.2]) fun b102=>r_K<|r_w2 6 11 rfl rfl ?_ ?_ (hsub:=by repeat (first | exact List.nil_sublist _ | exact List.Sublist.refl _ | apply List.Sublist.cons_cons | apply List.Sublist.cons))
      · refine s_gives (fun w' hw=>concat3 w' (some ⟨b102,0,none⟩) (some ⟨x78,0,none⟩) (some ⟨b22,0,none⟩) x88.1 3 32 32 8 8 ((wtx c g k A Y).length) x88.2 72 (msg c 0 g) (be (wU k) 8) (wtx c g k A Y) (sgt c g k A Y) (msg_length _ _ _) (be_length _ _) rfl rfl (sgt_length _ _ _ _ _) (by decide) (rdR (.head _) w' hw) (rd_blkB (e:=69) (.tail _ (.tail _ (.tail _ (.tail _ (.head _))))) w' hw) (rd_blkB (e:=120) (.tail _ (.head _)) w' hw) (rdR (.tail _ (.tail _ (.tail _ (.head _)))) w' hw)) fun (x103:Option Addr × Nat) _=>r_K<|r_w2 7 11 rfl rfl ?_ ?_ (hsub:=by repeat (first | exact List.nil_sublist _ | exact List.Sublist.refl _ | apply List.Sublist.cons_cons | apply List.Sublist.cons))
        · refine s_pure (fun w' hw=>signQ w' x103.1 x103.2 72 x (sgt c g k A Y) (hg.st hw).1 (sgt_length _ _ _ _ _) (rdR (.head _) w' hw) (by decide) hx0 hx)<|r_K<|r_y 8 rfl y_mv<|r_y 9 rfl y_ext<|r_y 10 rfl y_ext<|r_W 11 rfl<|s_alloc fun b23=>r_K<|r_W 12 rfl<|s_sta (b:=b23) (vs:=#[I (sgR x (sgt c g k A Y):Nat),I (sgS x (sgt c g k A Y):Nat)]) (cs:=#[I 0,I 0]) (h1:=one_allA rfl) (hl:=rfl) (hs1:=rfl) ?_
          refine r_K<|r_W 13 rfl<|s_st (b:=b15) (v:=I 0) (cs:=#[I 0]) (hl:=by simp) ?_
          refine r_K<|r_E<|?_
          exact fun a' w' ha hw=>⟨rfl,b23,ha.weaken ⟨rfl,rfl,rfl,rfl,rfl,rfl,trivial⟩,(hw.sub (l':=[.blk b23 (.cells #[I (sgR x (sgt c g k A Y):Nat),I (sgS x (sgt c g k A Y):Nat)] 43 (0,0)),.blk b21 (.cells #[I (wU k:Nat),.slice x88.1 ((wtx c g k A Y).length) x88.2] 114 (0,0)),.row x88.1 x88.2 5 1 ((wtx c g k A Y).length) (bs (wtx c g k A Y)),.blk b15 (.cells #[I 0] 29 (0,0)),.blk b14 (.cells #[I 0,I 0,I 0,I 0,I 0,.slice none 0 0,.slice none 0 0] 56 (0,0)),.blk b9 (.cells #[I g] 3 (0,0)),.blk b8 (.cells #[I c.p,I c.d,I c.v,I c.l,I c.st,.slice aa c.ap.length ac,.slice va c.vt.length vc] 56 (0,0))]) (by repeat (first | exact List.nil_sublist _ | exact List.Sublist.refl _ | apply List.Sublist.cons_cons | apply List.Sublist.cons)))⟩
        · refine s_alloc fun b23=>r_K<|r_W 7 rfl<|s_pure (fun w' hw=>signQ w' x103.1 x103.2 72 x (sgt c g k A Y) (hg.st hw).1 (sgt_length _ _ _ _ _) (rdR (.tail _ (.head _)) w' hw) (by decide) hx0 hx)<|r_K<|r_y 8 rfl y_mv<|r_y 9 rfl y_ext<|r_y 10 rfl y_ext<|r_W 12 rfl<|s_sta (b:=b23) (vs:=#[I (sgR x (sgt c g k A Y):Nat),I (sgS x (sgt c g k A Y):Nat)]) (cs:=#[I 0,I 0]) (h1:=one_allA rfl) (hl:=rfl) (hs1:=rfl) ?_
          refine r_K<|r_W 13 rfl<|s_st (b:=b15) (v:=I 0) (cs:=#[I 0]) (hl:=by simp) ?_
          refine r_K<|r_E<|?_
          exact fun a' w' ha hw=>⟨rfl,b23,ha.weaken ⟨rfl,rfl,rfl,rfl,rfl,rfl,trivial⟩,(hw.sub (l':=[.blk b23 (.cells #[I (sgR x (sgt c g k A Y):Nat),I (sgS x (sgt c g k A Y):Nat)] 43 (0,0)),.blk b21 (.cells #[I (wU k:Nat),.slice x88.1 ((wtx c g k A Y).length) x88.2] 114 (0,0)),.row x88.1 x88.2 5 1 ((wtx c g k A Y).length) (bs (wtx c g k A Y)),.blk b15 (.cells #[I 0] 29 (0,0)),.blk b14 (.cells #[I 0,I 0,I 0,I 0,I 0,.slice none 0 0,.slice none 0 0] 56 (0,0)),.blk b9 (.cells #[I g] 3 (0,0)),.blk b8 (.cells #[I c.p,I c.d,I c.v,I c.l,I c.st,.slice aa c.ap.length ac,.slice va c.vt.length vc] 56 (0,0))]) (by repeat (first | exact List.nil_sublist _ | exact List.Sublist.refl _ | apply List.Sublist.cons_cons | apply List.Sublist.cons)))⟩
      · refine s_alloc fun b23=>r_K<|r_W 6 rfl<|s_gives (fun w' hw=>concat3 w' (some ⟨b102,0,none⟩) (some ⟨x78,0,none⟩) (some ⟨b22,0,none⟩) x88.1 3 32 32 8 8 ((wtx c g k A Y).length) x88.2 72 (msg c 0 g) (be (wU k) 8) (wtx c g k A Y) (sgt c g k A Y) (msg_length _ _ _) (be_length _ _) rfl rfl (sgt_length _ _ _ _ _) (by decide) (rdR (.tail _ (.head _)) w' hw) (rd_blkB (e:=69) (.tail _ (.tail _ (.tail _ (.tail _ (.tail _ (.head _)))))) w' hw) (rd_blkB (e:=120) (.tail _ (.tail _ (.head _))) w' hw) (rdR (.tail _ (.tail _ (.tail _ (.tail _ (.head _))))) w' hw)) fun (x103:Option Addr × Nat) _=>r_K<|r_W 7 rfl<|s_pure (fun w' hw=>signQ w' x103.1 x103.2 72 x (sgt c g k A Y) (hg.st hw).1 (sgt_length _ _ _ _ _) (rdR (.head _) w' hw) (by decide) hx0 hx)<|r_K<|r_y 8 rfl y_mv<|r_y 9 rfl y_ext<|r_y 10 rfl y_ext<|r_W 12 rfl<|s_sta (b:=b23) (vs:=#[I (sgR x (sgt c g k A Y):Nat),I (sgS x (sgt c g k A Y):Nat)]) (cs:=#[I 0,I 0]) (h1:=one_allA rfl) (hl:=rfl) (hs1:=rfl) ?_
        refine r_K<|r_W 13 rfl<|s_st (b:=b15) (v:=I 0) (cs:=#[I 0]) (hl:=by simp) ?_
        refine r_K<|r_E<|?_
        exact fun a' w' ha hw=>⟨rfl,b23,ha.weaken ⟨rfl,rfl,rfl,rfl,rfl,rfl,trivial⟩,(hw.sub (l':=[.blk b23 (.cells #[I (sgR x (sgt c g k A Y):Nat),I (sgS x (sgt c g k A Y):Nat)] 43 (0,0)),.blk b21 (.cells #[I (wU k:Nat),.slice x88.1 ((wtx c g k A Y).length) x88.2] 114 (0,0)),.row x88.1 x88.2 5 1 ((wtx c g k A Y).length) (bs (wtx c g k A Y)),.blk b15 (.cells #[I 0] 29 (0,0)),.blk b14 (.cells #[I 0,I 0,I 0,I 0,I 0,.slice none 0 0,.slice none 0 0] 56 (0,0)),.blk b9 (.cells #[I g] 3 (0,0)),.blk b8 (.cells #[I c.p,I c.d,I c.v,I c.l,I c.st,.slice aa c.ap.length ac,.slice va c.vt.length vc] 56 (0,0))]) (by repeat (first | exact List.nil_sublist _ | exact List.Sublist.refl _ | apply List.Sublist.cons_cons | apply List.Sublist.cons)))⟩
    · refine s_alloc fun b23=>r_K<|r_W 5 rfl<|s_bslr (cs:=[.slice (some ⟨x78,0,none⟩) 32 32,.slice (some ⟨b22,0,none⟩) 8 8,.slice x88.1 ((wtx c g k A Y).length) x88.2]) fun b102=>r_K<|r_W 6 rfl<|s_gives (fun w' hw=>concat3 w' (some ⟨b102,0,none⟩) (some ⟨x78,0,none⟩) (some ⟨b22,0,none⟩) x88.1 3 32 32 8 8 ((wtx c g k A Y).length) x88.2 72 (msg c 0 g) (be (wU k) 8) (wtx c g k A Y) (sgt c g k A Y) (msg_length _ _ _) (be_length _ _) rfl rfl (sgt_length _ _ _ _ _) (by decide) (rdR (.head _) w' hw) (rd_blkB (e:=69) (.tail _ (.tail _ (.tail _ (.tail _ (.tail _ (.head _)))))) w' hw) (rd_blkB (e:=120) (.tail _ (.tail _ (.head _))) w' hw) (rdR (.tail _ (.tail _ (.tail _ (.tail _ (.head _))))) w' hw)) fun (x103:Option Addr × Nat) _=>r_K<|r_W 7 rfl<|s_pure (fun w' hw=>signQ w' x103.1 x103.2 72 x (sgt c g k A Y) (hg.st hw).1 (sgt_length _ _ _ _ _) (rdR (.head _) w' hw) (by decide) hx0 hx)<|r_K<|r_y 8 rfl y_mv<|r_y 9 rfl y_ext<|r_y 10 rfl y_ext<|r_W 12 rfl<|s_sta (b:=b23) (vs:=#[I (sgR x (sgt c g k A Y):Nat),I (sgS x (sgt c g k A Y):Nat)]) (cs:=#[I 0,I 0]) (h1:=one_allA rfl) (hl:=rfl) (hs1:=rfl) ?_
      refine r_K<|r_W 13 rfl<|s_st (b:=b15) (v:=I 0) (cs:=#[I 0]) (hl:=by simp) ?_
      refine r_K<|r_E<|?_
      exact fun a' w' ha hw=>⟨rfl,b23,ha.weaken ⟨rfl,rfl,rfl,rfl,rfl,rfl,trivial⟩,(hw.sub (l':=[.blk b23 (.cells #[I (sgR x (sgt c g k A Y):Nat),I (sgS x (sgt c g k A Y):Nat)] 43 (0,0)),.blk b21 (.cells #[I (wU k:Nat),.slice x88.1 ((wtx c g k A Y).length) x88.2] 114 (0,0)),.row x88.1 x88.2 5 1 ((wtx c g k A Y).length) (bs (wtx c g k A Y)),.blk b15 (.cells #[I 0] 29 (0,0)),.blk b14 (.cells #[I 0,I 0,I 0,I 0,I 0,.slice none 0 0,.slice none 0 0] 56 (0,0)),.blk b9 (.cells #[I g] 3 (0,0)),.blk b8 (.cells #[I c.p,I c.d,I c.v,I c.l,I c.st,.slice aa c.ap.length ac,.slice va c.vt.length vc] 56 (0,0))]) (by repeat (first | exact List.nil_sublist _ | exact List.Sublist.refl _ | apply List.Sublist.cons_cons | apply List.Sublist.cons)))⟩
  rintro a13' w13' ⟨b23,ha13',hw13'⟩
  refine (show CP none Tryz.prog 120 [{ target:=.fn (.func 47) #[.pointer (some ⟨b15,0,none⟩)],args:=#[] }] w [] _ _ [(8,.pointer (some ⟨b8,0,none⟩)),(9,.pointer (some ⟨b9,0,none⟩)),(14,.pointer (some ⟨b14,0,none⟩)),(15,.pointer (some ⟨b15,0,none⟩)),(21,.pointer (some ⟨b21,0,none⟩)),(23,.pointer (some ⟨b23,0,none⟩))] [.blk b23 (.cells #[I (sgR x (sgt c g k A Y):Nat),I (sgS x (sgt c g k A Y):Nat)] 43 (0,0)),.blk b21 (.cells #[I (wU k:Nat),.slice x88.1 ((wtx c g k A Y).length) x88.2] 114 (0,0)),.row x88.1 x88.2 5 1 ((wtx c g k A Y).length) (bs (wtx c g k A Y)),.blk b15 (.cells #[I 0] 29 (0,0)),.blk b14 (.cells #[I 0,I 0,I 0,I 0,I 0,.slice none 0 0,.slice none 0 0] 56 (0,0)),.blk b9 (.cells #[I g] 3 (0,0)),.blk b8 (.cells #[I c.p,I c.d,I c.v,I c.l,I c.st,.slice aa c.ap.length ac,.slice va c.vt.length vc] 56 (0,0))] from ?_) a13' w13' ha13' hw13'
  clear ha13' hw13'
  refine c_seq<|c_reg<|s_y (y_ld (b:=b15) (v:=I 0))<|s_pure (fun w' hw=>try_ok w')<|s_nil<|q_then<|c_seq<|c_cut (R:=fun a' w'=>∃ (b117:Nat),∃ (c117:Nat),Fr 120 [(8,.pointer (some ⟨b8,0,none⟩)),(14,.pointer (some ⟨b14,0,none⟩)),(15,.pointer (some ⟨b15,0,none⟩))] [{ target:=.fn (.func 47) #[.pointer (some ⟨b15,0,none⟩)],args:=#[] }] a' ∧ St w [] w' [.row (some ⟨b117,0,none⟩) c117 116 5 (c.ap.length + 1) (apc (c.ap ++ [nAp c g k A Y x x88.1 x88.2])),.row x88.1 x88.2 5 1 ((wtx c g k A Y).length) (bs (wtx c g k A Y)),.blk b15 (.cells #[I 0] 29 (0,0)),.blk b14 (.cells #[I 0,I 0,I 0,I 0,I 0,.slice none 0 0,.slice none 0 0] 56 (0,0)),.blk b8 (.cells #[I c.p,I c.d,I c.v,I c.l,I c.st,.slice (some ⟨b117,0,none⟩) (c.ap.length + 1) c117,.slice va c.vt.length vc] 56 (0,0))]) ?_ ?_
  · refine c_regGB [.blk b23 (.cells #[I (sgR x (sgt c g k A Y):Nat),I (sgS x (sgt c g k A Y):Nat)] 43 (0,0)),.blk b21 (.cells #[I (wU k:Nat),.slice x88.1 ((wtx c g k A Y).length) x88.2] 114 (0,0)),.row x88.1 x88.2 5 1 ((wtx c g k A Y).length) (bs (wtx c g k A Y)),.blk b15 (.cells #[I 0] 29 (0,0)),.blk b14 (.cells #[I 0,I 0,I 0,I 0,I 0,.slice none 0 0,.slice none 0 0] 56 (0,0)),.blk b9 (.cells #[I g] 3 (0,0)),.blk b8 (.cells #[I c.p,I c.d,I c.v,I c.l,I c.st,.slice aa c.ap.length ac,.slice va c.vt.length vc] 56 (0,0))] (.cons_cons _ (.cons_cons _ (.cons_cons _ (.cons_cons _ (.cons_cons _ (.cons_cons _ (.cons_cons _ (List.nil_sublist _)))))))) 10<|f_y 0 rfl y_fa<|f_y 1 rfl (y_ld (b:=b8) (v:=.slice aa c.ap.length ac))<|f_y 3 rfl (y_ld (b:=b9) (v:=I g))<|f_y 4 rfl (y_lda (b:=b21) (cs:=#[I (wU k:Nat),.slice x88.1 ((wtx c g k A Y).length) x88.2]) (hl:=rfl))<|f_y 5 rfl (y_lda (b:=b23) (cs:=#[I (sgR x (sgt c g k A Y):Nat),I (sgS x (sgt c g k A Y):Nat)]) (hl:=rfl))<|f_y 6 rfl (y_bapr (cs:=[I g,I (wU k:Nat),.slice x88.1 ((wtx c g k A Y).length) x88.2,I (sgR x (sgt c g k A Y):Nat),I (sgS x (sgt c g k A Y):Nat)]))<|f_w2 2 7 rfl rfl ?_ ?_ (hsub:=by repeat (first | exact List.nil_sublist _ | exact List.Sublist.refl _ | apply List.Sublist.cons_cons | apply List.Sublist.cons))
    · refine s_pure (fun w' hw=>ClipA_ok w' aa c.ap.length ac hac)<|f_kkB<|f_w 7 rfl (hsub:=by repeat (first | exact List.nil_sublist _ | exact List.Sublist.refl _ | apply List.Sublist.cons_cons | apply List.Sublist.cons))<|s_bslr (cs:=[I g,I (wU k:Nat),.slice x88.1 ((wtx c g k A Y).length) x88.2,I (sgR x (sgt c g k A Y):Nat),I (sgS x (sgt c g k A Y):Nat)]) fun b116=>f_kkB<|f_w 8 rfl (hsub:=by repeat (first | exact List.nil_sublist _ | exact List.Sublist.refl _ | apply List.Sublist.cons_cons | apply List.Sublist.cons))<|s_appN (m:=1) (xs:=apc c.ap) (rdW0 hra) (fun w' hw=>Src.slice (rdR (.head _) w' hw) rfl) (hl:=apc_length _) (hud:=.inl ⟨_,rfl⟩) fun b117 c117=>?_
      rw [show apc c.ap ++ [I g,I (wU k:Nat),.slice x88.1 ((wtx c g k A Y).length) x88.2,I (sgR x (sgt c g k A Y):Nat),I (sgS x (sgt c g k A Y):Nat)] = apc (c.ap ++ [nAp c g k A Y x x88.1 x88.2]) from apc_snoc c.ap _ _ rfl]
      refine f_kkB<|f_y 9 rfl y_fa<|f_w 10 rfl (hsub:=by repeat (first | exact List.nil_sublist _ | exact List.Sublist.refl _ | apply List.Sublist.cons_cons | apply List.Sublist.cons))<|s_st (b:=b8) (v:=.slice (some ⟨b117,0,none⟩) (c.ap.length + 1) c117) (cs:=#[I c.p,I c.d,I c.v,I c.l,I c.st,.slice aa c.ap.length ac,.slice va c.vt.length vc]) (hl:=by simp) ?_
      refine f_z<|?_
      exact fun a' w' ha hw=>⟨rfl,b117,c117,ha.weaken ⟨rfl,rfl,rfl,trivial⟩,(hw.sub (l':=[.row (some ⟨b117,0,none⟩) c117 116 5 (c.ap.length + 1) (apc (c.ap ++ [nAp c g k A Y x x88.1 x88.2])),.row x88.1 x88.2 5 1 ((wtx c g k A Y).length) (bs (wtx c g k A Y)),.blk b15 (.cells #[I 0] 29 (0,0)),.blk b14 (.cells #[I 0,I 0,I 0,I 0,I 0,.slice none 0 0,.slice none 0 0] 56 (0,0)),.blk b8 (.cells #[I c.p,I c.d,I c.v,I c.l,I c.st,.slice (some ⟨b117,0,none⟩) (c.ap.length + 1) c117,.slice va c.vt.length vc] 56 (0,0))]) (by repeat (first | exact List.nil_sublist _ | exact List.Sublist.refl _ | apply List.Sublist.cons_cons | apply List.Sublist.cons)))⟩
    · refine s_bslr (cs:=[I g,I (wU k:Nat),.slice x88.1 ((wtx c g k A Y).length) x88.2,I (sgR x (sgt c g k A Y):Nat),I (sgS x (sgt c g k A Y):Nat)]) fun b116=>f_kkB<|f_w 2 rfl (hsub:=by repeat (first | exact List.nil_sublist _ | exact List.Sublist.refl _ | apply List.Sublist.cons_cons | apply List.Sublist.cons))<|s_pure (fun w' hw=>ClipA_ok w' aa c.ap.length ac hac)<|f_kkB<|f_w 8 rfl (hsub:=by repeat (first | exact List.nil_sublist _ | exact List.Sublist.refl _ | apply List.Sublist.cons_cons | apply List.Sublist.cons))<|s_appN (m:=1) (xs:=apc c.ap) (rdW0 hra) (fun w' hw=>Src.slice (rdR (.head _) w' hw) rfl) (hl:=apc_length _) (hud:=.inl ⟨_,rfl⟩) fun b117 c117=>?_
      rw [show apc c.ap ++ [I g,I (wU k:Nat),.slice x88.1 ((wtx c g k A Y).length) x88.2,I (sgR x (sgt c g k A Y):Nat),I (sgS x (sgt c g k A Y):Nat)] = apc (c.ap ++ [nAp c g k A Y x x88.1 x88.2]) from apc_snoc c.ap _ _ rfl]
      refine f_kkB<|f_y 9 rfl y_fa<|f_w 10 rfl (hsub:=by repeat (first | exact List.nil_sublist _ | exact List.Sublist.refl _ | apply List.Sublist.cons_cons | apply List.Sublist.cons))<|s_st (b:=b8) (v:=.slice (some ⟨b117,0,none⟩) (c.ap.length + 1) c117) (cs:=#[I c.p,I c.d,I c.v,I c.l,I c.st,.slice aa c.ap.length ac,.slice va c.vt.length vc]) (hl:=by simp) ?_
      refine f_z<|?_
      exact fun a' w' ha hw=>⟨rfl,b117,c117,ha.weaken ⟨rfl,rfl,rfl,trivial⟩,(hw.sub (l':=[.row (some ⟨b117,0,none⟩) c117 116 5 (c.ap.length + 1) (apc (c.ap ++ [nAp c g k A Y x x88.1 x88.2])),.row x88.1 x88.2 5 1 ((wtx c g k A Y).length) (bs (wtx c g k A Y)),.blk b15 (.cells #[I 0] 29 (0,0)),.blk b14 (.cells #[I 0,I 0,I 0,I 0,I 0,.slice none 0 0,.slice none 0 0] 56 (0,0)),.blk b8 (.cells #[I c.p,I c.d,I c.v,I c.l,I c.st,.slice (some ⟨b117,0,none⟩) (c.ap.length + 1) c117,.slice va c.vt.length vc] 56 (0,0))]) (by repeat (first | exact List.nil_sublist _ | exact List.Sublist.refl _ | apply List.Sublist.cons_cons | apply List.Sublist.cons)))⟩
  rintro a15' w15' ⟨b117,c117,ha15',hw15'⟩
  refine (show CP none Tryz.prog 120 [{ target:=.fn (.func 47) #[.pointer (some ⟨b15,0,none⟩)],args:=#[] }] w [] _ _ [(8,.pointer (some ⟨b8,0,none⟩)),(14,.pointer (some ⟨b14,0,none⟩)),(15,.pointer (some ⟨b15,0,none⟩))] [.row (some ⟨b117,0,none⟩) c117 116 5 (c.ap.length + 1) (apc (c.ap ++ [nAp c g k A Y x x88.1 x88.2])),.row x88.1 x88.2 5 1 ((wtx c g k A Y).length) (bs (wtx c g k A Y)),.blk b15 (.cells #[I 0] 29 (0,0)),.blk b14 (.cells #[I 0,I 0,I 0,I 0,I 0,.slice none 0 0,.slice none 0 0] 56 (0,0)),.blk b8 (.cells #[I c.p,I c.d,I c.v,I c.l,I c.st,.slice (some ⟨b117,0,none⟩) (c.ap.length + 1) c117,.slice va c.vt.length vc] 56 (0,0))] from ?_) a15' w15' ha15' hw15'
  clear ha15' hw15'
  refine c_seq<|c_reg<|s_y (y_lda (b:=b8) (cs:=#[I c.p,I c.d,I c.v,I c.l,I c.st,.slice (some ⟨b117,0,none⟩) (c.ap.length + 1) c117,.slice va c.vt.length vc]) (hl:=rfl))<|s_sta (b:=b14) (vs:=#[I c.p,I c.d,I c.v,I c.l,I c.st,.slice (some ⟨b117,0,none⟩) (c.ap.length + 1) c117,.slice va c.vt.length vc]) (cs:=#[I 0,I 0,I 0,I 0,I 0,.slice none 0 0,.slice none 0 0]) (h1:=one_allA rfl) (hl:=rfl) (hs1:=rfl) ?_
  refine s_st (b:=b15) (v:=I 0) (cs:=#[I 0]) (hl:=by simp) ?_
  refine s_nil<|q_then<|c_ret<|?_
  exact leave_R (cs:=[.pointer (some ⟨b15,0,none⟩)]) (fun w' hw=>rcApprove_R w' b15) Tryz.results12 (.cons (rv_ca (b:=b14) (cs:=#[I c.p,I c.d,I c.v,I c.l,I c.st,.slice (some ⟨b117,0,none⟩) (c.ap.length + 1) c117,.slice va c.vt.length vc]) (hl:=rfl)) (.cons (rv_cf (v:=I 0)) .nil)) fun w' hw=>⟨⟨some ⟨b117,0,none⟩,c117,x88.1,x88.2⟩,trivial,rfl,hw.sub (by repeat (first | exact List.nil_sublist _ | exact List.Sublist.refl _ | apply List.Sublist.cons_cons | apply List.Sublist.cons))⟩
end Go.Proofs.YtegfmbefhpagmaaGreatDoor
end
section
namespace Rst
open Go Eng Gf
theorem scI {x:Int}:sc x = true ↔ (0:Int) ≤ x ∧ (x:Int) ≤ 2305843009213688668:=by
  unfold sc; simp only [Bool.and_eq_true,decide_eq_true_eq]; omega
end Rst
namespace Go.Proofs.YtegfmbefhpagmaaGreatDoor
open Go Eng Gf Sha Sig Wr Cod Cha Rst
end Go.Proofs.YtegfmbefhpagmaaGreatDoor
end
section
namespace Rst
open Go Eng Gf
/-- a valid listing -/
structure LsRt (x:Ls):Prop where
  d:0 ≤ x.d ∧ x.d < 512
  v:chk x.v = 0
  l:chk x.l = 0
  ver:1 ≤ x.ver ∧ x.ver ≤ 1048576
noncomputable def lsB (x:Ls):Bool:=@decide (LsRt x) (Classical.propDecidable _)
theorem lsB_t {x:Ls}:lsB x = true ↔ LsRt x:=@decide_eq_true_iff _ (Classical.propDecidable _)
theorem lsB_f {x:Ls}:lsB x = false ↔ ¬ LsRt x:=@decide_eq_false_iff_not _ (Classical.propDecidable _)
theorem lsB_last {x:Ls} (h1:0 ≤ x.d ∧ x.d < 512) (h2:chk x.v = 0) (h3:chk x.l = 0) (h4:1 ≤ x.ver):lsB x = decide (x.ver ≤ 1048576):=by
  by_cases h:x.ver ≤ 1048576
  · rw [decide_eq_true h]; exact lsB_t.2 ⟨h1,h2,h3,h4,h⟩
  · rw [decide_eq_false h]; exact lsB_f.2 fun h9=>h h9.ver.2
def lsL (l:List Ls) (k:Nat):Int:=if k = 0 then -1 else (l.getD (k - 1) default).d
theorem lsL_succ {l:List Ls} {k:Nat} {x:Ls} (hx:l[k]? = some x):lsL l (k + 1) = x.d:=by
  rw [lsL,if_neg (by omega),Nat.add_sub_cancel,List.getD_eq_getElem?_getD,hx]; rfl
theorem lsL_pos {l:List Ls} {k:Nat} {y:Ls} (hk:k ≠ 0) (hy:l[k - 1]? = some y):lsL l k = y.d:=by
  rw [lsL,if_neg hk,List.getD_eq_getElem?_getD,hy]; rfl
def DirOk (l:List Ls):Prop:=∀ k x,l[k]? = some x → LsRt x ∧ lsL l k < x.d
noncomputable def dirE (l:List Ls):Int:=@ite _ (DirOk l) (Classical.propDecidable _) 0 350
theorem dirE_t {l:List Ls} (h:DirOk l):dirE l = 0:=if_pos h
theorem dirE_f {l:List Ls} (h:¬ DirOk l):dirE l = 350:=if_neg h
end Rst
namespace Go.Proofs.YtegfmbefhpagmaaGreatDoor
open Go Eng Gf Sha Sig Wr Cod Cha Rst
set_option maxRecDepth 100000
set_option linter.all false
theorem y_blst {n:Nat} {D:List Deferred} {W:World} {Bo:List Nat} {F:List (Nat × Value)} {l:SH} {d:Option Tmp} {ty:TypeId} {ps:String} {af:Array Edge} {g:Option (Nat × Bool)} {parts:Array (Nat × Operand)} {vs:List (Nat × Value)} {cs:List Value}
    (hp:evP F parts.toList = some vs:=by rfl) (hf:fillL (fun i=>(#[(0,1),(1,1),(2,1),(3,1),(4,1)]:Array (Nat × Nat))[i]?) [I 0,I 0,I 0,I 0,.bool false] vs = some cs:=by rfl) :
    Y Tryz.prog n D W Bo ⟨d,.build 49 parts,ty,ps,af,g⟩ F l (.agg cs.toArray) :=
  y_blds Tryz.underlying49 (fun w=>by kernel_rfl) hp hf
theorem fits_ok' (w:World) (x:Ls):Pure Tryz.prog 39 [.agg #[I x.d,I x.v,I x.l,I x.ver,.bool x.gone]] w (.bool (lsB x)):=by
  refine enter Tryz.func39 Tryz.ntmps39 ?_
  refine c_seq<|c_reg<|s_box rfl fun b1=>s_y y_as<|s_nil<|q_then<|c_seq<|c_reg<|s_y y_fa<|s_y (y_ld (b:=b1) (v:=I x.d))<|s_ifd (y_leq (p:=0) (q:=x.d)) (fun h5=>?_) (fun h5=>?_)
  · refine s_y y_mv<|s_y y_fa<|s_y (y_ld (b:=b1) (v:=I x.d))<|s_ifd (y_lss (p:=x.d) (q:=512)) (fun h9=>?_) (fun h9=>?_)
    · refine s_y y_pk<|s_y y_mv<|s_y y_fa<|s_y (y_ld (b:=b1) (v:=I x.v))<|s_pure (fun w' hw=>gCheck_ok w' x.v)<|s_ifd (y_eql (p:=chk x.v) (q:=0)) (fun h15=>?_) (fun h15=>?_)
      · refine s_y y_pk<|s_y y_mv<|s_y y_fa<|s_y (y_ld (b:=b1) (v:=I x.l))<|s_pure (fun w' hw=>gCheck_ok w' x.l)<|s_ifd (y_eql (p:=chk x.l) (q:=0)) (fun h21=>?_) (fun h21=>?_)
        · refine s_y y_pk<|s_y y_mv<|s_y y_fa<|s_y (y_ld (b:=b1) (v:=I x.ver))<|s_ifd (y_leq (p:=1) (q:=x.ver)) (fun h26=>?_) (fun h26=>?_)
          · refine s_y y_pk<|s_y y_mv<|s_y y_fa<|s_y (y_ld (b:=b1) (v:=I x.ver))<|s_y (y_leq (p:=x.ver) (q:=1048576))<|s_y y_pk<|s_y y_as<|s_nil<|q_then<|c_ret<|?_
            exact ret1 Tryz.results39 rv_t fun w' hw=>⟨by rw [show lsB x = decide (x.ver ≤ 1048576) from lsB_last (by omega) (by omega) (by omega) (by omega)],hw.sub (List.nil_sublist _)⟩
          · refine s_y y_pk<|s_y y_mv<|s_no<|s_no<|s_no<|s_y y_pk<|s_y y_as<|s_nil<|q_then<|c_ret<|?_
            exact ret1 Tryz.results39 rv_t fun w' hw=>⟨by rw [show lsB x = false from lsB_f.2 fun h9=>by have h1:=h9.d; have h2:=h9.v; have h3:=h9.l; have h4:=h9.ver; omega],hw.sub (List.nil_sublist _)⟩
        · refine s_y y_pk<|s_y y_mv<|s_no<|s_no<|s_no<|s_y y_pk<|s_y y_mv<|s_no<|s_no<|s_no<|s_y y_pk<|s_y y_as<|s_nil<|q_then<|c_ret<|?_
          exact ret1 Tryz.results39 rv_t fun w' hw=>⟨by rw [show lsB x = false from lsB_f.2 fun h9=>by have h1:=h9.d; have h2:=h9.v; have h3:=h9.l; have h4:=h9.ver; omega],hw.sub (List.nil_sublist _)⟩
      · refine s_y y_pk<|s_y y_mv<|s_no<|s_no<|s_no<|s_no<|s_y y_pk<|s_y y_mv<|s_no<|s_no<|s_no<|s_y y_pk<|s_y y_mv<|s_no<|s_no<|s_no<|s_y y_pk<|s_y y_as<|s_nil<|q_then<|c_ret<|?_
        exact ret1 Tryz.results39 rv_t fun w' hw=>⟨by rw [show lsB x = false from lsB_f.2 fun h9=>by have h1:=h9.d; have h2:=h9.v; have h3:=h9.l; have h4:=h9.ver; omega],hw.sub (List.nil_sublist _)⟩
    · refine s_y y_pk<|s_y y_mv<|s_no<|s_no<|s_no<|s_no<|s_y y_pk<|s_y y_mv<|s_no<|s_no<|s_no<|s_no<|s_y y_pk<|s_y y_mv<|s_no<|s_no<|s_no<|s_y y_pk<|s_y y_mv<|s_no<|s_no<|s_no<|s_y y_pk<|s_y y_as<|s_nil<|q_then<|c_ret<|?_
      exact ret1 Tryz.results39 rv_t fun w' hw=>⟨by rw [show lsB x = false from lsB_f.2 fun h9=>by have h1:=h9.d; have h2:=h9.v; have h3:=h9.l; have h4:=h9.ver; omega],hw.sub (List.nil_sublist _)⟩
  · refine s_y y_mv<|s_no<|s_no<|s_no<|s_y y_pk<|s_y y_mv<|s_no<|s_no<|s_no<|s_no<|s_y y_pk<|s_y y_mv<|s_no<|s_no<|s_no<|s_no<|s_y y_pk<|s_y y_mv<|s_no<|s_no<|s_no<|s_y y_pk<|s_y y_mv<|s_no<|s_no<|s_no<|s_y y_pk<|s_y y_as<|s_nil<|q_then<|c_ret<|?_
    exact ret1 Tryz.results39 rv_t fun w' hw=>⟨by rw [show lsB x = false from lsB_f.2 fun h9=>by have h1:=h9.d; have h2:=h9.v; have h3:=h9.l; have h4:=h9.ver; omega],hw.sub (List.nil_sublist _)⟩
theorem fits_ok (w:World) (x:Ls):Pure Tryz.prog 39 [.agg x.cell.toArray] w (.bool (lsB x)):=fits_ok' w x
theorem dirCheck_ok (w:World) (l:List Ls) (a:Option Addr) (c:Nat) (hr:Rd w a (lsc l)) (hl:l.length ≤ 1000000):Pure Tryz.prog 37 [.slice a l.length c] w (I (dirE l)):=by
  refine enter Tryz.func37 Tryz.ntmps37 ?_
  refine c_seq<|c_reg<|s_y y_as<|s_nil<|q_then<|c_seq<|c_reg<|s_y y_as<|s_nil<|q_then<|c_seq<|c_seq<|c_reg<|s_y y_mv<|s_y y_len<|s_y y_mv<|s_nil<|q_then<|c_block<|?_
  refine c_loop (fun k:Nat=>[(3,I (lsL l k)),(6,.slice a l.length c),(7,I l.length),(8,I k)]) (fun k=>[]) (fun k=>k ≤ l.length ∧ ∀ j,j < k → ∀ x,l[j]? = some x → LsRt x ∧ lsL l j < x.d) (fun k=>l.length - k) 0 ⟨by omega,fun _ h=>by omega⟩ ⟨rfl,rfl,rfl,rfl,trivial⟩ (by repeat (first | exact List.nil_sublist _ | exact List.Sublist.refl _ | apply List.Sublist.cons_cons | apply List.Sublist.cons)) ?_
  intro k ⟨hk,hinv⟩
  refine c_seq<|c_reg<|s_y (y_lss (p:=k) (q:=l.length))<|s_nil<|q_then<|c_seq<|c_ifd (fun h9=>?_) (fun h9=>?_)
  · have hkq:k < l.length:=by omega
    obtain ⟨x,hx⟩:∃ x,l[k]? = some x:=⟨_,List.getElem?_eq_getElem hkq⟩
    refine c_skip<|q_then<|c_seq<|c_block<|c_seq<|c_reg<|s_y (y_ixs (xs:=lsc l) (i:=((k:Nat):Int)) (hr:=(rdW0 hr)) (hl:=by rw [lsc_length]; omega))<|s_y (y_ldra (i:=k * 5) (cs:=x.cell) (rdW0 hr) rfl (fun j v h=>lsc_at hx h))<|s_alloc fun b5=>s_sta (b:=b5) (vs:=#[I x.d,I x.v,I x.l,I x.ver,.bool x.gone]) (cs:=#[I 0,I 0,I 0,I 0,.bool false]) (h1:=one_allA rfl) (hl:=rfl) (hs1:=rfl) ?_
    refine s_nil<|q_then<|c_seq<|c_seq<|c_reg<|s_y (y_lda (b:=b5) (cs:=#[I x.d,I x.v,I x.l,I x.ver,.bool x.gone]) (hl:=rfl))<|?_
    by_cases h13:LsRt x
    · refine s_pure (fun w' hw=>(by have h9:=fits_ok w' x; rw [lsB_t.2 h13] at h9; exact h9))<|s_y (v:=.bool false) (y_not (b:=true))<|s_y y_mv<|s_y y_fa<|s_y (y_ld (b:=b5) (v:=I x.d))<|s_y y_mv<|s_y (y_leq (p:=x.d) (q:=(lsL l k)))<|s_y y_pk<|s_nil<|q_then<|c_ifd (fun h20=>?_) (fun h20=>?_)
      · refine c_seq<|c_reg<|s_y y_as<|s_nil<|q_then<|c_ret<|q_ret<|q_retb<|q_ret<|q_ret<|q_retb<|q_ret<|?_
        exact ret1 Tryz.results37 rv_t fun w' hw=>⟨by rw [show dirE l = 350 from dirE_f fun h9=>by have h8:=h9 k x hx; first | exact absurd h8.1 ‹_› | (have h7:=h8.2; omega) | (have h7:=h8.2; rw [lsL_pos (by omega) hy] at h7; omega)],hw.sub (List.nil_sublist _)⟩
      · refine c_skip<|q_then<|c_reg<|s_y y_fa<|s_y (y_ld (b:=b5) (v:=I x.d))<|s_y y_as<|s_nil<|q_nb<|q_then<|c_reg<|s_y (y_add (p:=k) (q:=1))<|s_y y_mv<|s_nil<|?_
        rw [← lsL_succ hx]
        refine q_round (k + 1) ⟨by omega,?_⟩ (by omega) ⟨rfl,rfl,rfl,rfl,trivial⟩ (by repeat (first | exact List.nil_sublist _ | exact List.Sublist.refl _ | apply List.Sublist.cons_cons | apply List.Sublist.cons))
        intro j hj z hz
        rcases Nat.lt_or_ge j k with h8 | h8
        · exact hinv j h8 z hz
        · obtain rfl:j = k:=by omega
          obtain rfl:z = x:=Option.some.inj (hz.symm.trans hx)
          exact ⟨‹_›,by omega⟩
    · refine s_pure (fun w' hw=>(by have h9:=fits_ok w' x; rw [lsB_f.2 h13] at h9; exact h9))<|s_y (v:=.bool true) (y_not (b:=false))<|s_y y_mv<|s_no<|s_no<|s_no<|s_no<|s_y y_pk<|s_nil<|q_then<|c_t<|c_seq<|c_reg<|s_y y_as<|s_nil<|q_then<|c_ret<|q_ret<|q_retb<|q_ret<|q_ret<|q_retb<|q_ret<|?_
      exact ret1 Tryz.results37 rv_t fun w' hw=>⟨by rw [show dirE l = 350 from dirE_f fun h9=>by have h8:=h9 k x hx; first | exact absurd h8.1 ‹_› | (have h7:=h8.2; omega) | (have h7:=h8.2; rw [lsL_pos (by omega) hy] at h7; omega)],hw.sub (List.nil_sublist _)⟩
  · refine c_exit<|q_ex<|q_ex<|q_exb<|q_then<|c_seq<|c_reg<|s_y y_as<|s_nil<|q_then<|c_ret<|?_
    exact ret1 Tryz.results37 rv_t fun w' hw=>⟨by rw [show dirE l = 0 from dirE_t fun j x hj=>hinv j (by have:=(List.getElem?_eq_some_iff.1 hj).1; omega) x hj],hw.sub (List.nil_sublist _)⟩
end Go.Proofs.YtegfmbefhpagmaaGreatDoor
end
section
namespace Rst
open Go Eng Gf Sha Sig
def obP (n:Int) (x:Ls):Bool:=decide (x.d = n) && !x.gone
theorem obP_t {n:Int} {x:Ls} (h:x.d = n):obP n x = !x.gone:=by unfold obP; rw [decide_eq_true h,Bool.true_and]
theorem obP_f {n:Int} {x:Ls} (h:¬ x.d = n):obP n x = false:=by unfold obP; rw [decide_eq_false h,Bool.false_and]
theorem dir_lt {l:List Ls} (h:DirOk l) {j:Nat} {x:Ls} (hj:l[j]? = some x):∀ (m:Nat) {z:Ls},l[j + 1 + m]? = some z → x.d < z.d
  | 0,z,hz=>by
    have h1:=(h (j + 1) z hz).2
    rwa [lsL_succ hj] at h1
  | m + 1,z,hz=>by
    obtain ⟨hl,_⟩:=List.getElem?_eq_some_iff.1 hz
    obtain ⟨y,hy⟩:∃ y,l[j + 1 + m]? = some y:=⟨_,List.getElem?_eq_getElem (by omega)⟩
    have h1:=dir_lt h hj m hy
    have h2:=(h (j + 1 + m + 1) z hz).2
    rw [lsL_succ hy] at h2
    omega
theorem dir_fst {l:List Ls} (h:DirOk l) {k:Nat} {z:Ls} (hz:l[k]? = some z):∀ j x,j < k → l[j]? = some x → x.d ≠ z.d:=fun j x hj hx=>by
  have h1:=dir_lt h hx (k - (j + 1)) (z:=z) (by rw [show j + 1 + (k - (j + 1)) = k by omega]; exact hz)
  omega
theorem fidx_ob {l:List Ls} (h:DirOk l) {k:Nat} {dev zv zl zver:Int} (hz:l[k]? = some ⟨dev,zv,zl,zver,false⟩):fidx (obP dev) l = (k:Int):=by
  obtain ⟨hk,_⟩:=List.getElem?_eq_some_iff.1 hz
  refine fidx_hit (d:=default) hk (fun i hi=>?_) ?_
  · obtain ⟨x,hx⟩:∃ x,l[i]? = some x:=⟨_,List.getElem?_eq_getElem (by omega)⟩
    rw [List.getD_eq_getElem?_getD,hx]
    exact obP_f (dir_fst h hz i x hi hx)
  · rw [List.getD_eq_getElem?_getD,hz]; exact obP_t rfl
/-- what an objection needs, besides the listing and the key -/
structure ObR2 (c:Cs) (dev no:Int):Prop where
  q:dev / 8 = c.p
  d:dev ≠ c.d
  n:¬ dev ∈ c.vt.map Vt.d
  s:c.st ≤ no ∧ no ≤ 65536
theorem anyV {c:Cs} {g:Int}:(c.vt.any fun a=>decide (a.d = g)) = true ↔ g ∈ c.vt.map Vt.d:=by
  rw [List.any_eq_true,List.mem_map]
  exact ⟨fun ⟨x,hx,e⟩=>⟨x,hx,of_decide_eq_true e⟩,fun ⟨x,hx,e⟩=>⟨x,hx,decide_eq_true e⟩⟩
theorem anyV_no {c:Cs} {g:Int} (h:¬ g ∈ c.vt.map Vt.d):(c.vt.any fun a=>decide (a.d = g)) = false:=by
  cases e:(c.vt.any fun a=>decide (a.d = g)) with
  | false=>rfl
  | true=>exact absurd (anyV.1 e) h
noncomputable def nVt (c:Cs) (dev no:Int) (x:Nat):Vt:=⟨dev,no,(sgR x (msg c no dev):Nat),(sgS x (msg c no dev):Nat)⟩
theorem vtc_snoc (l:List Vt) (x:Vt) (cs:List Value) (h:cs = x.cell):vtc l ++ cs = vtc (l ++ [x]):=by rw [vtc_append,h]; simp [vtc]
end Rst
namespace Go.Proofs.YtegfmbefhpagmaaGreatDoor
open Go Eng Gf Sha Sig Wr Cod Cha Rst
set_option maxRecDepth 100000
set_option linter.all false
theorem Object2_t (w:World) (x:Ls) (n:Int) (b:Nat) (hb:Rd w (some ⟨b,0,none⟩) [I n]) (h:x.d = n):Pure Tryz.prog 62 [.agg #[I x.d,I x.v,I x.l,I x.ver,.bool x.gone],.pointer (some ⟨b,0,none⟩)] w (.bool (!x.gone)):=by
  refine enter Tryz.func62 Tryz.ntmps62 ?_
  refine c_seq<|c_reg<|s_box rfl fun b2=>s_y y_as<|s_nil<|q_then<|c_seq<|c_reg<|s_y y_fa<|s_y (y_ld (b:=b2) (v:=I x.d))<|s_y (y_ldr (a:=some ⟨b,0,none⟩) (i:=0) (xs:=[I n]) (v:=I n) rfl (hr:=rdW0 hb))<|s_kt (y_eql (p:=x.d) (q:=n)) h<|s_y y_mv<|s_y y_fa<|s_y (y_ld (b:=b2) (v:=.bool x.gone))<|s_y y_not<|s_y y_pk<|s_y y_as<|s_nil<|q_then<|c_ret<|?_
  exact ret1 Tryz.results62 rv_t fun w' hw=>⟨rfl,hw.sub (List.nil_sublist _)⟩
theorem Object2_f (w:World) (x:Ls) (n:Int) (b:Nat) (hb:Rd w (some ⟨b,0,none⟩) [I n]) (h:¬ x.d = n):Pure Tryz.prog 62 [.agg #[I x.d,I x.v,I x.l,I x.ver,.bool x.gone],.pointer (some ⟨b,0,none⟩)] w (.bool false):=by
  refine enter Tryz.func62 Tryz.ntmps62 ?_
  refine c_seq<|c_reg<|s_box rfl fun b2=>s_y y_as<|s_nil<|q_then<|c_seq<|c_reg<|s_y y_fa<|s_y (y_ld (b:=b2) (v:=I x.d))<|s_y (y_ldr (a:=some ⟨b,0,none⟩) (i:=0) (xs:=[I n]) (v:=I n) rfl (hr:=rdW0 hb))<|s_kf (y_eql (p:=x.d) (q:=n)) h<|s_y y_mv<|s_no<|s_no<|s_no<|s_y y_pk<|s_y y_as<|s_nil<|q_then<|c_ret<|?_
  exact ret1 Tryz.results62 rv_t fun w' hw=>⟨rfl,hw.sub (List.nil_sublist _)⟩
theorem Object3_ok' (w:World) (x:Vt) (n:Int) (b:Nat) (hb:Rd w (some ⟨b,0,none⟩) [I n]):Pure Tryz.prog 64 [.agg #[I x.d,I x.no,I x.r,I x.s],.pointer (some ⟨b,0,none⟩)] w (.bool (decide (x.d = n))):=by
  refine enter Tryz.func64 Tryz.ntmps64 ?_
  refine c_seq<|c_reg<|s_box rfl fun b2=>s_y y_as<|s_nil<|q_then<|c_seq<|c_reg<|s_y y_fa<|s_y (y_ld (b:=b2) (v:=I x.d))<|s_y (y_ldr (a:=some ⟨b,0,none⟩) (i:=0) (xs:=[I n]) (v:=I n) rfl (hr:=rdW0 hb))<|s_y (y_eql (p:=x.d) (q:=n))<|s_y y_as<|s_nil<|q_then<|c_ret<|?_
  exact ret1 Tryz.results64 rv_t fun w' hw=>⟨rfl,hw.sub (List.nil_sublist _)⟩
theorem Object2_ok (w:World) (b:Nat) (x:Ls) (n:Int) (hb:Rd w (some ⟨b,0,none⟩) [I n]):Pure Tryz.prog 62 [.agg x.cell.toArray,.pointer (some ⟨b,0,none⟩)] w (.bool (obP n x)):=by
  by_cases h:x.d = n
  · rw [obP_t h]; exact Object2_t w x n b hb h
  · rw [obP_f h]; exact Object2_f w x n b hb h
theorem Object3_ok (w:World) (b:Nat) (x:Vt) (n:Int) (hb:Rd w (some ⟨b,0,none⟩) [I n]):Pure Tryz.prog 64 [.agg x.cell.toArray,.pointer (some ⟨b,0,none⟩)] w (.bool (decide (x.d = n))):=Object3_ok' w x n b hb
theorem Object_y (w:World) (c:Cs) (aa va la:Option Addr) (ac vc lc:Nat) (l:List Ls) (dev no:Int) (x:Nat) (hg:LC w) (hrl:Rd w la (lsc l)) (hll:l.length ≤ 1000000) (hrv:Rd w va (vtc c.vt)) (hvc:c.vt.length ≤ vc) (hvl:c.vt.length ≤ 1000000) (k:Nat) (zv zl zver:Int) (hd:DirOk l) (hz:l[k]? = some ⟨dev,zv,zl,zver,false⟩) (ho:ObR2 c dev no) (hx0:1 ≤ x) (hx:x < 2305843009213688669) (hv:((pp 4 x:Nat):Int) = zv) (hR:R5 c) (hRn:R64 no) (hRd:R64 dev):Gives Tryz.prog 13 [.agg #[I c.p,I c.d,I c.v,I c.l,I c.st,.slice aa c.ap.length ac,.slice va c.vt.length vc],.slice la l.length lc,I dev,I no,I (x:Nat)] w [] (fun y:Option Addr × Nat=>.tuple #[.agg #[I c.p,I c.d,I c.v,I c.l,I c.st,.slice aa c.ap.length ac,.slice y.1 (c.vt.length + 1) y.2],I 0]) (fun y=>[.row y.1 y.2 130 4 (c.vt.length + 1) (vtc (c.vt ++ [nVt c dev no x]))]) (fun _=>True):=by
  have hfi:=fidx_ob hd hz
  have hd0:=(hd k _ hz).1.d
  simp only [] at hd0
  have hkl:k < l.length:=(List.getElem?_eq_some_iff.1 hz).1
  refine enterD Tryz.func13 Tryz.ntmps13 ?_
  refine c_seq<|c_reg<|s_box rfl fun b5=>s_box rfl fun b7=>s_alloc fun b10=>s_alloc fun b11=>s_nil<|q_then<|c_seq<|c_reg<|s_y y_func<|s_deferC<|s_nil<|q_then<|c_seq<|c_reg<|s_y y_mv<|s_pure (fun w' hw=>(by have h9:=dirCheck_ok w' l la lc (hrl.st hw) hll; rw [dirE_t hd] at h9; exact h9))<|s_pure (fun w' hw=>try_ok w')<|s_nil<|q_then<|c_seq<|c_reg<|s_y y_mv<|s_y y_func<|s_pure (fun w' hw=>(by have h9:=IxF_Ls w' la lc l 62 [.pointer (some ⟨b7,0,none⟩)] (obP dev) (hrl.st hw) (by omega) (fun x _ w2 h2=>Object2_ok w2 b7 x dev ((rd0B hw (xs:=[I dev]) (.tail _ (.tail _ (.head _)))).st h2)); rw [hfi] at h9; exact h9))<|s_y y_as<|s_nil<|q_then<|c_seq<|c_reg<|s_y y_mv<|s_kt (y_geq (p:=(k:Nat)) (q:=0)) (by omega)<|s_y y_mv<|s_y (y_ld (b:=b7) (v:=I dev))<|s_y (y_quo (p:=dev) (q:=8))<|s_y y_fa<|s_y (y_ld (b:=b5) (v:=I c.p))<|s_kt (y_eql (p:=dev / 8) (q:=c.p)) ho.q<|s_y y_pk<|s_y y_mv<|s_y (y_ld (b:=b7) (v:=I dev))<|s_y y_fa<|s_y (y_ld (b:=b5) (v:=I c.d))<|s_nt (y_neq (p:=dev) (q:=c.d)) ho.d<|s_y y_pk<|s_y y_mv<|s_y y_fa<|s_y (y_ld (b:=b5) (v:=.slice va c.vt.length vc))<|s_y y_func<|s_pure (fun w' hw=>(by have h9:=CoF_Vt w' va vc c.vt 64 [.pointer (some ⟨b7,0,none⟩)] (fun v=>decide (v.d = dev)) (hrv.st hw) (by omega) (fun x _ w2 h2=>Object3_ok w2 b7 x dev ((rd0B hw (xs:=[I dev]) (.tail _ (.tail _ (.head _)))).st h2)); rw [anyV_no ho.n] at h9; exact h9))<|s_y (v:=.bool true) (y_not (b:=false))<|s_y y_pk<|s_pure (fun w' hw=>demand_ok w' 390)<|s_nil<|q_then<|c_seq<|c_reg<|s_y y_mv<|s_y y_fa<|s_y (y_ld (b:=b5) (v:=I c.st))<|s_pure (fun w' hw=>between_ok w' no c.st 65536 true ⟨fun _=>rfl,fun _=>ho.s⟩)<|s_pure (fun w' hw=>demand_ok w' 390)<|s_nil<|q_then<|c_seq<|c_reg<|s_y y_mv<|s_pure (fun w' hw=>sPublic_yes w' x hx0 hx)<|s_y y_mv<|s_y y_ext<|s_y y_ext<|s_y y_as<|s_st (b:=b11) (v:=I 0) (cs:=#[I 0]) (hl:=by simp) ?_
  refine s_nil<|q_then<|c_seq<|c_reg<|s_y (y_ld (b:=b11) (v:=I 0))<|s_pure (fun w' hw=>try_ok w')<|s_nil<|q_then<|c_seq<|c_reg<|s_y y_mv<|s_y y_mv<|s_y y_mv<|s_y (y_ixs (xs:=lsc l) (i:=((k:Nat):Int)) (hr:=(rdW0 hrl)) (hl:=by rw [lsc_length]; omega))<|s_y y_far<|s_y (y_ldr (i:=k * 5 + 1) (xs:=lsc l) (v:=I ((Ls.mk dev zv zl zver false).v)) (lsc_at (j:=1) hz rfl) (hr:=(rdW0 hrl)))<|s_kt (y_eql (p:=(pp 4 x:Nat)) (q:=(Ls.mk dev zv zl zver false).v)) hv<|s_pure (fun w' hw=>demand_ok w' 390)<|s_nil<|q_then<|c_seq<|c_reg<|s_y y_mv<|s_y (y_lda (b:=b5) (cs:=#[I c.p,I c.d,I c.v,I c.l,I c.st,.slice aa c.ap.length ac,.slice va c.vt.length vc]) (hl:=rfl))<|s_y y_mv<|s_y (y_ld (b:=b7) (v:=I dev))<|s_gives (fun w' hw=>Message_ok w' c no dev aa va ac vc (hg.st hw).1 hR hRn hRd) fun (x70:Nat) _=>s_pure (fun w' hw=>signQ w' (some ⟨x70,0,none⟩) 32 32 x (msg c no dev) (hg.st hw).1 (msg_length _ _ _) (rd_blkB (e:=69) (.head _) w' hw) (by decide) hx0 hx)<|s_y y_mv<|s_y y_ext<|s_y y_ext<|s_alloc fun b14=>s_sta (b:=b14) (vs:=#[I (sgR x (msg c no dev):Nat),I (sgS x (msg c no dev):Nat)]) (cs:=#[I 0,I 0]) (h1:=one_allA rfl) (hl:=rfl) (hs1:=rfl) ?_
  refine s_st (b:=b11) (v:=I 0) (cs:=#[I 0]) (hl:=by simp) ?_
  refine s_nil<|q_then<|c_seq<|c_reg<|s_y (y_ld (b:=b11) (v:=I 0))<|s_pure (fun w' hw=>try_ok w')<|s_nil<|q_then<|c_seq<|c_cut (R:=fun a' w'=>∃ (b84:Nat),∃ (c84:Nat),Fr 87 [(5,.pointer (some ⟨b5,0,none⟩)),(10,.pointer (some ⟨b10,0,none⟩)),(11,.pointer (some ⟨b11,0,none⟩))] [{ target:=.fn (.func 60) #[.pointer (some ⟨b11,0,none⟩)],args:=#[] }] a' ∧ St w [] w' [.row (some ⟨b84,0,none⟩) c84 130 4 (c.vt.length + 1) (vtc (c.vt ++ [nVt c dev no x])),.blk b11 (.cells #[I 0] 29 (0,0)),.blk b10 (.cells #[I 0,I 0,I 0,I 0,I 0,.slice none 0 0,.slice none 0 0] 56 (0,0)),.blk b5 (.cells #[I c.p,I c.d,I c.v,I c.l,I c.st,.slice aa c.ap.length ac,.slice (some ⟨b84,0,none⟩) (c.vt.length + 1) c84] 56 (0,0))]) ?_ ?_
  · refine c_regGB [.blk b14 (.cells #[I (sgR x (msg c no dev):Nat),I (sgS x (msg c no dev):Nat)] 43 (0,0)),.blk x70 (.cells (bs (msg c no dev)).toArray 69 (0,0)),.blk b11 (.cells #[I 0] 29 (0,0)),.blk b10 (.cells #[I 0,I 0,I 0,I 0,I 0,.slice none 0 0,.slice none 0 0] 56 (0,0)),.blk b7 (.cells #[I dev] 3 (0,0)),.blk b5 (.cells #[I c.p,I c.d,I c.v,I c.l,I c.st,.slice aa c.ap.length ac,.slice va c.vt.length vc] 56 (0,0))] (.cons_cons _ (.cons_cons _ (.cons_cons _ (.cons_cons _ (.cons_cons _ (.cons_cons _ (List.nil_sublist _))))))) 10<|f_y 0 rfl y_fa<|f_y 1 rfl (y_ld (b:=b5) (v:=.slice va c.vt.length vc))<|f_y 3 rfl (y_ld (b:=b7) (v:=I dev))<|f_y 4 rfl y_mv<|f_y 5 rfl (y_lda (b:=b14) (cs:=#[I (sgR x (msg c no dev):Nat),I (sgS x (msg c no dev):Nat)]) (hl:=rfl))<|f_y 6 rfl (y_bvet (cs:=[I dev,I no,I (sgR x (msg c no dev):Nat),I (sgS x (msg c no dev):Nat)]))<|f_w2 2 7 rfl rfl ?_ ?_ (hsub:=by repeat (first | exact List.nil_sublist _ | exact List.Sublist.refl _ | apply List.Sublist.cons_cons | apply List.Sublist.cons))
    · refine s_pure (fun w' hw=>ClipV_ok w' va c.vt.length vc hvc)<|f_kkB<|f_w 7 rfl (hsub:=by repeat (first | exact List.nil_sublist _ | exact List.Sublist.refl _ | apply List.Sublist.cons_cons | apply List.Sublist.cons))<|s_bslr (cs:=[I dev,I no,I (sgR x (msg c no dev):Nat),I (sgS x (msg c no dev):Nat)]) fun b83=>f_kkB<|f_w 8 rfl (hsub:=by repeat (first | exact List.nil_sublist _ | exact List.Sublist.refl _ | apply List.Sublist.cons_cons | apply List.Sublist.cons))<|s_appN (m:=1) (xs:=vtc c.vt) (rdW0 hrv) (fun w' hw=>Src.slice (rdR (.head _) w' hw) rfl) (hl:=vtc_length _) (hud:=.inl ⟨_,rfl⟩) fun b84 c84=>?_
      rw [show vtc c.vt ++ [I dev,I no,I (sgR x (msg c no dev):Nat),I (sgS x (msg c no dev):Nat)] = vtc (c.vt ++ [nVt c dev no x]) from vtc_snoc c.vt _ _ rfl]
      refine f_kkB<|f_y 9 rfl y_fa<|f_w 10 rfl (hsub:=by repeat (first | exact List.nil_sublist _ | exact List.Sublist.refl _ | apply List.Sublist.cons_cons | apply List.Sublist.cons))<|s_st (b:=b5) (v:=.slice (some ⟨b84,0,none⟩) (c.vt.length + 1) c84) (cs:=#[I c.p,I c.d,I c.v,I c.l,I c.st,.slice aa c.ap.length ac,.slice va c.vt.length vc]) (hl:=by simp) ?_
      refine f_z<|?_
      exact fun a' w' ha hw=>⟨rfl,b84,c84,ha.weaken ⟨rfl,rfl,rfl,trivial⟩,(hw.sub (l':=[.row (some ⟨b84,0,none⟩) c84 130 4 (c.vt.length + 1) (vtc (c.vt ++ [nVt c dev no x])),.blk b11 (.cells #[I 0] 29 (0,0)),.blk b10 (.cells #[I 0,I 0,I 0,I 0,I 0,.slice none 0 0,.slice none 0 0] 56 (0,0)),.blk b5 (.cells #[I c.p,I c.d,I c.v,I c.l,I c.st,.slice aa c.ap.length ac,.slice (some ⟨b84,0,none⟩) (c.vt.length + 1) c84] 56 (0,0))]) (by repeat (first | exact List.nil_sublist _ | exact List.Sublist.refl _ | apply List.Sublist.cons_cons | apply List.Sublist.cons)))⟩
    · refine s_bslr (cs:=[I dev,I no,I (sgR x (msg c no dev):Nat),I (sgS x (msg c no dev):Nat)]) fun b83=>f_kkB<|f_w 2 rfl (hsub:=by repeat (first | exact List.nil_sublist _ | exact List.Sublist.refl _ | apply List.Sublist.cons_cons | apply List.Sublist.cons))<|s_pure (fun w' hw=>ClipV_ok w' va c.vt.length vc hvc)<|f_kkB<|f_w 8 rfl (hsub:=by repeat (first | exact List.nil_sublist _ | exact List.Sublist.refl _ | apply List.Sublist.cons_cons | apply List.Sublist.cons))<|s_appN (m:=1) (xs:=vtc c.vt) (rdW0 hrv) (fun w' hw=>Src.slice (rdR (.head _) w' hw) rfl) (hl:=vtc_length _) (hud:=.inl ⟨_,rfl⟩) fun b84 c84=>?_
      rw [show vtc c.vt ++ [I dev,I no,I (sgR x (msg c no dev):Nat),I (sgS x (msg c no dev):Nat)] = vtc (c.vt ++ [nVt c dev no x]) from vtc_snoc c.vt _ _ rfl]
      refine f_kkB<|f_y 9 rfl y_fa<|f_w 10 rfl (hsub:=by repeat (first | exact List.nil_sublist _ | exact List.Sublist.refl _ | apply List.Sublist.cons_cons | apply List.Sublist.cons))<|s_st (b:=b5) (v:=.slice (some ⟨b84,0,none⟩) (c.vt.length + 1) c84) (cs:=#[I c.p,I c.d,I c.v,I c.l,I c.st,.slice aa c.ap.length ac,.slice va c.vt.length vc]) (hl:=by simp) ?_
      refine f_z<|?_
      exact fun a' w' ha hw=>⟨rfl,b84,c84,ha.weaken ⟨rfl,rfl,rfl,trivial⟩,(hw.sub (l':=[.row (some ⟨b84,0,none⟩) c84 130 4 (c.vt.length + 1) (vtc (c.vt ++ [nVt c dev no x])),.blk b11 (.cells #[I 0] 29 (0,0)),.blk b10 (.cells #[I 0,I 0,I 0,I 0,I 0,.slice none 0 0,.slice none 0 0] 56 (0,0)),.blk b5 (.cells #[I c.p,I c.d,I c.v,I c.l,I c.st,.slice aa c.ap.length ac,.slice (some ⟨b84,0,none⟩) (c.vt.length + 1) c84] 56 (0,0))]) (by repeat (first | exact List.nil_sublist _ | exact List.Sublist.refl _ | apply List.Sublist.cons_cons | apply List.Sublist.cons)))⟩
  rintro a11' w11' ⟨b84,c84,ha11',hw11'⟩
  refine (show CP none Tryz.prog 87 [{ target:=.fn (.func 60) #[.pointer (some ⟨b11,0,none⟩)],args:=#[] }] w [] _ _ [(5,.pointer (some ⟨b5,0,none⟩)),(10,.pointer (some ⟨b10,0,none⟩)),(11,.pointer (some ⟨b11,0,none⟩))] [.row (some ⟨b84,0,none⟩) c84 130 4 (c.vt.length + 1) (vtc (c.vt ++ [nVt c dev no x])),.blk b11 (.cells #[I 0] 29 (0,0)),.blk b10 (.cells #[I 0,I 0,I 0,I 0,I 0,.slice none 0 0,.slice none 0 0] 56 (0,0)),.blk b5 (.cells #[I c.p,I c.d,I c.v,I c.l,I c.st,.slice aa c.ap.length ac,.slice (some ⟨b84,0,none⟩) (c.vt.length + 1) c84] 56 (0,0))] from ?_) a11' w11' ha11' hw11'
  clear ha11' hw11'
  refine c_seq<|c_reg<|s_y (y_lda (b:=b5) (cs:=#[I c.p,I c.d,I c.v,I c.l,I c.st,.slice aa c.ap.length ac,.slice (some ⟨b84,0,none⟩) (c.vt.length + 1) c84]) (hl:=rfl))<|s_sta (b:=b10) (vs:=#[I c.p,I c.d,I c.v,I c.l,I c.st,.slice aa c.ap.length ac,.slice (some ⟨b84,0,none⟩) (c.vt.length + 1) c84]) (cs:=#[I 0,I 0,I 0,I 0,I 0,.slice none 0 0,.slice none 0 0]) (h1:=one_allA rfl) (hl:=rfl) (hs1:=rfl) ?_
  refine s_st (b:=b11) (v:=I 0) (cs:=#[I 0]) (hl:=by simp) ?_
  refine s_nil<|q_then<|c_ret<|?_
  exact leave_R (cs:=[.pointer (some ⟨b11,0,none⟩)]) (fun w' hw=>rcObject_R w' b11) Tryz.results13 (.cons (rv_ca (b:=b10) (cs:=#[I c.p,I c.d,I c.v,I c.l,I c.st,.slice aa c.ap.length ac,.slice (some ⟨b84,0,none⟩) (c.vt.length + 1) c84]) (hl:=rfl)) (.cons (rv_cf (v:=I 0)) .nil)) fun w' hw=>⟨(some ⟨b84,0,none⟩,c84),trivial,rfl,hw.sub (by repeat (first | exact List.nil_sublist _ | exact List.Sublist.refl _ | apply List.Sublist.cons_cons | apply List.Sublist.cons))⟩
end Go.Proofs.YtegfmbefhpagmaaGreatDoor
end
section
namespace Eng
open Go Go.RowKit
theorem run_eqFL {P : Program} {k : Nat} {X : Array Value} {w : World} : ∀ fs : List Field, (∀ f ∈ fs, f.name ≠ "_" ∧ ∃ v, (part f.type X f.offset).run P w = .ok v w ∧ (Op.equalIn k f.type v v).run P w = .ok true w) → (Op.eqFields k X X fs).run P w = .ok true w
  | [],_=>by simp [Op.eqFields]
  | f :: fs,h=>by
    obtain ⟨n,v,c,e⟩:=h f (.head _)
    have h9:=run_eqFL fs fun f' hf=>h f' (.tail _ hf)
    simp only [Op.eqFields,if_pos n,Sem.run_bind,c,Result.andThen_ok,e,Bool.not_true,Bool.false_eq_true,if_false,h9]
section
variable {r:Option Nat} {P:Program} {n:Nat} {D:List Deferred} {W:World} {Bo:List Nat} {F:List (Nat × Value)} {l l':SH}
  {d:Option Tmp} {dd:Nat} {ty:TypeId} {ps:String} {af:Array Edge} {g:Option (Nat × Bool)} {x y z:Operand} {v u:Value} {ta tb t e:TypeId}
  {Q:Exit → Act → World → Prop} {ops:Array Oper} {rest:List Oper} {td:TypeDesc} {c:Code}
theorem s_stinR {s by':Nat} [hs:HS P t s by'] {b off:Nat} {cs cs' vs:List Value} {et:TypeId} (h:LP r P n D W Bo ops Q rest F l')
    (hcs:cs.take off ++ vs ++ cs.drop (off + vs.length) = cs') (hl:off + vs.length ≤ cs.length) (h1:∀ u ∈ vs,u.oneCell' = true) (hs1:vs.length = s)
    (hx:evO F x = some (.pointer (some ⟨b,off,none⟩)):=by rfl) (hv:evO F y = some (.agg vs.toArray):=by rfl)
    (hr:Rep (.blk b (.cells cs.toArray et (0,0))) (.blk b (.cells cs'.toArray et (0,0))) l l':=by repeat (first | exact .head _ | apply Rep.tail)) (hg:Wn ops F g:=by first | exact .none | exact .some rfl rfl):LP r P n D W Bo ops Q (⟨none,.store t x y,ty,ps,af,g⟩ :: rest) F l:=by
  refine s_unit (by simp) (fun a w ha hw=>⟨w.setRow b cs'.toArray,?_,hw.setRow hr⟩) (hg:=hg) (h:=h)
  have hg:=(hw.own _ hr.mem).1
  have h2:=run_storeCells_at P b off et vs 0 cs.toArray w hg (by simp; omega) h1
  have e1:(cs.toArray.toList.take (off + 0) ++ vs ++ cs.toArray.toList.drop (off + 0 + vs.length)).toArray = cs'.toArray:=by
    show (cs.take off ++ vs ++ cs.drop (off + vs.length)).toArray = _
    rw [hcs]
  rw [e1] at h2
  simp only [execOp,ha.eval hx,ha.eval hv,Instr.storeAt,Instr.sureAddr,storeVar,Sem.run_bind,Sem.run_pure,Result.andThen_ok,run_sizeOf' hs,Value.cells]
  rw [if_neg (by simp [hs1])]
  rw [h2]
  rfl
end
end Eng
namespace Rst
open Go Eng Gf Sha Sig Wr Cod Cha Go.Proofs.YtegfmbefhpagmaaGreatDoor
/-- a certificate that may be made -/
structure CrRt (d v l ver:Int):Prop where
  d:0 ≤ d ∧ d < 512
  ver:1 ≤ ver ∧ ver ≤ 1048576
  v:chk v = 0
  l:chk l = 0
noncomputable def crB (d v l ver:Int):Bool:=@decide (CrRt d v l ver) (Classical.propDecidable _)
theorem crB_t {d v l ver:Int}:crB d v l ver = true ↔ CrRt d v l ver:=@decide_eq_true_iff _ (Classical.propDecidable _)
theorem crB_f {d v l ver:Int}:crB d v l ver = false ↔ ¬ CrRt d v l ver:=@decide_eq_false_iff_not _ (Classical.propDecidable _)
theorem CrRt.r64 {d v l ver k b:Int} (h:CrRt d v l ver) (hk:R64 k) (hb:R64 b):∀ n ∈ [k,d,v,l,ver,b],R64 n:=by
  have e1:=h.d
  have e2:=h.ver
  intro n hn
  simp only [List.mem_cons,List.not_mem_nil,or_false] at hn
  rcases hn with rfl | rfl | rfl | rfl | rfl | rfl
  · exact hk
  · unfold R64; omega
  · obtain ⟨x,rfl,hx⟩:=Wr.el_El (chk_0.1 h.v); have:=Gf.El.l63 hx; unfold R64; omega
  · obtain ⟨x,rfl,hx⟩:=Wr.el_El (chk_0.1 h.l); have:=Gf.El.l63 hx; unfold R64; omega
  · unfold R64; omega
  · exact hb
abbrev lbCert:List UInt8:=[99,101,114,116]
def cmsg (ns:List Int):List UInt8:=tagged lbCert (ivE ns)
theorem cmsg_length (ns:List Int):(cmsg ns).length = 32:=tagged_length _ _
theorem stE_371 {p:Pn} {c:Cs} {now:Int} (h:¬ Prs p):stE p c now = 371:=by unfold stE; rw [if_pos (prsB_f.2 h)]
section
variable {p:Pn} {c:Cs} {now:Int} (h1:Prs p)
include h1
theorem stE_390 (h2:¬ Blg p c):stE p c now = 390:=by
  unfold stE; rw [if_neg (by rw [prsB_t.2 h1]; simp),if_pos (blgB_f.2 h2)]
variable (h2:Blg p c)
include h2
theorem stE_392 (h3:(c.vt.any fun v:Vt=>decide (c.st ≤ v.no ∧ v.no ≤ c.st + p.cool - 1)) = true):stE p c now = 392:=by
  unfold stE; rw [if_neg (by rw [prsB_t.2 h1]; simp),if_neg (by rw [blgB_t.2 h2]; simp),if_pos h3]
variable (h3:¬ (c.vt.any fun v:Vt=>decide (c.st ≤ v.no ∧ v.no ≤ c.st + p.cool - 1)) = true)
include h3
theorem stE_391 (h4:now < c.st + p.cool):stE p c now = 391:=by
  unfold stE; rw [if_neg (by rw [prsB_t.2 h1]; simp),if_neg (by rw [blgB_t.2 h2]; simp),if_neg h3,if_pos h4]
theorem stE_few (h4:¬ now < c.st + p.cool) (h5:(c.ap.length:Int) < p.need):stE p c now = 390:=by
  unfold stE; rw [if_neg (by rw [prsB_t.2 h1]; simp),if_neg (by rw [blgB_t.2 h2]; simp),if_neg h3,if_neg h4,if_pos h5]
theorem stE_0 (h4:¬ now < c.st + p.cool) (h5:¬ (c.ap.length:Int) < p.need):stE p c now = 0:=by
  unfold stE; rw [if_neg (by rw [prsB_t.2 h1]; simp),if_neg (by rw [blgB_t.2 h2]; simp),if_neg h3,if_neg h4,if_neg h5]
end
theorem stE_inv {p:Pn} {c:Cs} {now:Int} (h:stE p c now = 0):Prs p ∧ Blg p c ∧ ¬ (c.vt.any fun v:Vt=>decide (c.st ≤ v.no ∧ v.no ≤ c.st + p.cool - 1)) = true ∧ c.st + p.cool ≤ now ∧ p.need ≤ (c.ap.length:Int):=by
  by_cases h1:Prs p
  · by_cases h2:Blg p c
    · by_cases h3:(c.vt.any fun v:Vt=>decide (c.st ≤ v.no ∧ v.no ≤ c.st + p.cool - 1)) = true
      · rw [stE_392 h1 h2 h3] at h; cases h
      · by_cases h4:now < c.st + p.cool
        · rw [stE_391 h1 h2 h3 h4] at h; cases h
        · by_cases h5:(c.ap.length:Int) < p.need
          · rw [stE_few h1 h2 h3 h4 h5] at h; cases h
          · exact ⟨h1,h2,h3,by omega,by omega⟩
    · rw [stE_390 h1 h2] at h; cases h
  · rw [stE_371 h1] at h; cases h
/-- few guards, approvals and vetoes, short wraps -/
structure Few (p:Pn) (c:Cs):Prop where
  a:∀ x ∈ c.ap,x.q.length ≤ 300
  g:p.gs.length ≤ 20
  n:c.ap.length ≤ 20
  v:c.vt.length ≤ 20
end Rst
namespace Go.Proofs.YtegfmbefhpagmaaGreatDoor
open Go Eng Gf Sha Sig Wr Cod Cha Rst
set_option maxRecDepth 100000
set_option linter.all false
theorem y_bcert {n:Nat} {D:List Deferred} {W:World} {Bo:List Nat} {F:List (Nat × Value)} {l:SH} {d:Option Tmp} {ty:TypeId} {ps:String} {af:Array Edge} {g:Option (Nat × Bool)} {parts:Array (Nat × Operand)} {vs:List (Nat × Value)} {cs:List Value}
    (hp:evP F parts.toList = some vs:=by rfl) (hf:fillL (fun i=>(#[(0,1),(1,1),(2,1),(3,1),(4,1),(5,1),(6,2)]:Array (Nat × Nat))[i]?) (List.replicate 8 (I 0)) vs = some cs:=by rfl) :
    Y Tryz.prog n D W Bo ⟨d,.build 45 parts,ty,ps,af,g⟩ F l (.agg cs.toArray) :=
  y_blds Tryz.underlying45 (fun w=>by kernel_rfl) hp hf
theorem hsSg:(Tryz.prog).stoodInHeld 43 = false:=by kernel_rfl
theorem hfSg:(Tryz.prog).underlying 43 = some (.struct ((Tryz.prog).fieldsOf 43)):=by kernel_rfl
theorem hlSg : ∃ f0 f1 : Field, ((Tryz.prog).fieldsOf 43).toList = [f0, f1] ∧ f0.name = "R" ∧ f0.type = 3 ∧ f0.offset = 0 ∧ f1.name = "S" ∧ f1.type = 3 ∧ f1.offset = 1 := by
  simp only [Program.fieldsOf,Tryz.underlying43]
  exact ⟨_,_,rfl,rfl,rfl,rfl,rfl,rfl,rfl⟩
theorem eqSgIn (k:Nat) {a b:Int} (w:World):(Op.equalIn (k + 4) 43 (.agg #[I a,I b]) (.agg #[I a,I b])).run Tryz.prog w = .ok true w:=by
  obtain ⟨f0,f1,hl,n0,t0,o0,n1,t1,o1⟩:=hlSg
  rw [run_equalIn_struct w (k + 3) _ _ _ hfSg hsSg,hl]
  refine run_eqFL _ fun f hf=>?_
  simp only [List.mem_cons,List.not_mem_nil,or_false] at hf
  rcases hf with rfl | rfl
  · exact ⟨by rw [n0]; decide,I a,by rw [t0,o0]; exact run_part1 (by rfl) w,by rw [t0]; exact run_eqI (k + 2) a w⟩
  · exact ⟨by rw [n1]; decide,I b,by rw [t1,o1]; exact run_part1 (by rfl) w,by rw [t1]; exact run_eqI (k + 2) b w⟩
theorem hgCt:(Tryz.prog).eqGuardType (Tryz.prog).depth 45 = false:=by kernel_rfl
theorem hsCt:(Tryz.prog).stoodInHeld 45 = false:=by kernel_rfl
theorem hfCt:(Tryz.prog).underlying 45 = some (.struct ((Tryz.prog).fieldsOf 45)):=by kernel_rfl
theorem hlCt : ∃ f0 f1 f2 f3 f4 f5 f6 : Field, ((Tryz.prog).fieldsOf 45).toList = [f0, f1, f2, f3, f4, f5, f6] ∧ f0.name = "Kind" ∧ f0.type = 3 ∧ f0.offset = 0 ∧ f1.name = "Device" ∧ f1.type = 3 ∧ f1.offset = 1 ∧ f2.name = "Verify" ∧ f2.type = 3 ∧ f2.offset = 2 ∧ f3.name = "Leaf" ∧ f3.type = 3 ∧ f3.offset = 3 ∧ f4.name = "Version" ∧ f4.type = 3 ∧ f4.offset = 4 ∧ f5.name = "By" ∧ f5.type = 3 ∧ f5.offset = 5 ∧ f6.name = "Sig" ∧ f6.type = 43 ∧ f6.offset = 6 := by
  simp only [Program.fieldsOf,Tryz.underlying45]
  exact ⟨_,_,_,_,_,_,_,rfl,rfl,rfl,rfl,rfl,rfl,rfl,rfl,rfl,rfl,rfl,rfl,rfl,rfl,rfl,rfl,rfl,rfl,rfl,rfl,rfl,rfl⟩
theorem eqCtIn (k:Nat) {a b c d e q r s:Int} (w:World):(Op.equalIn (k + 8) 45 (.agg #[I a,I b,I c,I d,I e,I q,I r,I s]) (.agg #[I a,I b,I c,I d,I e,I q,I r,I s])).run Tryz.prog w = .ok true w:=by
  obtain ⟨f0,f1,f2,f3,f4,f5,f6,hl,n0,t0,o0,n1,t1,o1,n2,t2,o2,n3,t3,o3,n4,t4,o4,n5,t5,o5,n6,t6,o6⟩:=hlCt
  rw [run_equalIn_struct w (k + 7) _ _ _ hfCt hsCt,hl]
  refine run_eqFL _ fun f hf=>?_
  simp only [List.mem_cons,List.not_mem_nil,or_false] at hf
  rcases hf with rfl | rfl | rfl | rfl | rfl | rfl | rfl
  · exact ⟨by rw [n0]; decide,I a,by rw [t0,o0]; exact run_part1 (by rfl) w,by rw [t0]; exact run_eqI (k + 6) a w⟩
  · exact ⟨by rw [n1]; decide,I b,by rw [t1,o1]; exact run_part1 (by rfl) w,by rw [t1]; exact run_eqI (k + 6) b w⟩
  · exact ⟨by rw [n2]; decide,I c,by rw [t2,o2]; exact run_part1 (by rfl) w,by rw [t2]; exact run_eqI (k + 6) c w⟩
  · exact ⟨by rw [n3]; decide,I d,by rw [t3,o3]; exact run_part1 (by rfl) w,by rw [t3]; exact run_eqI (k + 6) d w⟩
  · exact ⟨by rw [n4]; decide,I e,by rw [t4,o4]; exact run_part1 (by rfl) w,by rw [t4]; exact run_eqI (k + 6) e w⟩
  · exact ⟨by rw [n5]; decide,I q,by rw [t5,o5]; exact run_part1 (by rfl) w,by rw [t5]; exact run_eqI (k + 6) q w⟩
  · exact ⟨by rw [n6]; decide,.agg #[I r,I s],by rw [t6,o6]; exact run_partA (by rfl) w,by rw [t6]; exact eqSgIn (k + 3) w⟩
theorem run_eqCt {a b c d e q r s:Int} (w:World):(Op.equalIn 10000 45 (.agg #[I a,I b,I c,I d,I e,I q,I r,I s]) (.agg #[I a,I b,I c,I d,I e,I q,I r,I s])).run Tryz.prog w = .ok true w:=eqCtIn 9992 w
theorem y_eqlCt {n:Nat} {D:List Deferred} {W:World} {Bo:List Nat} {F:List (Nat × Value)} {l:SH} {dd:Option Tmp} {ty:TypeId} {ps:String} {af:Array Edge} {g:Option (Nat × Bool)} {x y:Operand} {tb:TypeId} {a b c d e q r s:Int}
    (hx:evO F x = some (.agg #[I a,I b,I c,I d,I e,I q,I r,I s]):=by rfl) (hy:evO F y = some (.agg #[I a,I b,I c,I d,I e,I q,I r,I s]):=by rfl):Y Tryz.prog n D W Bo ⟨dd,.binOp .eql 45 x y tb,ty,ps,af,g⟩ F l (.bool true) :=
  .mk (by simp) fun ac w ha _=>by
    simp only [execOp,ha.eval hx,ha.eval hy,Sem.run_bind,run_eqGuard_agg w .eql 45 x y _ _ hgCt,Result.andThen_ok,run_eql_struct,run_eqCt,Sem.run_pure]
theorem pDev_lo (w:World) (n:Int) (h:¬ 0 ≤ n):Pure Tryz.prog 89 [I n] w (.bool false):=by
  refine enter Tryz.func89 Tryz.ntmps89 ?_
  refine c_seq<|c_reg<|s_y y_as<|s_nil<|q_then<|c_seq<|c_reg<|s_y y_mv<|s_kf (y_geq (p:=n) (q:=0)) h<|s_y y_mv<|s_no<|s_no<|s_y y_pk<|s_y y_as<|s_nil<|q_then<|c_ret<|?_
  exact ret1 Tryz.results89 rv_t fun w' hw=>⟨rfl,hw.sub (List.nil_sublist _)⟩
theorem pDev_hi (w:World) (n:Int) (h:0 ≤ n):Pure Tryz.prog 89 [I n] w (.bool (decide (n < 512))):=by
  refine enter Tryz.func89 Tryz.ntmps89 ?_
  refine c_seq<|c_reg<|s_y y_as<|s_nil<|q_then<|c_seq<|c_reg<|s_y y_mv<|s_kt (y_geq (p:=n) (q:=0)) h<|s_y y_mv<|s_y y_mv<|s_y (y_lss (p:=n) (q:=512))<|s_y y_pk<|s_y y_as<|s_nil<|q_then<|c_ret<|?_
  exact ret1 Tryz.results89 rv_t fun w' hw=>⟨rfl,hw.sub (List.nil_sublist _)⟩
theorem pDev_ok (w:World) (n:Int) (x:Bool) (h:((0:Int) ≤ n ∧ n < 512) ↔ x = true):Pure Tryz.prog 89 [I n] w (.bool x):=by
  by_cases h1:0 ≤ n
  · have h2:=pDev_hi w n h1
    have e:decide (n < 512) = x:=by
      cases x with
      | true=>exact decide_eq_true (h.2 rfl).2
      | false=>exact decide_eq_false fun h3=>by have:=h.1 ⟨h1,h3⟩; cases this
    rwa [e] at h2
  · have e:x = false:=by
      cases x with
      | true=>exact absurd (h.2 rfl).1 h1
      | false=>rfl
    rw [e]; exact pDev_lo w n h1
theorem formed3_ok (w:World) (d v l ver r s:Int):Pure Tryz.prog 27 [.agg #[I 3,I d,I v,I l,I ver,I (-1),I r,I s]] w (.bool (crB d v l ver)):=by
  refine enter Tryz.func27 Tryz.ntmps27 ?_
  refine c_seq<|c_reg<|s_box rfl fun b1=>s_y y_as<|s_nil<|q_then<|c_seq<|c_seq<|c_reg<|s_y y_fa<|s_y (y_ld (b:=b1) (v:=I d))<|?_
  by_cases h7:(0:Int) ≤ d ∧ d < 512
  · refine s_pure (fun w' hw=>pDev_ok w' d true ⟨fun _=>rfl,fun _=>h7⟩)<|s_y (v:=.bool false) (y_not (b:=true))<|s_y y_mv<|s_y y_fa<|s_y (y_ld (b:=b1) (v:=I ver))<|s_ifd (y_lss (p:=ver) (q:=1)) (fun h12=>?_) (fun h12=>?_)
    · refine s_y y_pk<|s_y y_mv<|s_no<|s_no<|s_no<|s_y y_pk<|s_nil<|q_then<|c_t<|c_seq<|c_reg<|s_y y_as<|s_nil<|q_then<|c_ret<|q_ret<|?_
      exact ret1 Tryz.results27 rv_t fun w' hw=>⟨by rw [show crB d v l ver = false from crB_f.2 fun h9=>by have h1:=h9.d; have h2:=h9.ver; have h3:=h9.v; have h4:=h9.l; omega],hw.sub (List.nil_sublist _)⟩
    · refine s_y y_pk<|s_y y_mv<|s_y y_fa<|s_y (y_ld (b:=b1) (v:=I ver))<|s_y (y_gtr (p:=ver) (q:=1048576))<|s_y y_pk<|s_nil<|q_then<|c_ifd (fun h18=>?_) (fun h18=>?_)
      · refine c_seq<|c_reg<|s_y y_as<|s_nil<|q_then<|c_ret<|q_ret<|?_
        exact ret1 Tryz.results27 rv_t fun w' hw=>⟨by rw [show crB d v l ver = false from crB_f.2 fun h9=>by have h1:=h9.d; have h2:=h9.ver; have h3:=h9.v; have h4:=h9.l; omega],hw.sub (List.nil_sublist _)⟩
      · refine c_skip<|q_then<|c_seq<|c_reg<|s_y y_fa<|s_y (y_ld (b:=b1) (v:=I v))<|s_pure (fun w' hw=>gCheck_ok w' v)<|s_ifd (y_eql (p:=chk v) (q:=0)) (fun h22=>?_) (fun h22=>?_)
        · refine s_y y_mv<|s_y y_fa<|s_y (y_ld (b:=b1) (v:=I l))<|s_pure (fun w' hw=>gCheck_ok w' l)<|s_ifd (y_eql (p:=chk l) (q:=0)) (fun h27=>?_) (fun h27=>?_)
          · refine s_y y_pk<|s_y y_as<|s_nil<|q_then<|c_seq<|c_reg<|s_y y_fa<|s_y (y_ld (b:=b1) (v:=I (-1)))<|s_pure (fun w' hw=>pDev_lo w' (-1) (by decide))<|s_y y_mv<|s_no<|s_no<|s_no<|s_no<|s_no<|s_y y_pk<|s_y y_mv<|s_no<|s_no<|s_no<|s_no<|s_no<|s_no<|s_no<|s_y y_pk<|s_y y_as<|s_nil<|q_then<|c_seq<|c_seq<|c_reg<|s_y y_fa<|s_y (y_ld (b:=b1) (v:=I 3))<|s_nil<|q_then<|c_block<|c_seq<|c_reg<|s_kf (y_eql (p:=3) (q:=1)) (by omega)<|s_y y_as<|s_nil<|q_then<|c_f<|c_seq<|c_reg<|s_kf (y_eql (p:=3) (q:=2)) (by omega)<|s_y y_as<|s_nil<|q_then<|c_f<|c_seq<|c_reg<|s_kt (y_eql (p:=3) (q:=3)) (by omega)<|s_y y_as<|s_nil<|q_then<|c_t<|c_seq<|c_reg<|s_y y_mv<|s_y y_mv<|s_y y_fa<|s_y (y_ld (b:=b1) (v:=I (-1)))<|s_kt (y_eql (p:=(-1)) (q:=(-1))) (by omega)<|s_y y_pk<|s_y y_as<|s_nil<|q_then<|c_ret<|q_retb<|q_ret<|?_
            exact ret1 Tryz.results27 rv_t fun w' hw=>⟨by rw [show crB d v l ver = true from crB_t.2 ⟨by omega,by omega,by omega,by omega⟩],hw.sub (List.nil_sublist _)⟩
          · refine s_y y_pk<|s_y y_as<|s_nil<|q_then<|c_seq<|c_reg<|s_y y_fa<|s_y (y_ld (b:=b1) (v:=I (-1)))<|s_pure (fun w' hw=>pDev_lo w' (-1) (by decide))<|s_y y_mv<|s_no<|s_no<|s_no<|s_no<|s_no<|s_y y_pk<|s_y y_mv<|s_no<|s_no<|s_no<|s_no<|s_no<|s_no<|s_no<|s_y y_pk<|s_y y_as<|s_nil<|q_then<|c_seq<|c_seq<|c_reg<|s_y y_fa<|s_y (y_ld (b:=b1) (v:=I 3))<|s_nil<|q_then<|c_block<|c_seq<|c_reg<|s_kf (y_eql (p:=3) (q:=1)) (by omega)<|s_y y_as<|s_nil<|q_then<|c_f<|c_seq<|c_reg<|s_kf (y_eql (p:=3) (q:=2)) (by omega)<|s_y y_as<|s_nil<|q_then<|c_f<|c_seq<|c_reg<|s_kt (y_eql (p:=3) (q:=3)) (by omega)<|s_y y_as<|s_nil<|q_then<|c_t<|c_seq<|c_reg<|s_y y_mv<|s_y y_mv<|s_no<|s_no<|s_no<|s_y y_pk<|s_y y_as<|s_nil<|q_then<|c_ret<|q_retb<|q_ret<|?_
            exact ret1 Tryz.results27 rv_t fun w' hw=>⟨by rw [show crB d v l ver = false from crB_f.2 fun h9=>by have h1:=h9.d; have h2:=h9.ver; have h3:=h9.v; have h4:=h9.l; omega],hw.sub (List.nil_sublist _)⟩
        · refine s_y y_mv<|s_no<|s_no<|s_no<|s_no<|s_y y_pk<|s_y y_as<|s_nil<|q_then<|c_seq<|c_reg<|s_y y_fa<|s_y (y_ld (b:=b1) (v:=I (-1)))<|s_pure (fun w' hw=>pDev_lo w' (-1) (by decide))<|s_y y_mv<|s_no<|s_no<|s_no<|s_no<|s_no<|s_y y_pk<|s_y y_mv<|s_no<|s_no<|s_no<|s_no<|s_no<|s_no<|s_no<|s_y y_pk<|s_y y_as<|s_nil<|q_then<|c_seq<|c_seq<|c_reg<|s_y y_fa<|s_y (y_ld (b:=b1) (v:=I 3))<|s_nil<|q_then<|c_block<|c_seq<|c_reg<|s_kf (y_eql (p:=3) (q:=1)) (by omega)<|s_y y_as<|s_nil<|q_then<|c_f<|c_seq<|c_reg<|s_kf (y_eql (p:=3) (q:=2)) (by omega)<|s_y y_as<|s_nil<|q_then<|c_f<|c_seq<|c_reg<|s_kt (y_eql (p:=3) (q:=3)) (by omega)<|s_y y_as<|s_nil<|q_then<|c_t<|c_seq<|c_reg<|s_y y_mv<|s_y y_mv<|s_no<|s_no<|s_no<|s_y y_pk<|s_y y_as<|s_nil<|q_then<|c_ret<|q_retb<|q_ret<|?_
          exact ret1 Tryz.results27 rv_t fun w' hw=>⟨by rw [show crB d v l ver = false from crB_f.2 fun h9=>by have h1:=h9.d; have h2:=h9.ver; have h3:=h9.v; have h4:=h9.l; omega],hw.sub (List.nil_sublist _)⟩
  · refine s_pure (fun w' hw=>pDev_ok w' d false ⟨fun h9=>absurd h9 h7,fun h9=>by cases h9⟩)<|s_y (v:=.bool true) (y_not (b:=false))<|s_y y_mv<|s_no<|s_no<|s_no<|s_y y_pk<|s_y y_mv<|s_no<|s_no<|s_no<|s_y y_pk<|s_nil<|q_then<|c_t<|c_seq<|c_reg<|s_y y_as<|s_nil<|q_then<|c_ret<|q_ret<|?_
    exact ret1 Tryz.results27 rv_t fun w' hw=>⟨by rw [show crB d v l ver = false from crB_f.2 fun h9=>by have h1:=h9.d; have h2:=h9.ver; have h3:=h9.v; have h4:=h9.l; omega],hw.sub (List.nil_sublist _)⟩
theorem formed1_ok (w:World) (d v l ver r s:Int):Pure Tryz.prog 27 [.agg #[I 1,I d,I v,I l,I ver,I d,I r,I s]] w (.bool (crB d v l ver)):=by
  refine enter Tryz.func27 Tryz.ntmps27 ?_
  refine c_seq<|c_reg<|s_box rfl fun b1=>s_y y_as<|s_nil<|q_then<|c_seq<|c_seq<|c_reg<|s_y y_fa<|s_y (y_ld (b:=b1) (v:=I d))<|?_
  by_cases h7:(0:Int) ≤ d ∧ d < 512
  · refine s_pure (fun w' hw=>pDev_ok w' d true ⟨fun _=>rfl,fun _=>h7⟩)<|s_y (v:=.bool false) (y_not (b:=true))<|s_y y_mv<|s_y y_fa<|s_y (y_ld (b:=b1) (v:=I ver))<|s_ifd (y_lss (p:=ver) (q:=1)) (fun h12=>?_) (fun h12=>?_)
    · refine s_y y_pk<|s_y y_mv<|s_no<|s_no<|s_no<|s_y y_pk<|s_nil<|q_then<|c_t<|c_seq<|c_reg<|s_y y_as<|s_nil<|q_then<|c_ret<|q_ret<|?_
      exact ret1 Tryz.results27 rv_t fun w' hw=>⟨by rw [show crB d v l ver = false from crB_f.2 fun h9=>by have h1:=h9.d; have h2:=h9.ver; have h3:=h9.v; have h4:=h9.l; omega],hw.sub (List.nil_sublist _)⟩
    · refine s_y y_pk<|s_y y_mv<|s_y y_fa<|s_y (y_ld (b:=b1) (v:=I ver))<|s_y (y_gtr (p:=ver) (q:=1048576))<|s_y y_pk<|s_nil<|q_then<|c_ifd (fun h18=>?_) (fun h18=>?_)
      · refine c_seq<|c_reg<|s_y y_as<|s_nil<|q_then<|c_ret<|q_ret<|?_
        exact ret1 Tryz.results27 rv_t fun w' hw=>⟨by rw [show crB d v l ver = false from crB_f.2 fun h9=>by have h1:=h9.d; have h2:=h9.ver; have h3:=h9.v; have h4:=h9.l; omega],hw.sub (List.nil_sublist _)⟩
      · refine c_skip<|q_then<|c_seq<|c_reg<|s_y y_fa<|s_y (y_ld (b:=b1) (v:=I v))<|s_pure (fun w' hw=>gCheck_ok w' v)<|s_ifd (y_eql (p:=chk v) (q:=0)) (fun h22=>?_) (fun h22=>?_)
        · refine s_y y_mv<|s_y y_fa<|s_y (y_ld (b:=b1) (v:=I l))<|s_pure (fun w' hw=>gCheck_ok w' l)<|s_ifd (y_eql (p:=chk l) (q:=0)) (fun h27=>?_) (fun h27=>?_)
          · refine s_y y_pk<|s_y y_as<|s_nil<|q_then<|c_seq<|c_reg<|s_y y_fa<|s_y (y_ld (b:=b1) (v:=I d))<|s_pure (fun w' hw=>pDev_ok w' d true ⟨fun _=>rfl,fun _=>by omega⟩)<|s_y y_mv<|s_y y_fa<|s_y (y_ld (b:=b1) (v:=I d))<|s_y y_fa<|s_y (y_ld (b:=b1) (v:=I d))<|s_nf (y_neq (p:=d) (q:=d)) rfl<|s_y y_pk<|s_y y_mv<|s_no<|s_no<|s_no<|s_no<|s_no<|s_no<|s_no<|s_y y_pk<|s_y y_as<|s_nil<|q_then<|c_seq<|c_seq<|c_reg<|s_y y_fa<|s_y (y_ld (b:=b1) (v:=I 1))<|s_nil<|q_then<|c_block<|c_seq<|c_reg<|s_kt (y_eql (p:=1) (q:=1)) (by omega)<|s_y y_as<|s_nil<|q_then<|c_t<|c_seq<|c_reg<|s_y y_mv<|s_y y_mv<|s_y y_fa<|s_y (y_ld (b:=b1) (v:=I d))<|s_y y_fa<|s_y (y_ld (b:=b1) (v:=I d))<|s_kt (y_eql (p:=d) (q:=d)) rfl<|s_y y_pk<|s_y y_as<|s_nil<|q_then<|c_ret<|q_retb<|q_ret<|?_
            exact ret1 Tryz.results27 rv_t fun w' hw=>⟨by rw [show crB d v l ver = true from crB_t.2 ⟨by omega,by omega,by omega,by omega⟩],hw.sub (List.nil_sublist _)⟩
          · refine s_y y_pk<|s_y y_as<|s_nil<|q_then<|c_seq<|c_reg<|s_y y_fa<|s_y (y_ld (b:=b1) (v:=I d))<|s_pure (fun w' hw=>pDev_ok w' d true ⟨fun _=>rfl,fun _=>by omega⟩)<|s_y y_mv<|s_y y_fa<|s_y (y_ld (b:=b1) (v:=I d))<|s_y y_fa<|s_y (y_ld (b:=b1) (v:=I d))<|s_nf (y_neq (p:=d) (q:=d)) rfl<|s_y y_pk<|s_y y_mv<|s_no<|s_no<|s_no<|s_no<|s_no<|s_no<|s_no<|s_y y_pk<|s_y y_as<|s_nil<|q_then<|c_seq<|c_seq<|c_reg<|s_y y_fa<|s_y (y_ld (b:=b1) (v:=I 1))<|s_nil<|q_then<|c_block<|c_seq<|c_reg<|s_kt (y_eql (p:=1) (q:=1)) (by omega)<|s_y y_as<|s_nil<|q_then<|c_t<|c_seq<|c_reg<|s_y y_mv<|s_y y_mv<|s_no<|s_no<|s_no<|s_no<|s_no<|s_y y_pk<|s_y y_as<|s_nil<|q_then<|c_ret<|q_retb<|q_ret<|?_
            exact ret1 Tryz.results27 rv_t fun w' hw=>⟨by rw [show crB d v l ver = false from crB_f.2 fun h9=>by have h1:=h9.d; have h2:=h9.ver; have h3:=h9.v; have h4:=h9.l; omega],hw.sub (List.nil_sublist _)⟩
        · refine s_y y_mv<|s_no<|s_no<|s_no<|s_no<|s_y y_pk<|s_y y_as<|s_nil<|q_then<|c_seq<|c_reg<|s_y y_fa<|s_y (y_ld (b:=b1) (v:=I d))<|s_pure (fun w' hw=>pDev_ok w' d true ⟨fun _=>rfl,fun _=>by omega⟩)<|s_y y_mv<|s_y y_fa<|s_y (y_ld (b:=b1) (v:=I d))<|s_y y_fa<|s_y (y_ld (b:=b1) (v:=I d))<|s_nf (y_neq (p:=d) (q:=d)) rfl<|s_y y_pk<|s_y y_mv<|s_no<|s_no<|s_no<|s_no<|s_no<|s_no<|s_no<|s_y y_pk<|s_y y_as<|s_nil<|q_then<|c_seq<|c_seq<|c_reg<|s_y y_fa<|s_y (y_ld (b:=b1) (v:=I 1))<|s_nil<|q_then<|c_block<|c_seq<|c_reg<|s_kt (y_eql (p:=1) (q:=1)) (by omega)<|s_y y_as<|s_nil<|q_then<|c_t<|c_seq<|c_reg<|s_y y_mv<|s_y y_mv<|s_no<|s_no<|s_no<|s_no<|s_no<|s_y y_pk<|s_y y_as<|s_nil<|q_then<|c_ret<|q_retb<|q_ret<|?_
          exact ret1 Tryz.results27 rv_t fun w' hw=>⟨by rw [show crB d v l ver = false from crB_f.2 fun h9=>by have h1:=h9.d; have h2:=h9.ver; have h3:=h9.v; have h4:=h9.l; omega],hw.sub (List.nil_sublist _)⟩
  · refine s_pure (fun w' hw=>pDev_ok w' d false ⟨fun h9=>absurd h9 h7,fun h9=>by cases h9⟩)<|s_y (v:=.bool true) (y_not (b:=false))<|s_y y_mv<|s_no<|s_no<|s_no<|s_y y_pk<|s_y y_mv<|s_no<|s_no<|s_no<|s_y y_pk<|s_nil<|q_then<|c_t<|c_seq<|c_reg<|s_y y_as<|s_nil<|q_then<|c_ret<|q_ret<|?_
    exact ret1 Tryz.results27 rv_t fun w' hw=>⟨by rw [show crB d v l ver = false from crB_f.2 fun h9=>by have h1:=h9.d; have h2:=h9.ver; have h3:=h9.v; have h4:=h9.l; omega],hw.sub (List.nil_sublist _)⟩
theorem pMsg_ok (w:World) (k d v l ver by' r s:Int) (hg:LS w) (hR:∀ n ∈ [k,d,v,l,ver,by'],R64 n) :
    Gives Tryz.prog 29 [.agg #[I k,I d,I v,I l,I ver,I by',I r,I s]] w [] (fun b:Nat=>.slice (some ⟨b,0,none⟩) 32 32) (fun b=>[.blk b (.cells (bs (cmsg [k,d,v,l,ver,by'])).toArray 69 (0,0))]) (fun _=>True):=by
  obtain ⟨ns,hns⟩:∃ ns,ns = [k,d,v,l,ver,by']:=⟨_,rfl⟩
  rw [← hns] at hR
  have hl6:ns.length = 6:=by rw [hns]; rfl
  have hel:=iv_len hR (by omega)
  have hm:tagged lbCert (ivE ns) = cmsg ns:=rfl
  refine enter Tryz.func29 Tryz.ntmps29 ?_
  refine c_seq<|c_reg<|s_box rfl fun b1=>s_y y_as<|s_nil<|q_then<|c_seq<|c_reg<|s_y (y_bval (cs:=[I 3,I 0,.string (sb []),.slice none 0 0]))<|s_alloc fun b3=>s_sta (b:=b3) (vs:=#[I 3,I 0,.string (sb []),.slice none 0 0]) (cs:=#[I 0,I 0,.string .empty,.slice none 0 0]) (h1:=by intro u hu; simp at hu; rcases hu with rfl | rfl | rfl | rfl <;> rfl) (hl:=rfl) (hs1:=rfl) ?_
  refine s_nil<|q_then<|c_seq<|c_seq<|c_reg<|s_y y_fa<|s_y (y_ld (b:=b1) (v:=I k))<|s_y y_fa<|s_y (y_ld (b:=b1) (v:=I d))<|s_y y_fa<|s_y (y_ld (b:=b1) (v:=I v))<|s_y y_fa<|s_y (y_ld (b:=b1) (v:=I l))<|s_y y_fa<|s_y (y_ld (b:=b1) (v:=I ver))<|s_y y_fa<|s_y (y_ld (b:=b1) (v:=I by'))<|s_y (y_blda (cs:=is [k,d,v,l,ver,by']))<|?_
  rw [← hns]
  refine s_y y_mv<|s_nil<|q_then<|c_nilrow 156 4<|c_block<|?_
  refine c_loop3 (fun (j:Nat) (a':Option Addr) (c':Nat)=>[(3,.pointer (some ⟨b3,0,none⟩)),(22,.agg (is ns).toArray),(23,I j)]) (fun j a' c'=>[.row a' c' 156 4 j (fcells ((ns.take j).map vI)),.blk b3 (.cells #[I 3,I 0,.string (sb []),.slice a' j c'] 156 (0,0))]) (fun j _ _=>j ≤ 6) (fun j _ _=>6 - j) 0 none 0 (by omega) ⟨rfl,rfl,rfl,trivial⟩ (.cons_cons _ (.cons_cons _ (List.nil_sublist _))) ?_
  intro j a' c' hk
  refine c_seq<|c_reg<|s_y (y_lss (p:=((j:Nat):Int)) (q:=6))<|s_nil<|q_then<|c_seq<|c_ifd (fun h24=>?_) (fun h24=>?_)
  · have hk6:j < 6:=by omega
    obtain ⟨z,hz⟩:∃ z,ns[j]? = some z:=⟨_,List.getElem?_eq_getElem (by omega)⟩
    have hix:(is ns).toArray[j]? = some (I z):=by rw [List.getElem?_toArray,is,List.getElem?_map,hz]; rfl
    refine c_skip<|q_then<|c_seq<|c_block<|c_seq<|c_reg<|s_y (y_ixv (v:=I z) j hix)<|s_y y_as<|s_nil<|q_then<|c_reg<|s_y y_fa<|s_y (y_ld (b:=b3) (v:=.slice a' j c'))<|s_y y_mv<|s_y (y_bval (cs:=[I 1,I z,.string (sb []),.slice none 0 0]))<|s_bslr (cs:=[I 1,I z,.string (sb []),.slice none 0 0]) fun b30=>s_app (m:=1) (fun w' hw=>Src.slice (rdR (.head _) w' hw) rfl) (h1:=fun v hv=>by simp at hv; rcases hv with rfl | rfl | rfl | rfl <;> rfl) (hm:=.tail _ (.head _)) (hrep:=fun _ _=>.tail _ (.head _)) fun a31 c31 h31=>s_y y_fa<|s_st (b:=b3) (off:=3) (v:=.slice a31 (j + 1) c31) (cs:=#[I 3,I 0,.string (sb []),.slice a' j c']) (hl:=show 3 < 4 by decide) ?_
    refine s_nil<|q_nb<|q_then<|c_reg<|s_y (y_add (p:=((j:Nat):Int)) (q:=1))<|s_y y_mv<|s_nil<|?_
    rw [show ((j:Nat):Int) + 1 = ((j + 1:Nat):Int) by omega]
    exact q_round3 (x:=j) (y:=a') (z:=c') (j + 1) a31 c31 (by omega) (by omega) ⟨rfl,rfl,rfl,trivial⟩ (by rw [iv_step hz]; exact .cons _ (.refl _))
  · obtain rfl:j = 6:=by omega
    rw [List.take_of_length_le (by omega)]
    refine c_exit<|q_ex<|q_ex<|q_exb<|q_then<|c_seq<|c_reg<|s_y (y_lda (b:=b3) (cs:=#[I 3,I 0,.string (sb []),.slice a' 6 c']) (hl:=rfl))<|s_gives (fun w' hw=>EncodeN_iv w' ns 6 a' c' hl6 hR (by omega) (rdR (.head _) w' hw)) fun x36 _=>s_y y_mv<|s_y y_ext<|s_y y_ext<|s_y y_as<|s_y y_as<|s_nil<|q_then<|c_seq<|c_reg<|s_y y_mv<|s_pure (fun w' hw=>digest_Tagged_ok w' lbCert x36.1 x36.2 (ivE ns) (hg.st hw) (by decide) (rdR (.head _) w' hw) (by omega))<|?_
    rw [hm]
    refine s_alloc fun b8=>s_sta (b:=b8) (vs:=(bs (cmsg ns)).toArray) (cs:=(bs (List.replicate 32 0)).toArray) (h1:=fun v hv=>bs_one (by simpa using hv)) (hl:=((hz32 (cmsg_length _))).trans ((hz32 List.length_replicate)).symm) (hs1:=hz32 (cmsg_length _)) ?_
    refine s_nil<|q_then<|c_seq<|c_reg<|s_y y_sla<|s_y y_as<|s_nil<|q_then<|c_ret<|?_
    exact ret1 Tryz.results29 rv_t fun w' hw=>⟨b8,trivial,rfl,hw.sub (.cons_cons _ (List.nil_sublist _))⟩
theorem Certify3_yes (w:World) (d v l ver:Int) (x:Nat) (hc:CrRt d v l ver) (hg:LS w) (hx0:1 ≤ x) (hx:x < 2305843009213688669):Pure Tryz.prog 8 [I 3,I d,I v,I l,I ver,I (-1),I x] w (.tuple #[.agg #[I 3,I d,I v,I l,I ver,I (-1),I (sgR x (cmsg [3,d,v,l,ver,-1]):Nat),I (sgS x (cmsg [3,d,v,l,ver,-1]):Nat)],I 0]):=by
  have hR:∀ n ∈ [(3:Int),d,v,l,ver,-1],R64 n:=hc.r64 (by unfold R64; omega) (by have:=hc.d; unfold R64; omega)
  refine enter Tryz.func8 Tryz.ntmps8 ?_
  refine c_seq<|c_reg<|s_alloc fun b14=>s_y y_as<|s_nil<|q_then<|c_seq<|c_reg<|s_y y_mv<|s_y y_mv<|s_y y_mv<|s_y y_mv<|s_y y_mv<|s_y y_mv<|s_y (y_bcert (cs:=[I 3,I d,I v,I l,I ver,I (-1),I 0,I 0]))<|s_alloc fun b16=>s_sta (b:=b16) (vs:=#[I 3,I d,I v,I l,I ver,I (-1),I 0,I 0]) (cs:=(List.replicate 8 (I 0)).toArray) (h1:=one_allA rfl) (hl:=rfl) (hs1:=rfl) ?_
  refine s_nil<|q_then<|c_seq<|c_seq<|c_reg<|s_y (y_lda (b:=b16) (cs:=#[I 3,I d,I v,I l,I ver,I (-1),I 0,I 0]) (hl:=rfl))<|s_pure (fun w' hw=>(by have h9:=formed3_ok w' d v l ver 0 0; rw [crB_t.2 hc] at h9; exact h9))<|s_y (v:=.bool false) (y_not (b:=true))<|s_nil<|q_then<|c_f<|c_skip<|q_then<|c_seq<|c_reg<|s_y y_mv<|s_y (y_lda (b:=b16) (cs:=#[I 3,I d,I v,I l,I ver,I (-1),I 0,I 0]) (hl:=rfl))<|s_gives (fun w' hw=>pMsg_ok w' 3 d v l ver (-1) 0 0 (hg.st hw) hR) fun (x31:Nat) _=>s_pure (fun w' hw=>signQ w' (some ⟨x31,0,none⟩) 32 32 x (cmsg [3,d,v,l,ver,(-1)]) (hg.st hw) (cmsg_length _) (rd_blkB (e:=69) (.head _) w' hw) (by decide) hx0 hx)<|s_y y_mv<|s_y y_ext<|s_y y_ext<|s_y y_fa<|s_stinR (b:=b16) (off:=6) (cs:=[I 3,I d,I v,I l,I ver,I (-1),I 0,I 0]) (vs:=[I (sgR x (cmsg [3,d,v,l,ver,(-1)]):Nat),I (sgS x (cmsg [3,d,v,l,ver,(-1)]):Nat)]) (cs':=[I 3,I d,I v,I l,I ver,I (-1),I (sgR x (cmsg [3,d,v,l,ver,(-1)]):Nat),I (sgS x (cmsg [3,d,v,l,ver,(-1)]):Nat)]) (hcs:=rfl) (hl:=show 6 + 2 ≤ 8 by decide) (h1:=by intro u hu; simp at hu; rcases hu with rfl | rfl <;> rfl) (hs1:=rfl) ?_
  refine s_y y_as<|s_nil<|q_then<|c_seq<|c_seq<|c_reg<|s_y y_mv<|s_nf (y_neq (p:=0) (q:=0)) (by omega)<|s_nil<|q_then<|c_f<|c_skip<|q_then<|c_seq<|c_reg<|s_y (y_lda (b:=b16) (cs:=#[I 3,I d,I v,I l,I ver,I (-1),I (sgR x (cmsg [3,d,v,l,ver,(-1)]):Nat),I (sgS x (cmsg [3,d,v,l,ver,(-1)]):Nat)]) (hl:=rfl))<|s_sta (b:=b14) (vs:=#[I 3,I d,I v,I l,I ver,I (-1),I (sgR x (cmsg [3,d,v,l,ver,(-1)]):Nat),I (sgS x (cmsg [3,d,v,l,ver,(-1)]):Nat)]) (cs:=(List.replicate 8 (I 0)).toArray) (h1:=one_allA rfl) (hl:=rfl) (hs1:=rfl) ?_
  refine s_y y_as<|s_nil<|q_then<|c_ret<|?_
  exact ret2 Tryz.results8 (rv_ca (b:=b14) (cs:=#[I 3,I d,I v,I l,I ver,I (-1),I (sgR x (cmsg [3,d,v,l,ver,(-1)]):Nat),I (sgS x (cmsg [3,d,v,l,ver,(-1)]):Nat)]) (hl:=rfl)) rv_t fun w' hw=>⟨rfl,hw.sub (List.nil_sublist _)⟩
theorem Certify1_yes (w:World) (d v l ver:Int) (x:Nat) (hc:CrRt d v l ver) (hg:LS w) (hx0:1 ≤ x) (hx:x < 2305843009213688669):Pure Tryz.prog 8 [I 1,I d,I v,I l,I ver,I d,I x] w (.tuple #[.agg #[I 1,I d,I v,I l,I ver,I d,I (sgR x (cmsg [1,d,v,l,ver,d]):Nat),I (sgS x (cmsg [1,d,v,l,ver,d]):Nat)],I 0]):=by
  have hR:∀ n ∈ [(1:Int),d,v,l,ver,d],R64 n:=hc.r64 (by unfold R64; omega) (by have:=hc.d; unfold R64; omega)
  refine enter Tryz.func8 Tryz.ntmps8 ?_
  refine c_seq<|c_reg<|s_alloc fun b14=>s_y y_as<|s_nil<|q_then<|c_seq<|c_reg<|s_y y_mv<|s_y y_mv<|s_y y_mv<|s_y y_mv<|s_y y_mv<|s_y y_mv<|s_y (y_bcert (cs:=[I 1,I d,I v,I l,I ver,I d,I 0,I 0]))<|s_alloc fun b16=>s_sta (b:=b16) (vs:=#[I 1,I d,I v,I l,I ver,I d,I 0,I 0]) (cs:=(List.replicate 8 (I 0)).toArray) (h1:=one_allA rfl) (hl:=rfl) (hs1:=rfl) ?_
  refine s_nil<|q_then<|c_seq<|c_seq<|c_reg<|s_y (y_lda (b:=b16) (cs:=#[I 1,I d,I v,I l,I ver,I d,I 0,I 0]) (hl:=rfl))<|s_pure (fun w' hw=>(by have h9:=formed1_ok w' d v l ver 0 0; rw [crB_t.2 hc] at h9; exact h9))<|s_y (v:=.bool false) (y_not (b:=true))<|s_nil<|q_then<|c_f<|c_skip<|q_then<|c_seq<|c_reg<|s_y y_mv<|s_y (y_lda (b:=b16) (cs:=#[I 1,I d,I v,I l,I ver,I d,I 0,I 0]) (hl:=rfl))<|s_gives (fun w' hw=>pMsg_ok w' 1 d v l ver d 0 0 (hg.st hw) hR) fun (x31:Nat) _=>s_pure (fun w' hw=>signQ w' (some ⟨x31,0,none⟩) 32 32 x (cmsg [1,d,v,l,ver,d]) (hg.st hw) (cmsg_length _) (rd_blkB (e:=69) (.head _) w' hw) (by decide) hx0 hx)<|s_y y_mv<|s_y y_ext<|s_y y_ext<|s_y y_fa<|s_stinR (b:=b16) (off:=6) (cs:=[I 1,I d,I v,I l,I ver,I d,I 0,I 0]) (vs:=[I (sgR x (cmsg [1,d,v,l,ver,d]):Nat),I (sgS x (cmsg [1,d,v,l,ver,d]):Nat)]) (cs':=[I 1,I d,I v,I l,I ver,I d,I (sgR x (cmsg [1,d,v,l,ver,d]):Nat),I (sgS x (cmsg [1,d,v,l,ver,d]):Nat)]) (hcs:=rfl) (hl:=show 6 + 2 ≤ 8 by decide) (h1:=by intro u hu; simp at hu; rcases hu with rfl | rfl <;> rfl) (hs1:=rfl) ?_
  refine s_y y_as<|s_nil<|q_then<|c_seq<|c_seq<|c_reg<|s_y y_mv<|s_nf (y_neq (p:=0) (q:=0)) (by omega)<|s_nil<|q_then<|c_f<|c_skip<|q_then<|c_seq<|c_reg<|s_y (y_lda (b:=b16) (cs:=#[I 1,I d,I v,I l,I ver,I d,I (sgR x (cmsg [1,d,v,l,ver,d]):Nat),I (sgS x (cmsg [1,d,v,l,ver,d]):Nat)]) (hl:=rfl))<|s_sta (b:=b14) (vs:=#[I 1,I d,I v,I l,I ver,I d,I (sgR x (cmsg [1,d,v,l,ver,d]):Nat),I (sgS x (cmsg [1,d,v,l,ver,d]):Nat)]) (cs:=(List.replicate 8 (I 0)).toArray) (h1:=one_allA rfl) (hl:=rfl) (hs1:=rfl) ?_
  refine s_y y_as<|s_nil<|q_then<|c_ret<|?_
  exact ret2 Tryz.results8 (rv_ca (b:=b14) (cs:=#[I 1,I d,I v,I l,I ver,I d,I (sgR x (cmsg [1,d,v,l,ver,d]):Nat),I (sgS x (cmsg [1,d,v,l,ver,d]):Nat)]) (hl:=rfl)) rv_t fun w' hw=>⟨rfl,hw.sub (List.nil_sublist _)⟩
theorem State2_ok (w:World) (b4 b3:Nat) (x:Vt) (p:Pn) (c:Cs) (ga aa va:Option Addr) (gc ac vc:Nat) (hst:1 ≤ c.st ∧ c.st ≤ 65536) (hcl:1 ≤ p.cool ∧ p.cool ≤ 1048576) (h4:Rd w (some ⟨b4,0,none⟩) [I c.p,I c.d,I c.v,I c.l,I c.st,.slice aa c.ap.length ac,.slice va c.vt.length vc]) (h3:Rd w (some ⟨b3,0,none⟩) [I p.id,I p.rk,.slice ga p.gs.length gc,I p.need,I p.cool]) :
    Pure Tryz.prog 122 [.agg x.cell.toArray,.pointer (some ⟨b4,0,none⟩),.pointer (some ⟨b3,0,none⟩)] w (.bool (decide (c.st ≤ x.no ∧ x.no ≤ c.st + p.cool - 1))):=by
  show Pure Tryz.prog 122 [.agg #[I x.d,I x.no,I x.r,I x.s],.pointer (some ⟨b4,0,none⟩),.pointer (some ⟨b3,0,none⟩)] w _
  refine enter Tryz.func122 Tryz.ntmps122 ?_
  refine c_seq<|c_reg<|s_box rfl fun b2=>s_y y_as<|s_nil<|q_then<|c_seq<|c_reg<|s_y y_fa<|s_y (y_ld (b:=b2) (v:=I x.no))<|s_y y_fa<|s_y (y_ldr (a:=some ⟨b4,0,none⟩) (i:=4) (xs:=[I c.p,I c.d,I c.v,I c.l,I c.st,.slice aa c.ap.length ac,.slice va c.vt.length vc]) (v:=I c.st) rfl (hr:=rdW0 h4))<|s_y y_fa<|s_y (y_ldr (a:=some ⟨b4,0,none⟩) (i:=4) (xs:=[I c.p,I c.d,I c.v,I c.l,I c.st,.slice aa c.ap.length ac,.slice va c.vt.length vc]) (v:=I c.st) rfl (hr:=rdW0 h4))<|s_y y_fa<|s_y (y_ldr (a:=some ⟨b3,0,none⟩) (i:=4) (xs:=[I p.id,I p.rk,.slice ga p.gs.length gc,I p.need,I p.cool]) (v:=I p.cool) rfl (hr:=rdW0 h3))<|s_y (y_add (p:=c.st) (q:=p.cool))<|s_y (y_sub (p:=c.st + p.cool) (q:=1))<|s_pure (fun w' hw=>between_ok w' x.no c.st (c.st + p.cool - 1) _ decide_eq_true_iff.symm)<|s_y y_as<|s_nil<|q_then<|c_ret<|?_
  exact ret1 Tryz.results122 rv_t fun w' hw=>⟨rfl,hw.sub (List.nil_sublist _)⟩
theorem State_ok (w:World) (p:Pn) (c:Cs) (now:Int) (ga aa va:Option Addr) (gc ac vc:Nat) (hrg:Rd w ga (is p.gs)) (hra:Rd w aa (apc c.ap)) (hrv:Rd w va (vtc c.vt)) (hgl:p.gs.length ≤ 1000000) (hal:c.ap.length ≤ 1000000) (hvl:c.vt.length ≤ 1000000):Pure Tryz.prog 67 [.agg #[I p.id,I p.rk,.slice ga p.gs.length gc,I p.need,I p.cool],.agg #[I c.p,I c.d,I c.v,I c.l,I c.st,.slice aa c.ap.length ac,.slice va c.vt.length vc],I now] w (I (stE p c now)):=by
  refine enterD Tryz.func67 Tryz.ntmps67 ?_
  refine c_seq<|c_reg<|s_box rfl fun b3=>s_box rfl fun b4=>s_alloc fun b6=>s_nil<|q_then<|c_seq<|c_reg<|s_y y_func<|s_deferC<|s_nil<|q_then<|c_seq<|c_reg<|s_y (y_lda (b:=b3) (cs:=#[I p.id,I p.rk,.slice ga p.gs.length gc,I p.need,I p.cool]) (hl:=rfl))<|?_
  by_cases h9:Prs p
  · refine s_pure (fun w' hw=>(by have h8:=valid_ok w' p ga gc (hrg.st hw) (by omega); rw [prsB_t.2 h9] at h8; exact h8))<|s_pure (fun w' hw=>demand_ok w' 371)<|s_nil<|q_then<|c_seq<|c_reg<|s_y (y_lda (b:=b3) (cs:=#[I p.id,I p.rk,.slice ga p.gs.length gc,I p.need,I p.cool]) (hl:=rfl))<|s_y (y_lda (b:=b4) (cs:=#[I c.p,I c.d,I c.v,I c.l,I c.st,.slice aa c.ap.length ac,.slice va c.vt.length vc]) (hl:=rfl))<|?_
    by_cases h13:Blg p c
    · refine s_pure (fun w' hw=>(by have h8:=belongs_ok w' p c ga aa va gc ac vc h9 (hrg.st hw) (hra.st hw) (hrv.st hw) hal hvl; rw [blgB_t.2 h13] at h8; exact h8))<|s_pure (fun w' hw=>demand_ok w' 390)<|s_nil<|q_then<|c_seq<|c_reg<|s_y y_fa<|s_y (y_ld (b:=b4) (v:=.slice va c.vt.length vc))<|s_y y_func<|?_
      by_cases h18:(c.vt.any (fun v:Vt=>decide (c.st ≤ v.no ∧ v.no ≤ c.st + p.cool - 1))) = true
      · refine s_pure (fun w' hw=>(by have h8:=CoF_Vt w' va vc c.vt 122 [.pointer (some ⟨b4,0,none⟩),.pointer (some ⟨b3,0,none⟩)] (fun v:Vt=>decide (c.st ≤ v.no ∧ v.no ≤ c.st + p.cool - 1)) (hrv.st hw) (by omega) (fun x _ w2 h2=>State2_ok w2 b4 b3 x p c ga aa va gc ac vc h13.fs h9.cool ((rd0B hw (xs:=[I c.p,I c.d,I c.v,I c.l,I c.st,.slice aa c.ap.length ac,.slice va c.vt.length vc]) (.tail _ (.head _))).st h2) ((rd0B hw (xs:=[I p.id,I p.rk,.slice ga p.gs.length gc,I p.need,I p.cool]) (.tail _ (.tail _ (.head _)))).st h2)); rw [h18] at h8; exact h8))<|s_y (v:=.bool false) (y_not (b:=true))<|s_dies (fun w' hw=>demand_dies w' 392)<|q_pt<|?_
        exact leave_P (fun w' hw=>rcState_P w' b6 0 392 (hw.own _ (.head _)).1) Tryz.results67 (.refl _) (.cons (rv_cf (b:=b6) (v:=I 392)) .nil) fun w' hw=>⟨by rw [show stE p c now = 392 from stE_392 h9 h13 h18]; first | rfl | done,hw.sub (List.nil_sublist _)⟩
      · refine s_pure (fun w' hw=>(by have h8:=CoF_Vt w' va vc c.vt 122 [.pointer (some ⟨b4,0,none⟩),.pointer (some ⟨b3,0,none⟩)] (fun v:Vt=>decide (c.st ≤ v.no ∧ v.no ≤ c.st + p.cool - 1)) (hrv.st hw) (by omega) (fun x _ w2 h2=>State2_ok w2 b4 b3 x p c ga aa va gc ac vc h13.fs h9.cool ((rd0B hw (xs:=[I c.p,I c.d,I c.v,I c.l,I c.st,.slice aa c.ap.length ac,.slice va c.vt.length vc]) (.tail _ (.head _))).st h2) ((rd0B hw (xs:=[I p.id,I p.rk,.slice ga p.gs.length gc,I p.need,I p.cool]) (.tail _ (.tail _ (.head _)))).st h2)); rw [Bool.eq_false_iff.2 h18] at h8; exact h8))<|s_y (v:=.bool true) (y_not (b:=false))<|s_pure (fun w' hw=>demand_ok w' 392)<|s_nil<|q_then<|c_seq<|c_reg<|s_y y_mv<|s_y y_fa<|s_y (y_ld (b:=b4) (v:=I c.st))<|s_y y_fa<|s_y (y_ld (b:=b3) (v:=I p.cool))<|s_y (y_add (p:=c.st) (q:=p.cool) (hr:=by have:=h13.fs; have:=h9.cool; unfold R64; omega))<|s_ifd (y_geq (p:=now) (q:=c.st + p.cool)) (fun h27=>?_) (fun h27=>?_)
        · refine s_pure (fun w' hw=>demand_ok w' 391)<|s_nil<|q_then<|c_seq<|c_reg<|s_y y_fa<|s_y (y_ld (b:=b4) (v:=.slice aa c.ap.length ac))<|s_y y_len<|s_y y_fa<|s_y (y_ld (b:=b3) (v:=I p.need))<|s_ifd (y_geq (p:=c.ap.length) (q:=p.need)) (fun h34=>?_) (fun h34=>?_)
          · refine s_pure (fun w' hw=>demand_ok w' 390)<|s_nil<|q_then<|c_seq<|c_reg<|s_st (b:=b6) (v:=I 0) (cs:=#[I 0]) (hl:=by simp) ?_
            refine s_nil<|q_then<|c_ret<|?_
            exact leave_R (cs:=[.pointer (some ⟨b6,0,none⟩)]) (fun w' hw=>rcState_R w' b6) Tryz.results67 (.cons (rv_cf (v:=I 0)) .nil) fun w' hw=>⟨by rw [show stE p c now = 0 from stE_0 h9 h13 h18 (by omega) (by omega)]; first | rfl | done,hw.sub (List.nil_sublist _)⟩
          · refine s_dies (fun w' hw=>demand_dies w' 390)<|q_pt<|?_
            exact leave_P (fun w' hw=>rcState_P w' b6 0 390 (hw.own _ (.head _)).1) Tryz.results67 (.refl _) (.cons (rv_cf (b:=b6) (v:=I 390)) .nil) fun w' hw=>⟨by rw [show stE p c now = 390 from stE_few h9 h13 h18 (by omega) (by omega)]; first | rfl | done,hw.sub (List.nil_sublist _)⟩
        · refine s_dies (fun w' hw=>demand_dies w' 391)<|q_pt<|?_
          exact leave_P (fun w' hw=>rcState_P w' b6 0 391 (hw.own _ (.head _)).1) Tryz.results67 (.refl _) (.cons (rv_cf (b:=b6) (v:=I 391)) .nil) fun w' hw=>⟨by rw [show stE p c now = 391 from stE_391 h9 h13 h18 (by omega)]; first | rfl | done,hw.sub (List.nil_sublist _)⟩
    · refine s_pure (fun w' hw=>(by have h8:=belongs_ok w' p c ga aa va gc ac vc h9 (hrg.st hw) (hra.st hw) (hrv.st hw) hal hvl; rw [blgB_f.2 h13] at h8; exact h8))<|s_dies (fun w' hw=>demand_dies w' 390)<|q_pt<|?_
      exact leave_P (fun w' hw=>rcState_P w' b6 0 390 (hw.own _ (.head _)).1) Tryz.results67 (.refl _) (.cons (rv_cf (b:=b6) (v:=I 390)) .nil) fun w' hw=>⟨by rw [show stE p c now = 390 from stE_390 h9 h13]; first | rfl | done,hw.sub (List.nil_sublist _)⟩
  · refine s_pure (fun w' hw=>(by have h8:=valid_ok w' p ga gc (hrg.st hw) (by omega); rw [prsB_f.2 h9] at h8; exact h8))<|s_dies (fun w' hw=>demand_dies w' 371)<|q_pt<|?_
    exact leave_P (fun w' hw=>rcState_P w' b6 0 371 (hw.own _ (.head _)).1) Tryz.results67 (.refl _) (.cons (rv_cf (b:=b6) (v:=I 371)) .nil) fun w' hw=>⟨by rw [show stE p c now = 371 from stE_371 h9]; first | rfl | done,hw.sub (List.nil_sublist _)⟩
end Go.Proofs.YtegfmbefhpagmaaGreatDoor
end
section
namespace Eng
open Go
theorem at_sub {cs:Array Value} {ys:List Value} {off:Nat} (h:(cs.toList.drop off).take ys.length = ys):∀ (j:Nat) (v:Value),ys[j]? = some v → cs[off + j]? = some v:=fun j v hj=>by
  have hlt:=(List.getElem?_eq_some_iff.1 hj).1
  rw [← h,List.getElem?_take_of_lt (by simpa using hlt),List.getElem?_drop] at hj
  simpa using hj
end Eng
namespace Rst
open Go Eng
def Ap.key (x:Ap):Int × Int × List UInt8 × Int × Int:=(x.g,x.u,x.q,x.r,x.s)
end Rst
namespace Go.Proofs.YtegfmbefhpagmaaGreatDoor
open Go Eng Gf Sha Sig Wr Cod Cha Rst
end Go.Proofs.YtegfmbefhpagmaaGreatDoor
end
section
namespace Eng
open Go Go.RowKit
theorem take_mid {L vs:List Value} {i N:Nat} (h:i + vs.length ≤ N) (hN:N ≤ L.length):(L.take (i + 0) ++ vs ++ L.drop (i + 0 + vs.length)).take N = (L.take N).take i ++ vs ++ (L.take N).drop (i + vs.length):=by
  obtain ⟨A,B,rfl,hA⟩:∃ A B,L = A ++ B ∧ A.length = N:=⟨L.take N,L.drop N,(List.take_append_drop _ _).symm,by rw [List.length_take]; omega⟩
  rw [Nat.add_zero,List.take_append_of_le_length (l₁:=A) (l₂:=B) (i:=i) (by omega),List.drop_append_of_le_length (l₁:=A) (l₂:=B) (i:=i + vs.length) (by omega),List.take_left' hA,← List.append_assoc]
  exact List.take_left' (by simp; omega)
section
variable {r:Option Nat} {P:Program} {n:Nat} {D:List Deferred} {W:World} {Bo:List Nat} {F:List (Nat × Value)} {l l':SH}
  {ty:TypeId} {ps:String} {af:Array Edge} {g:Option (Nat × Bool)} {x y:Operand} {t:TypeId}
  {Q:Exit → Act → World → Prop} {ops:Array Oper} {rest:List Oper}
theorem s_strA {s by':Nat} [hs:HS P t s by'] {a:Option Addr} {i cc k se:Nat} {et:TypeId} {xs ys vs:List Value} (h:LP r P n D W Bo ops Q rest F l')
    (hcs:xs.take i ++ vs ++ xs.drop (i + vs.length) = ys) (hi:i + vs.length ≤ xs.length) (h1:∀ u ∈ vs,u.oneCell' = true) (hs1:vs.length = s)
    (hx:evO F x = some (.pointer (some (ad a i))):=by rfl) (hv:evO F y = some (.agg vs.toArray):=by rfl)
    (hr:Rep (.row a cc et se k xs) (.row a cc et se k ys) l l':=by repeat (first | exact .head _ | apply Rep.tail)) (h0:0 < vs.length:=by exact Nat.zero_lt_succ _) (hg:Wn ops F g:=by first | exact .none | exact .some rfl rfl) :
    LP r P n D W Bo ops Q (⟨none,.store t x y,ty,ps,af,g⟩ :: rest) F l:=by
  refine s_unit (by simp) (fun ac w ha hw=>?_) (hg:=hg) (h:=h)
  obtain ⟨hl,hkc,hown⟩:=(hw.own _ hr.mem).1
  have hyl:ys.length = xs.length:=by rw [← hcs]; simp; omega
  rcases hown with ⟨rfl,rfl⟩ | ⟨b,cur,rfl,hb,hcm,hcs',htake⟩
  · obtain rfl:k = 0:=by omega
    rw [Nat.zero_mul] at hl; omega
  · have hmul:k * se ≤ cc * se:=Nat.mul_le_mul_right _ hkc
    have hcur:k * se ≤ cur.toList.length:=by rw [Array.length_toList,hcs']; exact hmul
    have h2:=run_storeCells_at P b i et vs 0 cur w hb (by rw [← Array.length_toList]; omega) h1
    obtain ⟨cs,hce⟩:∃ cs,cs = (cur.toList.take (i + 0) ++ vs ++ cur.toList.drop (i + 0 + vs.length)).toArray:=⟨_,rfl⟩
    rw [← hce] at h2
    have hsz:cs.size = cur.size:=by rw [hce]; simp; rw [← Array.length_toList]; omega
    refine ⟨w.setRow b cs,?_,hw.change hr rfl rfl rfl (by simp) (fun k _ hk=>setRow_other w b _ k (fun e=>hk (by rw [e]; rfl))) ⟨by rw [hyl]; exact hl,hkc,.inr ⟨b,_,rfl,setRow_heap w b cur _ et (0,0) hb,hcm,by rw [hsz]; exact hcs',?_⟩⟩ (fun k hk=>.inl hk)⟩
    · simp only [execOp,ha.eval hx,ha.eval hv,Instr.storeAt,Instr.sureAddr,storeVar,Sem.run_bind,Sem.run_pure,Result.andThen_ok,run_sizeOf' hs,Value.cells,ad,Option.getD_some,Nat.zero_add]
      rw [if_neg (by simp [hs1])]
      rw [h2]
      rfl
    · rw [hce,← hcs,← htake]
      exact take_mid (by rw [← hl]; exact hi) hcur
end
end Eng
namespace Rst
open Go Eng Gf Go.Proofs.YtegfmbefhpagmaaGreatDoor
def cmpI (a b:Int):Int:=if a < b then -1 else if b < a then 1 else 0
theorem cmpI_lt {a b:Int}:cmpI a b < 0 ↔ a < b:=by
  unfold cmpI
  split
  · omega
  · split <;> omega
def bub:List (Int × Int) → Nat → List (Int × Int)
  | l,0=>l
  | l,m + 1=>if (l.getD (m + 1) (0,0)).1 < (l.getD m (0,0)).1 then bub ((l.set (m + 1) (l.getD m (0,0))).set m (l.getD (m + 1) (0,0))) m else l
theorem bub_length:∀ (m:Nat) (l:List (Int × Int)),(bub l m).length = l.length
  | 0,_=>rfl
  | m + 1,l=>by
    unfold bub
    split
    · rw [bub_length m]; simp
    · rfl
def srtN (l:List (Int × Int)):Nat → List (Int × Int)
  | 0=>l
  | k + 1=>bub (srtN l k) (k + 1)
theorem srtN_length (l:List (Int × Int)):∀ k,(srtN l k).length = l.length
  | 0=>rfl
  | k + 1=>by rw [srtN,bub_length,srtN_length l k]
def isort (l:List (Int × Int)):List (Int × Int):=srtN l (l.length - 1)
theorem getD_of {l:List (Int × Int)} {k:Nat} {x:Int × Int} (h:l[k]? = some x):l.getD k (0,0) = x:=by rw [List.getD_eq_getElem?_getD,h]; rfl
theorem bub_lt {l:List (Int × Int)} {m:Nat} {x y:Int × Int} (hx:l[m + 1]? = some x) (hy:l[m]? = some y) (h:x.1 < y.1):bub l (m + 1) = bub ((l.set (m + 1) y).set m x) m:=by
  conv=>lhs; unfold bub
  rw [getD_of hx,getD_of hy,if_pos h]
theorem bub_ge {l:List (Int × Int)} {m:Nat} {x y:Int × Int} (hx:l[m + 1]? = some x) (hy:l[m]? = some y) (h:¬ x.1 < y.1):bub l (m + 1) = l:=by
  conv=>lhs; unfold bub
  rw [getD_of hx,getD_of hy,if_neg h]
theorem shc_cons (x:Int × Int) (l:List (Int × Int)):shc (x :: l) = I x.1 :: I x.2 :: shc l:=rfl
theorem shc_atA {l:List (Int × Int)} {i:Nat} {x:Int × Int} (hx:l[i]? = some x) {j:Nat} {v:Value} (hv:[I x.1,I x.2][j]? = some v):(shc l)[i * 2 + j]? = some v:=flat_mid (f:=fun s:Int × Int=>[I s.1,I s.2]) (m:=2) (fun _=>rfl) hx hv
theorem shc_set:∀ {l:List (Int × Int)} {i:Nat} {v:Int × Int},i < l.length → (shc l).take (i * 2) ++ [I v.1,I v.2] ++ (shc l).drop (i * 2 + [I v.1,I v.2].length) = shc (l.set i v)
  | x :: l,0,v,_=>by simp [shc_cons]
  | x :: l,i + 1,v,h=>by
    have h9:=shc_set (l:=l) (i:=i) (v:=v) (by simpa using h)
    rw [List.set_cons_succ,shc_cons,shc_cons,← h9,show (i + 1) * 2 = i * 2 + 2 by omega]
    simp [Nat.add_right_comm _ 2]
end Rst
namespace Go.Proofs.YtegfmbefhpagmaaGreatDoor
open Go Eng Gf Sha Sig Wr Cod Cha Rst
set_option maxRecDepth 100000
set_option linter.all false
theorem isNaN_ok (w:World) (n:Int):Pure Tryz.prog 101 [I n] w (.bool false):=by
  refine enter Tryz.func101 Tryz.ntmps101 ?_
  refine c_seq<|c_reg<|s_y y_as<|s_nil<|q_then<|c_seq<|c_reg<|s_y y_mv<|s_y y_mv<|s_nf (y_neq (p:=n) (q:=n)) rfl<|s_y y_as<|s_nil<|q_then<|c_ret<|?_
  exact ret1 Tryz.results101 rv_t fun w' hw=>⟨rfl,hw.sub (List.nil_sublist _)⟩
theorem Compare_ok (w:World) (a b:Int):Pure Tryz.prog 42 [I a,I b] w (I (cmpI a b)):=by
  refine enter Tryz.func42 Tryz.ntmps42 ?_
  refine c_seq<|c_reg<|s_y y_as<|s_nil<|q_then<|c_seq<|c_reg<|s_y y_mv<|s_pure (fun w' hw=>isNaN_ok w' a)<|s_y y_as<|s_nil<|q_then<|c_seq<|c_reg<|s_y y_mv<|s_pure (fun w' hw=>isNaN_ok w' b)<|s_y y_as<|s_nil<|q_then<|c_seq<|c_seq<|c_reg<|s_y y_mv<|s_nil<|q_then<|c_f<|c_skip<|q_then<|c_seq<|c_seq<|c_reg<|s_y y_mv<|s_nil<|q_then<|c_f<|c_skip<|q_then<|c_seq<|c_seq<|c_reg<|s_y y_mv<|s_y y_mv<|s_y (y_lss (p:=a) (q:=b))<|s_nil<|q_then<|c_ifd (fun h16=>?_) (fun h16=>?_)
  · refine c_seq<|c_reg<|s_y y_as<|s_nil<|q_then<|c_ret<|q_ret<|?_
    exact ret1 Tryz.results42 rv_t fun w' hw=>⟨by rw [show cmpI a b = (-1) from by unfold cmpI; repeat (first | rw [if_pos (by omega)] | rw [if_neg (by omega)])],hw.sub (List.nil_sublist _)⟩
  · refine c_skip<|q_then<|c_seq<|c_seq<|c_reg<|s_y y_mv<|s_y y_mv<|s_y (y_gtr (p:=a) (q:=b))<|s_nil<|q_then<|c_ifd (fun h19=>?_) (fun h19=>?_)
    · refine c_seq<|c_reg<|s_y y_as<|s_nil<|q_then<|c_ret<|q_ret<|?_
      exact ret1 Tryz.results42 rv_t fun w' hw=>⟨by rw [show cmpI a b = 1 from by unfold cmpI; repeat (first | rw [if_pos (by omega)] | rw [if_neg (by omega)])],hw.sub (List.nil_sublist _)⟩
    · refine c_skip<|q_then<|c_seq<|c_reg<|s_y y_as<|s_nil<|q_then<|c_ret<|?_
      exact ret1 Tryz.results42 rv_t fun w' hw=>⟨by rw [show cmpI a b = 0 from by unfold cmpI; repeat (first | rw [if_pos (by omega)] | rw [if_neg (by omega)])],hw.sub (List.nil_sublist _)⟩
theorem Finish2_ok (w:World) (x y:Int × Int):Pure Tryz.prog 70 [.agg #[I x.1,I x.2],.agg #[I y.1,I y.2]] w (I (cmpI x.1 y.1)):=by
  refine enter Tryz.func70 Tryz.ntmps70 ?_
  refine c_seq<|c_reg<|s_box rfl fun b2=>s_box rfl fun b3=>s_y y_as<|s_nil<|q_then<|c_seq<|c_reg<|s_y y_fa<|s_y (y_ld (b:=b2) (v:=I x.1))<|s_y y_fa<|s_y (y_ld (b:=b3) (v:=I y.1))<|s_pure (fun w' hw=>Compare_ok w' x.1 y.1)<|s_y y_as<|s_nil<|q_then<|c_ret<|?_
  exact ret1 Tryz.results70 rv_t fun w' hw=>⟨rfl,hw.sub (List.nil_sublist _)⟩
theorem insS_ok (w:World) (a:Option Addr) (c n:Nat) (l:List (Int × Int)) (hn:l.length = n) (hn2:n ≤ 1000) (hp:(Res.row a c 62 2 n (shc l)).holds w) :
    Gives Tryz.prog 157 [.slice a n c,I 0,I n,.func (.func 70) #[] #[]] w (keys [.row a c 62 2 n (shc l)]) (fun _:Unit=>.tuple #[]) (fun _=>[.row a c 62 2 n (shc (isort l))]) (fun _=>True):=by
  refine enterR Tryz.func157 Tryz.ntmps157 hp ?_
  refine c_seq<|c_reg<|s_y y_mv<|s_y (y_add (p:=0) (q:=1))<|s_y y_as<|s_nil<|q_then<|c_block<|?_
  refine c_loop (fun k:Nat=>[(0,.slice a n c),(1,I 0),(2,I n),(3,.func (.func 70) #[] #[]),(8,I (k + 1:Nat))]) (fun k=>[.row a c 62 2 n (shc (srtN l k))]) (fun k=>k = 0 ∨ k + 1 ≤ n) (fun k=>n - k) 0 (.inl rfl) ⟨rfl,rfl,rfl,rfl,rfl,trivial⟩ (.refl _) ?_
  intro k hk
  have hsl:(srtN l k).length = n:=by rw [srtN_length,hn]
  refine c_seq<|c_seq<|c_reg<|s_y y_mv<|s_y y_mv<|s_y (y_lss (p:=((k + 1:Nat):Int)) (q:=((n:Nat):Int)))<|s_nil<|q_then<|c_ifd (fun h14=>?_) (fun h14=>?_)
  · refine c_skip<|q_then<|c_seq<|c_block<|c_seq<|c_reg<|s_y y_mv<|s_y y_as<|s_nil<|q_then<|c_block<|?_
    refine c_loop (fun p:List (Int × Int) × Nat=>[(0,.slice a n c),(1,I 0),(2,I n),(3,.func (.func 70) #[] #[]),(8,I (k + 1:Nat)),(9,I p.2)]) (fun p=>[.row a c 62 2 n (shc p.1)]) (fun p=>p.2 ≤ k + 1 ∧ p.1.length = n ∧ bub p.1 p.2 = bub (srtN l k) (k + 1)) (fun p=>p.2) (srtN l k,k + 1) ⟨Nat.le_refl _,hsl,rfl⟩ ⟨rfl,rfl,rfl,rfl,rfl,rfl,trivial⟩ (.refl _) ?_
    rintro ⟨l',j⟩ ⟨hj,hl',hb⟩
    simp only at hj hl' hb
    show CP none Tryz.prog _ _ _ _ _ _ [(0,.slice a n c),(1,I 0),(2,I n),(3,.func (.func 70) #[] #[]),(8,I (k + 1:Nat)),(9,I j)] [.row a c 62 2 n (shc l')]
    cases j with
    | zero =>
      have e:l' = srtN l (k + 1):=by rw [srtN,← hb,bub]
      refine c_seq<|c_seq<|c_regd<|d_y y_mv<|d_y y_mv<|d_kf (y_gtr (p:=((0:Nat):Int)) (q:=0)) (by omega)<|d_y y_mv<|d_no<|d_no<|d_no<|d_no<|d_no<|d_no<|d_no<|d_no<|d_no<|d_no<|d_no<|d_no<|d_y y_pk<|d_nil<|q_then<|c_f<|c_exit<|q_ex<|q_ex<|q_exb<|q_nb<|q_then<|c_reg<|s_y y_mv<|s_y (y_add (p:=((k + 1:Nat):Int)) (q:=1))<|?_
      rw [show ((k + 1:Nat):Int) + 1 = ((k + 1 + 1:Nat):Int) by omega]
      refine s_y y_as<|s_nil<|?_
      rw [e]
      exact q_round (k + 1) (.inr (by omega)) (by omega) ⟨rfl,rfl,rfl,rfl,rfl,trivial⟩ (.refl _)
    | succ m =>
      have hm1:((m + 1:Nat):Int) - 1 = ((m:Nat):Int):=by omega
      obtain ⟨x,hx⟩:∃ x,l'[m + 1]? = some x:=⟨_,List.getElem?_eq_getElem (by omega)⟩
      obtain ⟨y,hy⟩:∃ y,l'[m]? = some y:=⟨_,List.getElem?_eq_getElem (by omega)⟩
      refine c_seq<|c_seq<|c_regd<|d_y y_mv<|d_y y_mv<|d_kt (y_gtr (p:=((m + 1:Nat):Int)) (q:=0)) (by omega)<|d_y y_mv<|d_y y_mv<|d_y y_mv<|d_y y_mv<|d_y (y_ixs (xs:=shc l') (i:=((m + 1:Nat):Int)) (hr:=rdR (.head _)) (hl:=by rw [shc_length]; omega))<|d_y (y_ldra (i:=(m + 1) * 2) (cs:=[I x.1,I x.2]) (rdR (.head _)) rfl (fun j v h=>shc_atA hx h))<|d_y y_mv<|d_y y_mv<|d_y (y_sub (p:=((m + 1:Nat):Int)) (q:=1))<|?_
      rw [hm1]
      refine d_y (y_ixs (xs:=shc l') (i:=((m:Nat):Int)) (hr:=rdR (.head _)) (hl:=by rw [shc_length]; omega))<|d_y (y_ldra (i:=(m) * 2) (cs:=[I y.1,I y.2]) (rdR (.head _)) rfl (fun j v h=>shc_atA hy h))<|d_pure (fun w' hw=>Finish2_ok w' x y)<|d_y (y_lss (p:=cmpI x.1 y.1) (q:=0))<|d_y y_pk<|d_nil<|q_then<|?_
      by_cases hlt:x.1 < y.1
      · rw [decide_eq_true (cmpI_lt.2 hlt)]
        refine c_t<|c_skip<|q_then<|c_seq<|c_block<|c_regL []<|r_y 0 rfl y_mv<|r_y 1 rfl y_mv<|r_y 2 rfl y_mv<|r_y 3 rfl y_mv<|r_y 4 rfl (y_sub (p:=((m + 1:Nat):Int)) (q:=1))<|?_
        rw [hm1]
        refine r_y 5 rfl y_mv<|r_y 6 rfl y_mv<|r_y 7 rfl (y_sub (p:=((m + 1:Nat):Int)) (q:=1))<|?_
        rw [hm1]
        refine r_y 10 rfl y_mv<|r_y 11 rfl y_mv<|?_
        refine r_w2 8 12 rfl rfl ?_ ?_ (hsub:=List.nil_sublist _)
        · refine s_y (y_ixs (xs:=shc l') (i:=((m:Nat):Int)) (hr:=rdR (.head _)) (hl:=by rw [shc_length]; omega))<|r_K<|?_
          refine r_w2 9 12 rfl rfl ?_ ?_ (hsub:=List.nil_sublist _)
          · refine s_y (y_ldra (i:=(m) * 2) (cs:=[I y.1,I y.2]) (rdR (.head _)) rfl (fun j v h=>shc_atA hy h))<|r_K<|?_
            refine r_W 12 rfl<|s_y (y_ixs (xs:=shc l') (i:=((m + 1:Nat):Int)) (hr:=rdR (.head _)) (hl:=by rw [shc_length]; omega))<|r_K<|?_
            refine r_W 13 rfl<|s_y (y_ldra (i:=(m + 1) * 2) (cs:=[I x.1,I x.2]) (rdR (.head _)) rfl (fun j v h=>shc_atA hx h))<|r_K<|?_
            refine r_W 14 rfl<|s_y (y_ixs (xs:=shc l') (i:=((m + 1:Nat):Int)) (hr:=rdR (.head _)) (hl:=by rw [shc_length]; omega))<|r_K<|r_W 15 rfl<|s_strA (a:=a) (i:=(m + 1) * 2) (cc:=c) (k:=n) (se:=2) (xs:=shc l') (ys:=shc (l'.set (m + 1) y)) (vs:=[I y.1,I y.2]) ?_ (hcs:=shc_set (v:=y) (by omega)) (hi:=by rw [shc_length]; simp only [List.length_cons,List.length_nil]; omega) (h1:=by intro u hu; simp at hu; rcases hu with rfl | rfl <;> rfl) (hs1:=rfl)
            refine r_K<|r_W 16 rfl<|s_y (y_ixs (xs:=shc (l'.set (m + 1) y)) (i:=((m:Nat):Int)) (hr:=rdR (.head _)) (hl:=by rw [shc_length,List.length_set]; omega))<|r_K<|r_W 17 rfl<|s_strA (a:=a) (i:=m * 2) (cc:=c) (k:=n) (se:=2) (xs:=shc (l'.set (m + 1) y)) (ys:=shc ((l'.set (m + 1) y).set m x)) (vs:=[I x.1,I x.2]) ?_ (hcs:=shc_set (v:=x) (by rw [List.length_set]; omega)) (hi:=by rw [shc_length,List.length_set]; simp only [List.length_cons,List.length_nil]; omega) (h1:=by intro u hu; simp at hu; rcases hu with rfl | rfl <;> rfl) (hs1:=rfl)
            refine r_K<|r_E<|q_nb<|q_then<|c_reg<|s_y y_mv<|s_y (y_sub (p:=((m + 1:Nat):Int)) (q:=1))<|?_
            rw [hm1]
            refine s_y y_as<|s_nil<|?_
            exact q_round ((l'.set (m + 1) y).set m x,m) ⟨by omega,by simp [hl'],by rw [← hb]; exact (bub_lt hx hy hlt).symm⟩ (by show m < m + 1; omega) ⟨rfl,rfl,rfl,rfl,rfl,rfl,trivial⟩ (.refl _)
          · refine s_y (y_ixs (xs:=shc l') (i:=((m + 1:Nat):Int)) (hr:=rdR (.head _)) (hl:=by rw [shc_length]; omega))<|r_K<|?_
            refine r_w2 9 13 rfl rfl ?_ ?_ (hsub:=List.nil_sublist _)
            · refine s_y (y_ldra (i:=(m) * 2) (cs:=[I y.1,I y.2]) (rdR (.head _)) rfl (fun j v h=>shc_atA hy h))<|r_K<|?_
              refine r_W 13 rfl<|s_y (y_ldra (i:=(m + 1) * 2) (cs:=[I x.1,I x.2]) (rdR (.head _)) rfl (fun j v h=>shc_atA hx h))<|r_K<|?_
              refine r_W 14 rfl<|s_y (y_ixs (xs:=shc l') (i:=((m + 1:Nat):Int)) (hr:=rdR (.head _)) (hl:=by rw [shc_length]; omega))<|r_K<|r_W 15 rfl<|s_strA (a:=a) (i:=(m + 1) * 2) (cc:=c) (k:=n) (se:=2) (xs:=shc l') (ys:=shc (l'.set (m + 1) y)) (vs:=[I y.1,I y.2]) ?_ (hcs:=shc_set (v:=y) (by omega)) (hi:=by rw [shc_length]; simp only [List.length_cons,List.length_nil]; omega) (h1:=by intro u hu; simp at hu; rcases hu with rfl | rfl <;> rfl) (hs1:=rfl)
              refine r_K<|r_W 16 rfl<|s_y (y_ixs (xs:=shc (l'.set (m + 1) y)) (i:=((m:Nat):Int)) (hr:=rdR (.head _)) (hl:=by rw [shc_length,List.length_set]; omega))<|r_K<|r_W 17 rfl<|s_strA (a:=a) (i:=m * 2) (cc:=c) (k:=n) (se:=2) (xs:=shc (l'.set (m + 1) y)) (ys:=shc ((l'.set (m + 1) y).set m x)) (vs:=[I x.1,I x.2]) ?_ (hcs:=shc_set (v:=x) (by rw [List.length_set]; omega)) (hi:=by rw [shc_length,List.length_set]; simp only [List.length_cons,List.length_nil]; omega) (h1:=by intro u hu; simp at hu; rcases hu with rfl | rfl <;> rfl) (hs1:=rfl)
              refine r_K<|r_E<|q_nb<|q_then<|c_reg<|s_y y_mv<|s_y (y_sub (p:=((m + 1:Nat):Int)) (q:=1))<|?_
              rw [hm1]
              refine s_y y_as<|s_nil<|?_
              exact q_round ((l'.set (m + 1) y).set m x,m) ⟨by omega,by simp [hl'],by rw [← hb]; exact (bub_lt hx hy hlt).symm⟩ (by show m < m + 1; omega) ⟨rfl,rfl,rfl,rfl,rfl,rfl,trivial⟩ (.refl _)
            · refine s_y (y_ldra (i:=(m + 1) * 2) (cs:=[I x.1,I x.2]) (rdR (.head _)) rfl (fun j v h=>shc_atA hx h))<|r_K<|?_
              refine r_W 9 rfl<|s_y (y_ldra (i:=(m) * 2) (cs:=[I y.1,I y.2]) (rdR (.head _)) rfl (fun j v h=>shc_atA hy h))<|r_K<|?_
              refine r_W 14 rfl<|s_y (y_ixs (xs:=shc l') (i:=((m + 1:Nat):Int)) (hr:=rdR (.head _)) (hl:=by rw [shc_length]; omega))<|r_K<|r_W 15 rfl<|s_strA (a:=a) (i:=(m + 1) * 2) (cc:=c) (k:=n) (se:=2) (xs:=shc l') (ys:=shc (l'.set (m + 1) y)) (vs:=[I y.1,I y.2]) ?_ (hcs:=shc_set (v:=y) (by omega)) (hi:=by rw [shc_length]; simp only [List.length_cons,List.length_nil]; omega) (h1:=by intro u hu; simp at hu; rcases hu with rfl | rfl <;> rfl) (hs1:=rfl)
              refine r_K<|r_W 16 rfl<|s_y (y_ixs (xs:=shc (l'.set (m + 1) y)) (i:=((m:Nat):Int)) (hr:=rdR (.head _)) (hl:=by rw [shc_length,List.length_set]; omega))<|r_K<|r_W 17 rfl<|s_strA (a:=a) (i:=m * 2) (cc:=c) (k:=n) (se:=2) (xs:=shc (l'.set (m + 1) y)) (ys:=shc ((l'.set (m + 1) y).set m x)) (vs:=[I x.1,I x.2]) ?_ (hcs:=shc_set (v:=x) (by rw [List.length_set]; omega)) (hi:=by rw [shc_length,List.length_set]; simp only [List.length_cons,List.length_nil]; omega) (h1:=by intro u hu; simp at hu; rcases hu with rfl | rfl <;> rfl) (hs1:=rfl)
              refine r_K<|r_E<|q_nb<|q_then<|c_reg<|s_y y_mv<|s_y (y_sub (p:=((m + 1:Nat):Int)) (q:=1))<|?_
              rw [hm1]
              refine s_y y_as<|s_nil<|?_
              exact q_round ((l'.set (m + 1) y).set m x,m) ⟨by omega,by simp [hl'],by rw [← hb]; exact (bub_lt hx hy hlt).symm⟩ (by show m < m + 1; omega) ⟨rfl,rfl,rfl,rfl,rfl,rfl,trivial⟩ (.refl _)
        · refine s_y (y_ixs (xs:=shc l') (i:=((m + 1:Nat):Int)) (hr:=rdR (.head _)) (hl:=by rw [shc_length]; omega))<|r_K<|?_
          refine r_w2 8 13 rfl rfl ?_ ?_ (hsub:=List.nil_sublist _)
          · refine s_y (y_ixs (xs:=shc l') (i:=((m:Nat):Int)) (hr:=rdR (.head _)) (hl:=by rw [shc_length]; omega))<|r_K<|?_
            refine r_w2 9 13 rfl rfl ?_ ?_ (hsub:=List.nil_sublist _)
            · refine s_y (y_ldra (i:=(m) * 2) (cs:=[I y.1,I y.2]) (rdR (.head _)) rfl (fun j v h=>shc_atA hy h))<|r_K<|?_
              refine r_W 13 rfl<|s_y (y_ldra (i:=(m + 1) * 2) (cs:=[I x.1,I x.2]) (rdR (.head _)) rfl (fun j v h=>shc_atA hx h))<|r_K<|?_
              refine r_W 14 rfl<|s_y (y_ixs (xs:=shc l') (i:=((m + 1:Nat):Int)) (hr:=rdR (.head _)) (hl:=by rw [shc_length]; omega))<|r_K<|r_W 15 rfl<|s_strA (a:=a) (i:=(m + 1) * 2) (cc:=c) (k:=n) (se:=2) (xs:=shc l') (ys:=shc (l'.set (m + 1) y)) (vs:=[I y.1,I y.2]) ?_ (hcs:=shc_set (v:=y) (by omega)) (hi:=by rw [shc_length]; simp only [List.length_cons,List.length_nil]; omega) (h1:=by intro u hu; simp at hu; rcases hu with rfl | rfl <;> rfl) (hs1:=rfl)
              refine r_K<|r_W 16 rfl<|s_y (y_ixs (xs:=shc (l'.set (m + 1) y)) (i:=((m:Nat):Int)) (hr:=rdR (.head _)) (hl:=by rw [shc_length,List.length_set]; omega))<|r_K<|r_W 17 rfl<|s_strA (a:=a) (i:=m * 2) (cc:=c) (k:=n) (se:=2) (xs:=shc (l'.set (m + 1) y)) (ys:=shc ((l'.set (m + 1) y).set m x)) (vs:=[I x.1,I x.2]) ?_ (hcs:=shc_set (v:=x) (by rw [List.length_set]; omega)) (hi:=by rw [shc_length,List.length_set]; simp only [List.length_cons,List.length_nil]; omega) (h1:=by intro u hu; simp at hu; rcases hu with rfl | rfl <;> rfl) (hs1:=rfl)
              refine r_K<|r_E<|q_nb<|q_then<|c_reg<|s_y y_mv<|s_y (y_sub (p:=((m + 1:Nat):Int)) (q:=1))<|?_
              rw [hm1]
              refine s_y y_as<|s_nil<|?_
              exact q_round ((l'.set (m + 1) y).set m x,m) ⟨by omega,by simp [hl'],by rw [← hb]; exact (bub_lt hx hy hlt).symm⟩ (by show m < m + 1; omega) ⟨rfl,rfl,rfl,rfl,rfl,rfl,trivial⟩ (.refl _)
            · refine s_y (y_ldra (i:=(m + 1) * 2) (cs:=[I x.1,I x.2]) (rdR (.head _)) rfl (fun j v h=>shc_atA hx h))<|r_K<|?_
              refine r_W 9 rfl<|s_y (y_ldra (i:=(m) * 2) (cs:=[I y.1,I y.2]) (rdR (.head _)) rfl (fun j v h=>shc_atA hy h))<|r_K<|?_
              refine r_W 14 rfl<|s_y (y_ixs (xs:=shc l') (i:=((m + 1:Nat):Int)) (hr:=rdR (.head _)) (hl:=by rw [shc_length]; omega))<|r_K<|r_W 15 rfl<|s_strA (a:=a) (i:=(m + 1) * 2) (cc:=c) (k:=n) (se:=2) (xs:=shc l') (ys:=shc (l'.set (m + 1) y)) (vs:=[I y.1,I y.2]) ?_ (hcs:=shc_set (v:=y) (by omega)) (hi:=by rw [shc_length]; simp only [List.length_cons,List.length_nil]; omega) (h1:=by intro u hu; simp at hu; rcases hu with rfl | rfl <;> rfl) (hs1:=rfl)
              refine r_K<|r_W 16 rfl<|s_y (y_ixs (xs:=shc (l'.set (m + 1) y)) (i:=((m:Nat):Int)) (hr:=rdR (.head _)) (hl:=by rw [shc_length,List.length_set]; omega))<|r_K<|r_W 17 rfl<|s_strA (a:=a) (i:=m * 2) (cc:=c) (k:=n) (se:=2) (xs:=shc (l'.set (m + 1) y)) (ys:=shc ((l'.set (m + 1) y).set m x)) (vs:=[I x.1,I x.2]) ?_ (hcs:=shc_set (v:=x) (by rw [List.length_set]; omega)) (hi:=by rw [shc_length,List.length_set]; simp only [List.length_cons,List.length_nil]; omega) (h1:=by intro u hu; simp at hu; rcases hu with rfl | rfl <;> rfl) (hs1:=rfl)
              refine r_K<|r_E<|q_nb<|q_then<|c_reg<|s_y y_mv<|s_y (y_sub (p:=((m + 1:Nat):Int)) (q:=1))<|?_
              rw [hm1]
              refine s_y y_as<|s_nil<|?_
              exact q_round ((l'.set (m + 1) y).set m x,m) ⟨by omega,by simp [hl'],by rw [← hb]; exact (bub_lt hx hy hlt).symm⟩ (by show m < m + 1; omega) ⟨rfl,rfl,rfl,rfl,rfl,rfl,trivial⟩ (.refl _)
          · refine s_y (y_ldra (i:=(m + 1) * 2) (cs:=[I x.1,I x.2]) (rdR (.head _)) rfl (fun j v h=>shc_atA hx h))<|r_K<|?_
            refine r_W 8 rfl<|s_y (y_ixs (xs:=shc l') (i:=((m:Nat):Int)) (hr:=rdR (.head _)) (hl:=by rw [shc_length]; omega))<|r_K<|?_
            refine r_W 9 rfl<|s_y (y_ldra (i:=(m) * 2) (cs:=[I y.1,I y.2]) (rdR (.head _)) rfl (fun j v h=>shc_atA hy h))<|r_K<|?_
            refine r_W 14 rfl<|s_y (y_ixs (xs:=shc l') (i:=((m + 1:Nat):Int)) (hr:=rdR (.head _)) (hl:=by rw [shc_length]; omega))<|r_K<|r_W 15 rfl<|s_strA (a:=a) (i:=(m + 1) * 2) (cc:=c) (k:=n) (se:=2) (xs:=shc l') (ys:=shc (l'.set (m + 1) y)) (vs:=[I y.1,I y.2]) ?_ (hcs:=shc_set (v:=y) (by omega)) (hi:=by rw [shc_length]; simp only [List.length_cons,List.length_nil]; omega) (h1:=by intro u hu; simp at hu; rcases hu with rfl | rfl <;> rfl) (hs1:=rfl)
            refine r_K<|r_W 16 rfl<|s_y (y_ixs (xs:=shc (l'.set (m + 1) y)) (i:=((m:Nat):Int)) (hr:=rdR (.head _)) (hl:=by rw [shc_length,List.length_set]; omega))<|r_K<|r_W 17 rfl<|s_strA (a:=a) (i:=m * 2) (cc:=c) (k:=n) (se:=2) (xs:=shc (l'.set (m + 1) y)) (ys:=shc ((l'.set (m + 1) y).set m x)) (vs:=[I x.1,I x.2]) ?_ (hcs:=shc_set (v:=x) (by rw [List.length_set]; omega)) (hi:=by rw [shc_length,List.length_set]; simp only [List.length_cons,List.length_nil]; omega) (h1:=by intro u hu; simp at hu; rcases hu with rfl | rfl <;> rfl) (hs1:=rfl)
            refine r_K<|r_E<|q_nb<|q_then<|c_reg<|s_y y_mv<|s_y (y_sub (p:=((m + 1:Nat):Int)) (q:=1))<|?_
            rw [hm1]
            refine s_y y_as<|s_nil<|?_
            exact q_round ((l'.set (m + 1) y).set m x,m) ⟨by omega,by simp [hl'],by rw [← hb]; exact (bub_lt hx hy hlt).symm⟩ (by show m < m + 1; omega) ⟨rfl,rfl,rfl,rfl,rfl,rfl,trivial⟩ (.refl _)
      · rw [decide_eq_false (fun h9=>hlt (cmpI_lt.1 h9))]
        have e:l' = srtN l (k + 1):=by rw [srtN,← hb,bub_ge hx hy hlt]
        refine c_f<|c_exit<|q_ex<|q_ex<|q_exb<|q_nb<|q_then<|c_reg<|s_y y_mv<|s_y (y_add (p:=((k + 1:Nat):Int)) (q:=1))<|?_
        rw [show ((k + 1:Nat):Int) + 1 = ((k + 1 + 1:Nat):Int) by omega]
        refine s_y y_as<|s_nil<|?_
        rw [e]
        exact q_round (k + 1) (.inr (by omega)) (by omega) ⟨rfl,rfl,rfl,rfl,rfl,trivial⟩ (.refl _)
  · have e:srtN l k = isort l:=by rw [isort]; congr 1; omega
    rw [e]
    refine c_exit<|q_ex<|q_ex<|q_exb<|?_
    exact ret0 Tryz.results157 (fun w' hw=>⟨(),trivial,rfl,hw⟩) _ (.inr rfl)
theorem stabS_ok (w:World) (a:Option Addr) (c n:Nat) (l:List (Int × Int)) (hn:l.length = n) (hn2:n < 20) (hp:(Res.row a c 62 2 n (shc l)).holds w) :
    Gives Tryz.prog 125 [.slice a n c,I n,.func (.func 70) #[] #[]] w (keys [.row a c 62 2 n (shc l)]) (fun _:Unit=>.tuple #[]) (fun _=>[.row a c 62 2 n (shc (isort l))]) (fun _=>True):=by
  refine enterR Tryz.func125 Tryz.ntmps125 hp ?_
  refine c_seq<|c_reg<|s_y y_as<|s_nil<|q_then<|c_seq<|c_reg<|s_y y_mv<|s_y y_as<|s_y y_as<|s_nil<|q_then<|c_seq<|c_block<|?_
  refine c_loop (fun _:Unit=>[(0,.slice a n c),(1,I n),(2,.func (.func 70) #[] #[]),(6,I 20),(7,I 0),(8,I 20)]) (fun _=>[.row a c 62 2 n (shc l)]) (fun _=>True) (fun _=>0) () trivial ⟨rfl,rfl,rfl,rfl,rfl,rfl,trivial⟩ (.refl _) ?_
  intro _ _
  refine c_seq<|c_seq<|c_reg<|s_y y_mv<|s_y y_mv<|s_kf (y_leq (p:=20) (q:=((n:Nat):Int))) (by omega)<|s_nil<|q_then<|c_f<|c_exit<|q_ex<|q_ex<|q_exb<|q_then<|c_seq<|c_reg<|s_y y_mv<|s_y y_mv<|s_y y_mv<|s_y y_mv<|?_
  refine s_upd (σ:=Unit) (p:=.row a c 62 2 n (shc l)) (p':=fun _=>.row a c 62 2 n (shc (isort l))) (lx:=fun _=>[]) (l1:=fun _=>[.row a c 62 2 n (shc (isort l))]) (φ:=fun _=>True) (val:=fun _=>.tuple #[]) (fun w' hw=>insS_ok w' a c n l hn (by omega) (hw.own _ (.head _)).1) (fun _=>.head _) fun _ _=>?_
  refine s_nil<|q_then<|c_block<|?_
  refine c_loop (fun _:Unit=>[(0,.slice a n c),(1,I n),(2,.func (.func 70) #[] #[]),(6,I 20)]) (fun _=>[.row a c 62 2 n (shc (isort l))]) (fun _=>True) (fun _=>0) () trivial ⟨rfl,rfl,rfl,rfl,trivial⟩ (.refl _) ?_
  intro _ _
  refine c_seq<|c_seq<|c_reg<|s_y y_mv<|s_y y_mv<|s_kf (y_lss (p:=20) (q:=((n:Nat):Int))) (by omega)<|s_nil<|q_then<|c_f<|c_exit<|q_ex<|q_ex<|q_exb<|?_
  exact ret0 Tryz.results125 (fun w' hw=>⟨(),trivial,rfl,hw⟩) _ (.inr rfl)
theorem sortS_ok (w:World) (a:Option Addr) (c n:Nat) (l:List (Int × Int)) (hn:l.length = n) (hn2:n < 20) (hp:(Res.row a c 62 2 n (shc l)).holds w) :
    Gives Tryz.prog 69 [.slice a n c,.func (.func 70) #[] #[]] w (keys [.row a c 62 2 n (shc l)]) (fun _:Unit=>.tuple #[]) (fun _=>[.row a c 62 2 n (shc (isort l))]) (fun _=>True):=by
  refine enterR Tryz.func69 Tryz.ntmps69 hp ?_
  refine c_reg<|s_y y_mv<|s_y y_mv<|s_y y_len<|s_y y_mv<|?_
  refine s_upd (σ:=Unit) (p:=.row a c 62 2 n (shc l)) (p':=fun _=>.row a c 62 2 n (shc (isort l))) (lx:=fun _=>[]) (l1:=fun _=>[.row a c 62 2 n (shc (isort l))]) (φ:=fun _=>True) (val:=fun _=>.tuple #[]) (fun w' hw=>stabS_ok w' a c n l hn hn2 (hw.own _ (.head _)).1) (fun _=>.head _) fun _ _=>?_
  refine s_nil<|?_
  exact ret0 Tryz.results69 (fun w' hw=>⟨(),trivial,rfl,hw⟩) _ (.inr rfl)
end Go.Proofs.YtegfmbefhpagmaaGreatDoor
end
