/- Joined texts: TpJ TpK TpL TpM Law39 LawB39 LawC39 LawD39 LawE39 LawM39 LawN39 TpN TpO TpR. -/
import Derived.WalkKit
import Derived.TacticsInMore
import Derived.OrdersIn
import Derived.RangeFuncCalls
import Derived.Deep.LoopGhost
import Derived.Deep.Quiet
import Derived.KernelRfl
import Derived.Laws.BytesString
import Derived.Laws.StructEq
import Derived.MapKept
import Derived.Laws.IdiomStrings
import Derived.Recover
import Derived.RangeFuncLeaves
import Derived.ChangeKeysEq
import Derived.Maps.RangeRun
import Derived.Laws.Build
import Derived.Lib.Overlaps
import Derived.ProofKit
import Derived.LaidMore
import Derived.LaidHandle
import Derived.OpenShut
import Derived.FnData
import Derived.SizedLaws
import Derived.ChangeMaps5
import Derived.Deep.Slices
import Derived.JoinedOf
import Derived.SevenTiedAt
import Derived.Test.YtegfmbefhpagmaaGreatDoorChecked
import Derived.Test.YtegfmbefhpagmaaGreatDoorRows
import Derived.Test.YtegfmbefhpagmaaGreatDoorCards
import Derived.Test.YtegfmbefhpagmaaGreatDoorTie
import Derived.Test.YtegfmbefhpagmaaGreatDoorTo6
set_option linter.all false
section
namespace Tp
open Go Eng Gf Sha Sig Wr Cod Cha Rst Go.Proofs.YtegfmbefhpagmaaGreatDoor
theorem up_gt {dn i:Nat} (hi:i < 9):1 < up (512 + dn) i :=
  Nat.lt_of_lt_of_le (show 1 < 512 / 2 ^ 8 by decide) (Nat.le_trans (Nat.div_le_div_left (Nat.pow_le_pow_right (by decide) (by omega)) (Nat.pow_pos (by decide))) (Nat.div_le_div_right (by omega)))
theorem up_level {dn j:Nat} (h:dn < 512) (hj:j < 9):2 ^ (9 - j) ≤ sib (up (512 + dn) j) ∧ sib (up (512 + dn) j) < 2 ^ (10 - j):=by
  obtain rfl | rfl | rfl | rfl | rfl | rfl | rfl | rfl | rfl:j = 0 ∨ j = 1 ∨ j = 2 ∨ j = 3 ∨ j = 4 ∨ j = 5 ∨ j = 6 ∨ j = 7 ∨ j = 8:=by omega
  all_goals (unfold sib up; simp only [Nat.reduceSub,Nat.reducePow]; split <;> omega)
theorem pathD_fl (L:List Ls) (n k:Nat):(pathD L n (k + 1)).flatten = (pathD L n k).flatten ++ ndD L k (sib (up n k)):=by rw [pathD_succ,List.flatten_append]; simp
theorem upD_length (n:Nat) (d x:List UInt8):(upD n d x).length = 32:=by
  unfold upD; split <;> exact pairD_length _ _
theorem climbD_length:∀ (n:Nat) (d:List UInt8) (P:List (List UInt8)),d.length = 32 → (climbD n d P).length = 32
  | _,_,[],h=>h
  | _,_,_ :: P,_=>climbD_length _ _ P (upD_length _ _ _)
end Tp
namespace Eng
open Go Go.RowKit Tp
section
variable {P:Program} {n:Nat} {D:List Deferred} {W:World} {Bo:List Nat} {F:List (Nat × Value)} {l:SH} {d:Option Tmp} {ty:TypeId} {ps:String} {af:Array Edge} {g:Option (Nat × Bool)} {x y:Operand} {ta tb:TypeId}
theorem y_andm1 {p:Nat} {q:Int} (hx:evO F x = some (I (p:Int)):=by rfl) (hy:evO F y = some (I q):=by rfl) (hq:q = 1) (hp:p < 4611686018427387904) :
    Y P n D W Bo ⟨d,.binOp .and ta x y tb,ty,ps,af,g⟩ F l (I (p % 2:Nat)) :=
  .mk (by simp) fun a w ha _=>by
    refine exec_bin P w w _ _ _ _ _ _ _ _ _ _ _ _ ⟨by simp,by simp⟩ ?_
    rw [ha.eval hx,ha.eval hy]
    subst hq
    simp only [binOp,ne_eq,not_true_eq_false,if_false,Op.intBits,Sem.run_pure]
    have e1:(BitVec.ofInt IntKind.i64.bits (p:Int)).toNat = p:=bitsn (k:=.i64) (by simp only [IntKind.bits]; omega)
    have e2:(BitVec.ofInt IntKind.i64.bits 1).toNat = 1:=by decide
    rw [BitVec.toNat_and,e1,e2,Nat.and_one_is_mod,wrap_i64 (by unfold R64; omega)]
end
end Eng
namespace Go.Proofs.YtegfmbefhpagmaaGreatDoor
open Go Eng Gf Sha Sig Wr Cod Cha Rst Tp
set_option maxRecDepth 100000
set_option linter.all false
theorem hgD:(Tryz.prog).eqGuardType (Tryz.prog).depth 69 = false:=by kernel_rfl
theorem Prove_ok (w:World) (L:List Ls) (la:Option Addr) (n lc dn:Nat) (h:dn < 512) (hg:LS w) (hr:Rd w la (lsc L)) (hn:L.length = n) (hl:n ≤ 1000000) (hz:∀ z ∈ L,LsRt z) :
    Gives Tryz.prog 15 [.slice la n lc,I (dn:Nat)] w [] (fun y:Option Addr × Nat=>.tuple #[.slice y.1 9 y.2,I 0]) (fun y=>[.row y.1 y.2 69 32 9 (bs (pathD L (512 + dn) 9).flatten)]) (fun _=>True):=by
  refine enter Tryz.func15 Tryz.ntmps15 ?_
  refine c_seq<|c_reg<|s_y y_as<|s_y y_as<|s_nil<|q_then<|c_seq<|c_reg<|s_y y_mv<|s_gives (fun w' hw=>Copath_ok w' dn h) fun (s:Option Addr × Nat) _=>s_y y_mv<|s_y y_ext<|s_y y_ext<|s_y y_as<|s_y y_as<|s_nil<|q_then<|c_seq<|c_seq<|c_reg<|s_y y_mv<|s_nf (y_neq (p:=0) (q:=0)) (by trivial)<|s_nil<|q_then<|c_f<|c_skip<|q_then<|c_seq<|c_reg<|s_y y_mv<|s_gives (fun w' hw=>hashed_ok w' la n lc) fun (x:Nat × Nat) _=>s_y y_as<|s_nil<|q_then<|c_seq<|c_seq<|c_reg<|s_y y_mv<|s_y y_len<|s_y y_mv<|s_nil<|q_then<|c_nilrow 69 32<|c_block<|?_
  refine c_loop2 (fun (j:Nat) (y:Option Addr × Nat)=>[(4,.slice y.1 j y.2),(5,I 0),(7,atV x.1 x.2),(20,.slice s.1 9 s.2),(21,I 9),(22,I (j:Nat))]) (fun j y=>[.row y.1 y.2 69 32 j (bs (pathD L (512 + dn) j).flatten),.blk x.2 (.cells #[atV x.1 x.2] 142 (0,0)),.blk x.1 (.cells #[.slice la n lc] 33 (0,0)),.row s.1 s.2 3 1 9 (is (sibs (512 + dn) 9))]) (fun j _=>j ≤ 9) (fun j _=>9 - j) 0 (none,0) (Nat.zero_le _) ⟨rfl,rfl,rfl,rfl,rfl,rfl,trivial⟩ (.refl _) ?_
  intro j y hj
  by_cases hlt:j < 9
  · have hsg:(sibs (512 + dn) 9)[j]? = some ((sib (up (512 + dn) j):Nat):Int):=by unfold sibs; rw [List.getElem?_map,List.getElem?_range hlt]; rfl
    have hsd:(sibs (512 + dn) 9).getD j 0 = ((sib (up (512 + dn) j):Nat):Int):=by rw [List.getD_eq_getElem?_getD,hsg]; rfl
    have hsl:(sibs (512 + dn) 9).length = 9:=sibs_length _ _
    have hlv:=up_level h hlt
    have hdl:=ndD_length L j (sib (up (512 + dn) j))
    refine c_seq<|c_reg<|s_kt (y_lss (p:=((j:Nat):Int)) (q:=9)) (by omega)<|s_nil<|q_then<|c_seq<|c_t<|c_skip<|q_then<|c_seq<|c_block<|c_seq<|c_reg<|s_y (y_ixs1 (xs:=is (sibs (512 + dn) 9)) (i:=((j:Nat):Int)) (hr:=rdR (.tail _ (.tail _ (.tail _ (.head _))))) (hl:=by rw [is_length,hsl]; exact Nat.le_refl _))<|s_y (y_ldi (i:=j) (q:=sibs (512 + dn) 9) (hr:=rdR (.tail _ (.tail _ (.tail _ (.head _))))) (hi:=by omega))<|?_
    rw [hsd]
    refine s_y y_as<|s_nil<|q_then<|c_reg<|s_y y_mv<|s_y y_mv<|s_y y_mv<|s_pure (v:=.agg (bs (ndD L j (sib (up (512 + dn) j)))).toArray) (fun w' hw=>at_ok L la lc x.1 x.2 (by omega) hz j w' (sib (up (512 + dn) j)) hlv.1 hlv.2 (by omega) (hg.st hw) (hr.st hw) (rdB (xs:=[.slice la L.length lc]) (.tail _ (.tail _ (.head _))) (fun i v h=>by rw [Nat.zero_add]; rw [hn] at h; simpa using h) w' hw) (rdB (xs:=[atV x.1 x.2]) (.tail _ (.head _)) (fun i v h=>by rw [Nat.zero_add]; simpa using h) w' hw))<|s_bslr (cs:=bs (ndD L j (sib (up (512 + dn) j)))) (hf:=fillK hdl) (hsz:=by rw [bs_length,hdl]) fun b30=>s_app (m:=1) (fun w' hw=>Src.slice (rdR (.head _) w' hw) (by rw [bs_length,hdl])) (h1:=fun v hv=>bs_one hv) (hm:=.tail _ (.head _)) (hrep:=fun _ _=>.tail _ (.head _)) fun a31 c31 h31=>?_
    rw [← bs_append,← pathD_fl]
    refine s_y y_as<|s_nil<|q_nb<|q_then<|c_reg<|s_y (y_add (p:=((j:Nat):Int)) (q:=1))<|s_y y_mv<|s_nil<|?_
    exact q_round2 (x:=j) (y:=y) (j + 1) (a31,c31) (by omega) (by omega) ⟨rfl,rfl,rfl,rfl,rfl,rfl,trivial⟩ (.cons _ (.refl _))
  · obtain rfl:j = 9:=by omega
    refine c_seq<|c_reg<|s_kf (y_lss (p:=((9:Nat):Int)) (q:=9)) (by omega)<|s_nil<|q_then<|c_seq<|c_f<|c_exit<|q_ex<|q_ex<|q_exb<|q_then<|c_seq<|c_reg<|s_y y_mv<|s_y y_as<|s_y y_as<|s_nil<|q_then<|c_ret<|?_
    exact ret2 Tryz.results15 rv_t rv_t fun w' hw=>⟨y,trivial,rfl,hw.sub (.cons_cons _ (List.nil_sublist _))⟩
theorem climb_ok (w:World) (dn:Nat) (d0:List UInt8) (pa:Option Addr) (pc:Nat) (hd:d0.length = 32):Gives Tryz.prog 74 [I (dn:Nat),.agg (bs d0).toArray,.slice pa 9 pc] w [] (fun y:Nat × Nat × Nat=>.func (.func 132) #[] #[.pointer (some ⟨y.1,0,none⟩),.pointer (some ⟨y.2.2,0,none⟩),.pointer (some ⟨y.2.1,0,none⟩)]) (fun y=>[.blk y.2.2 (.cells #[.slice pa 9 pc] 65 (0,0)),.blk y.2.1 (.cells (bs d0).toArray 69 (0,0)),.blk y.1 (.cells #[I (dn:Nat)] 3 (0,0))]) (fun _=>True):=by
  refine enter Tryz.func74 Tryz.ntmps74 ?_
  refine c_seq<|c_reg<|s_box rfl fun b3=>s_box rfl fun b4=>s_box rfl fun b5=>s_y y_as<|s_nil<|q_then<|c_seq<|c_reg<|s_y y_func<|s_y y_as<|s_nil<|q_then<|c_ret<|?_
  exact ret1 Tryz.results74 rv_t fun w' hw=>⟨(b3,b4,b5),trivial,rfl,hw⟩
abbrev clM (rc:Loop) (L Dk b3 b4 b5 dn:Nat) (d0:List UInt8) (P:List (List UInt8)) (pa:Option Addr) (pc:Nat) (X:Nat → SH) (i j:Nat):SH:=.blk L (.loop rc) :: .blk Dk (.deferred (some [])) :: .blk b5 (.cells #[.slice pa 9 pc] 65 (0,0)) :: .blk b4 (.cells (bs (climbD (512 + dn) d0 (P.take i))).toArray 69 (0,0)) :: .blk b3 (.cells #[I (dn:Nat)] 3 (0,0)) :: X j
theorem climb1_ok (w':World) (rc:Loop) (L Dk b3 b4 b5 dn:Nat) (d0:List UInt8) (P:List (List UInt8)) (pa:Option Addr) (pc:Nat) (X:Nat → SH) (hs:∀ p ∈ (clM rc L Dk b3 b4 b5 dn d0 P pa pc X 0 0),p.holds w') (hnd:(keys (clM rc L Dk b3 b4 b5 dn d0 P pa pc X 0 0)).Nodup) (hpz:rc.params.size = 2) (hdn:dn < 512) (hd0:d0.length = 32) (hP:∀ x ∈ P,x.length = 32) (hPl:P.length = 9)
    (hg:∀ {l} w2,St w' (keys (clM rc L Dk b3 b4 b5 dn d0 P pa pc X 0 0)) w2 l → LS w2) (hrp:∀ l,RdS w' (keys (clM rc L Dk b3 b4 b5 dn d0 P pa pc X 0 0)) l pa (bs P.flatten))
    (hround:∀ (j:Nat) (w2:World),j < 9 → St w' (keys (clM rc L Dk b3 b4 b5 dn d0 P pa pc X 0 0)) w2 (clM rc L Dk b3 b4 b5 dn d0 P pa pc X (j + 1) j) → RoundIn (Fw none) 0 Tryz.prog L rc.fn ((rc.params.zip #[I (up (512 + dn) (j + 1):Nat),.agg (bs (climbD (512 + dn) d0 (P.take (j + 1)))).toArray]).foldl (fun tmps (t,a)=>tmps.setIfInBounds t a) rc.tmps) rc.assign rc.body w2 fun e' w3=>∃ _:Unit,True ∧ e' = .returned (.bool true) ∧ St w' (keys (clM rc L Dk b3 b4 b5 dn d0 P pa pc X 0 0)) w3 (clM rc L Dk b3 b4 b5 dn d0 P pa pc X (j + 1) (j + 1))) :
    Calls Tryz.prog 132 #[.func (.yield L) #[] #[],.pointer (some ⟨b3,0,none⟩),.pointer (some ⟨b5,0,none⟩),.pointer (some ⟨b4,0,none⟩)] w' fun e' w2=>(∃ v,e' = .returned v) ∧ St w' (keys (clM rc L Dk b3 b4 b5 dn d0 P pa pc X 0 0)) w2 (clM rc L Dk b3 b4 b5 dn d0 P pa pc X 9 9):=by
  have hfl:=flat32_length P hP
  refine enterL (args:=[.func (.yield L) #[] #[],.pointer (some ⟨b3,0,none⟩),.pointer (some ⟨b5,0,none⟩),.pointer (some ⟨b4,0,none⟩)]) Tryz.func132 Tryz.ntmps132 hs hnd ?_
  refine c_seq<|c_reg<|s_y (y_ld (b:=b3) (v:=I (dn:Nat)))<|s_y (y_add (p:=512) (q:=((dn:Nat):Int)))<|?_
  rw [show (512:Int) + ((dn:Nat):Int) = ((up (512 + dn) 0:Nat):Int) by unfold up; omega]
  refine s_y y_as<|s_nil<|q_then<|c_seq<|c_reg<|s_y (y_ld (b:=b5) (v:=.slice pa 9 pc))<|s_y y_len<|s_y y_mv<|s_nil<|q_then<|c_block<|?_
  refine c_loop (fun j:Nat=>[(0,.func (.yield L) #[] #[]),(1,.pointer (some ⟨b3,0,none⟩)),(2,.pointer (some ⟨b5,0,none⟩)),(3,.pointer (some ⟨b4,0,none⟩)),(5,I (up (512 + dn) j:Nat)),(10,.slice pa 9 pc),(11,I 9),(12,I (j:Nat))]) (fun j=>(clM rc L Dk b3 b4 b5 dn d0 P pa pc X j j)) (fun j=>j ≤ 9) (fun j=>9 - j) 0 (Nat.zero_le _) ⟨rfl,rfl,rfl,rfl,rfl,rfl,rfl,rfl,trivial⟩ (.refl _) ?_
  intro j hj
  by_cases hlt:j < 9
  · obtain ⟨x,hx⟩:∃ x,P[j]? = some x:=⟨_,List.getElem?_eq_getElem (by omega)⟩
    have hxl:=hP x (List.mem_of_getElem? hx)
    have hcl:(climbD (512 + dn) d0 (P.take j)).length = 32:=climbD_length _ _ _ hd0
    have hcl1:(climbD (512 + dn) d0 (P.take (j + 1))).length = 32:=climbD_length _ _ _ hd0
    have hstep:=climbD_take P (512 + dn) d0 j x hx
    have hul:up (512 + dn) j ≤ (512 + dn):=Nat.div_le_self _ _
    refine c_seq<|c_reg<|s_kt (y_lss (p:=((j:Nat):Int)) (q:=9)) (by omega)<|s_nil<|q_then<|c_seq<|c_t<|c_skip<|q_then<|c_seq<|c_block<|c_seq<|c_reg<|s_y (y_ixs (xs:=bs P.flatten) (i:=((j:Nat):Int)) (hr:=hrp _) (hl:=by rw [bs_length,hfl,hPl]; decide))<|s_y (y_ldra (i:=j * 32) (cs:=bs x) (hrp _) (by rw [bs_length,hxl]) (fun i v h=>flat32_at P j x hP hx i v h))<|s_alloc fun b7=>s_sta (b:=b7) (vs:=(bs x).toArray) (cs:=(bs (List.replicate 32 0)).toArray) (h1:=fun v hv=>bs_one (by simpa using hv)) (hl:=(hz32 hxl).trans (hz32 List.length_replicate).symm) (hs1:=hz32 hxl) ?_
    refine s_nil<|q_then<|c_seq<|c_seq<|c_reg<|s_y y_mv<|s_y (y_andm1 (p:=up (512 + dn) j) (q:=1) (hq:=rfl) (hp:=by omega))<|?_
    by_cases hev:up (512 + dn) j % 2 = 0
    · refine s_kt (y_eql (p:=((up (512 + dn) j % 2:Nat):Int)) (q:=0)) (by omega)<|s_nil<|q_then<|?_
      refine c_t<|c_reg<|s_y (y_lda (b:=b4) (cs:=(bs (climbD (512 + dn) d0 (P.take j))).toArray) (hl:=hz32 hcl))<|s_y (y_lda (b:=b7) (cs:=(bs x).toArray) (hl:=hz32 hxl))<|s_pure (fun w' hw=>pair_ok w' (climbD (512 + dn) d0 (P.take j)) (x) hcl hxl (hg w' hw))<|?_
      rw [show pairD (climbD (512 + dn) d0 (P.take j)) (x) = climbD (512 + dn) d0 (P.take (j + 1)) by rw [hstep]; unfold upD; rw [if_pos hev]]
      refine s_sta (b:=b4) (vs:=(bs (climbD (512 + dn) d0 (P.take (j + 1)))).toArray) (cs:=(bs (climbD (512 + dn) d0 (P.take j))).toArray) (h1:=fun v hv=>bs_one (by simpa using hv)) (hl:=(hz32 hcl1).trans (hz32 hcl).symm) (hs1:=hz32 hcl1) ?_
      refine s_nil<|q_then<|c_seq<|c_reg<|s_y y_mv<|s_y (y_quo (p:=((up (512 + dn) j:Nat):Int)) (q:=2))<|?_
      rw [show ((up (512 + dn) j:Nat):Int) / 2 = ((up (512 + dn) (j + 1):Nat):Int) by rw [up_succ]; omega]
      refine s_y y_as<|s_nil<|q_then<|c_seq<|c_reg<|s_y y_mv<|s_y y_mv<|s_y (y_lda (b:=b4) (cs:=(bs (climbD (512 + dn) d0 (P.take (j + 1)))).toArray) (hl:=hz32 hcl1))<|?_
      refine s_yield2 (L:=L) (rc:=rc) (σ:=Unit) (fun _=>.bool true) (fun _=>(clM rc L Dk b3 b4 b5 dn d0 P pa pc X (j + 1) (j + 1))) (fun _=>True) (.tail _ (.head _)) hpz (fun w2 h2=>hround j w2 hlt (h2.sub (.cons _ (.refl _)))) (fun _ _=>?_)
      refine s_y (v:=.bool false) (y_not (b:=true))<|s_nil<|q_then<|c_f<|c_skip<|q_nb<|q_then<|c_reg<|s_y (y_add (p:=((j:Nat):Int)) (q:=1))<|s_y y_mv<|s_nil<|?_
      exact q_round (j + 1) (by omega) (by omega) ⟨rfl,rfl,rfl,rfl,rfl,rfl,rfl,rfl,trivial⟩ (.refl _)
    · refine s_kf (y_eql (p:=((up (512 + dn) j % 2:Nat):Int)) (q:=0)) (by omega)<|s_nil<|q_then<|?_
      refine c_f<|c_reg<|s_y (y_lda (b:=b7) (cs:=(bs x).toArray) (hl:=hz32 hxl))<|s_y (y_lda (b:=b4) (cs:=(bs (climbD (512 + dn) d0 (P.take j))).toArray) (hl:=hz32 hcl))<|s_pure (fun w' hw=>pair_ok w' (x) (climbD (512 + dn) d0 (P.take j)) hxl hcl (hg w' hw))<|?_
      rw [show pairD (x) (climbD (512 + dn) d0 (P.take j)) = climbD (512 + dn) d0 (P.take (j + 1)) by rw [hstep]; unfold upD; rw [if_neg hev]]
      refine s_sta (b:=b4) (vs:=(bs (climbD (512 + dn) d0 (P.take (j + 1)))).toArray) (cs:=(bs (climbD (512 + dn) d0 (P.take j))).toArray) (h1:=fun v hv=>bs_one (by simpa using hv)) (hl:=(hz32 hcl1).trans (hz32 hcl).symm) (hs1:=hz32 hcl1) ?_
      refine s_nil<|q_then<|c_seq<|c_reg<|s_y y_mv<|s_y (y_quo (p:=((up (512 + dn) j:Nat):Int)) (q:=2))<|?_
      rw [show ((up (512 + dn) j:Nat):Int) / 2 = ((up (512 + dn) (j + 1):Nat):Int) by rw [up_succ]; omega]
      refine s_y y_as<|s_nil<|q_then<|c_seq<|c_reg<|s_y y_mv<|s_y y_mv<|s_y (y_lda (b:=b4) (cs:=(bs (climbD (512 + dn) d0 (P.take (j + 1)))).toArray) (hl:=hz32 hcl1))<|?_
      refine s_yield2 (L:=L) (rc:=rc) (σ:=Unit) (fun _=>.bool true) (fun _=>(clM rc L Dk b3 b4 b5 dn d0 P pa pc X (j + 1) (j + 1))) (fun _=>True) (.tail _ (.head _)) hpz (fun w2 h2=>hround j w2 hlt (h2.sub (.cons _ (.refl _)))) (fun _ _=>?_)
      refine s_y (v:=.bool false) (y_not (b:=true))<|s_nil<|q_then<|c_f<|c_skip<|q_nb<|q_then<|c_reg<|s_y (y_add (p:=((j:Nat):Int)) (q:=1))<|s_y y_mv<|s_nil<|?_
      exact q_round (j + 1) (by omega) (by omega) ⟨rfl,rfl,rfl,rfl,rfl,rfl,rfl,rfl,trivial⟩ (.refl _)
  · obtain rfl:j = 9:=by omega
    refine c_seq<|c_reg<|s_kf (y_lss (p:=((9:Nat):Int)) (q:=9)) (by omega)<|s_nil<|q_then<|c_seq<|c_f<|c_exit<|q_ex<|q_ex<|q_exb<|?_
    exact ret0 Tryz.results132 (fun w2 h2=>⟨⟨_,rfl⟩,h2⟩) _ (.inr rfl)
theorem Verify_ok (w:World) (rt:List UInt8) (x:Ls) (P:List (List UInt8)) (pa:Option Addr) (pc dn:Nat) (hg:LS w) (hrt:rt.length = 32) (hx:LsRt x) (hdx:x.d = ((dn:Nat):Int)) (hP:∀ x ∈ P,x.length = 32) (hPl:P.length = 9) (hrp:Rd w pa (bs P.flatten)) (hroot:climbD (512 + dn) (lsD x) P = rt) :
    Pure Tryz.prog 16 [.agg (bs rt).toArray,.agg #[I x.d,I x.v,I x.l,I x.ver,.bool x.gone],.bool false,.slice pa 9 pc] w (.bool true):=by
  have hdn:dn < 512:=by have:=hx.d; omega
  have hld:=lsD_length x
  refine enterM Tryz.func16 Tryz.ntmps16 ?_
  refine c_seq<|c_reg<|s_box rfl fun b4=>s_box rfl fun b5=>s_alloc fun b8=>s_nil<|q_then<|c_seq<|c_seq<|c_reg<|s_y y_fa<|s_y (y_ld (b:=b5) (v:=I x.d))<|s_kf (y_lss (p:=x.d) (q:=0)) (by omega)<|s_y y_mv<|s_y y_fa<|s_y (y_ld (b:=b5) (v:=I x.d))<|s_kf (y_geq (p:=x.d) (q:=512)) (by omega)<|s_y y_pk<|s_y y_mv<|s_y y_mv<|s_y y_len<|s_nf (y_neq (p:=((9:Nat):Int)) (q:=9)) (by trivial)<|s_y y_pk<|s_nil<|q_then<|c_f<|c_skip<|q_then<|c_seq<|c_seq<|?_
  refine c_regL [.blk b5 (.cells #[I x.d,I x.v,I x.l,I x.ver,.bool x.gone] 49 (0,0))]<|r_y 0 rfl y_fa<|r_y 1 rfl (y_ld (b:=b5) (v:=I x.d))<|r_y 2 rfl (y_lda (b:=b5) (cs:=#[I x.d,I x.v,I x.l,I x.ver,.bool x.gone]) (hl:=rfl))<|r_y 3 rfl y_mv<|r_y 5 rfl y_mv<|r_W 4 rfl<|s_pure (fun w' hw=>leaf_z w' x hx (hg.st hw))<|r_K<|?_
  rw [hdx]
  refine r_W 6 rfl<|s_gives (fun w' hw=>climb_ok w' dn (lsD x) pa pc hld) fun (c:Nat × Nat × Nat) _=>?_
  obtain ⟨c3,c4,c5⟩:=c
  dsimp only
  refine r_K<|r_E<|q_then<|c_block<|?_
  refine c_rangeN (σ:=Unit) (fun _=>.blk c5 (.cells #[.slice pa 9 pc] 65 (0,0)) :: .blk c4 (.cells (bs (climbD (512 + dn) (lsD x) (P.take 9))).toArray 69 (0,0)) :: .blk c3 (.cells #[I (dn:Nat)] 3 (0,0)) :: (fun (k:Nat)=>[.blk b8 (.cells #[.bool (decide (k = 9))] 4 (0,0)),.blk b5 (.cells #[I x.d,I x.v,I x.l,I x.ver,.bool x.gone] 49 (0,0)),.blk b4 (.cells (bs rt).toArray 69 (0,0))]) 9) (fun _=>True) (fun fn tm Dk L hfr w' hw'=>?_) (fun Dk _ _=>?_)
  rotate_left
  · refine q_nb<|q_then<|c_seq<|c_reg<|s_y (y_ld (b:=b8) (v:=.bool true))<|s_st (b:=b8) (v:=.bool true) (cs:=#[.bool true]) (hl:=Nat.zero_lt_one) ?_
    refine s_nil<|q_then<|c_ret<|?_
    exact ret1E Tryz.results16 (.head _) (rv_cf (b:=b8) (v:=.bool true)) fun w' hw=>⟨rfl,hw.sub (List.nil_sublist _)⟩
  · have cvt:∀ rc,St w [] w' (.blk L (.loop rc) :: .blk Dk (.deferred (some [])) :: .blk c5 (.cells #[.slice pa 9 pc] 65 (0,0)) :: .blk c4 (.cells (bs (lsD x)).toArray 69 (0,0)) :: .blk c3 (.cells #[I (dn:Nat)] 3 (0,0)) :: .blk b8 (.cells #[.bool false] 4 (0,0)) :: .blk b5 (.cells #[I ((dn:Nat):Int),I x.v,I x.l,I x.ver,.bool x.gone] 49 (0,0)) :: .blk b4 (.cells (bs rt).toArray 69 (0,0)) :: []) → St w [] w' (clM rc L Dk c3 c4 c5 dn (lsD x) P pa pc (fun (k:Nat)=>[.blk b8 (.cells #[.bool (decide (k = 9))] 4 (0,0)),.blk b5 (.cells #[I x.d,I x.v,I x.l,I x.ver,.bool x.gone] 49 (0,0)),.blk b4 (.cells (bs rt).toArray 69 (0,0))]) 0 0 ++ []):=fun rc h=>by
      rw [List.append_nil]; unfold clM; rw [List.take_zero]; rw [hdx]; exact h
    have hw2:=cvt _ hw'
    have hps:=hw2.has
    refine (climb1_ok w' _ L Dk c3 c4 c5 dn (lsD x) P pa pc (fun (k:Nat)=>[.blk b8 (.cells #[.bool (decide (k = 9))] 4 (0,0)),.blk b5 (.cells #[I x.d,I x.v,I x.l,I x.ver,.bool x.gone] 49 (0,0)),.blk b4 (.cells (bs rt).toArray 69 (0,0))]) hps.1 hps.2 rfl hdn hld hP hPl (fun w2 h2=>hg.st (hw2.transL (l2:=[]) (.refl _) h2)) (fun l=>rdOL (by rw [List.append_nil] at hw2; exact hw2) hrp) (fun j w2 hj h2=>?_)).mono fun e' w2 ⟨hv,h2⟩=>⟨hv,(),trivial,by have h9:=hw2.transL (l2:=[]) (.refl _) h2; rw [List.append_nil] at h9; exact h9⟩
    have hcl1:(climbD (512 + dn) (lsD x) (P.take (j + 1))).length = 32:=climbD_length _ _ _ hld
    have hul:up (512 + dn) (j + 1) ≤ (512 + dn):=Nat.div_le_self _ _
    have hf9:=((hfr []).put 31 (I (up (512 + dn) (j + 1):Nat)) rfl).put 32 (.agg (bs (climbD (512 + dn) (lsD x) (P.take (j + 1)))).toArray) rfl
    refine round_okE (F1:=fun b10=>[(4,.pointer (some ⟨b4,0,none⟩)),(8,.pointer (some ⟨b8,0,none⟩)),(9,I (up (512 + dn) (j + 1):Nat)),(10,.pointer (some ⟨b10,0,none⟩))]) h2 hf9 (by simp [Act.put]) (by rfl) (fun b10=>.tail _ (.head _)) (l1:=fun b10=>.blk b10 (.cells (bs (climbD (512 + dn) (lsD x) (P.take (j + 1)))).toArray 69 (0,0)) :: clM _ L Dk c3 c4 c5 dn (lsD x) P pa pc (fun (k:Nat)=>[.blk b8 (.cells #[.bool (decide (k = 9))] 4 (0,0)),.blk b5 (.cells #[I x.d,I x.v,I x.l,I x.ver,.bool x.gone] 49 (0,0)),.blk b4 (.cells (bs rt).toArray 69 (0,0))]) (j + 1) j) ?_ (fun b10=>?_)
    · refine c_seq<|c_reg<|s_y y_as<|s_nil<|q_then<|c_reg<|s_alloc fun b10=>s_sta (b:=b10) (vs:=(bs (climbD (512 + dn) (lsD x) (P.take (j + 1)))).toArray) (cs:=(bs (List.replicate 32 0)).toArray) (h1:=fun v hv=>bs_one (by simpa using hv)) (hl:=(hz32 hcl1).trans (hz32 List.length_replicate).symm) (hs1:=hz32 hcl1) ?_
      exact s_nil<|q_joinE b10 ⟨rfl,rfl,rfl,rfl,trivial⟩ (List.Sublist.refl _)
    · by_cases h8:j = 8
      · subst h8
        have hu9:up (512 + dn) 9 = 1:=by unfold up; omega
        have hfin:climbD (512 + dn) (lsD x) (P.take (8 + 1)) = rt:=by rw [List.take_of_length_le (by omega)]; exact hroot
        refine c_block<|c_reg<|s_y y_mv<|s_kt (y_eql (p:=((up (512 + dn) (8 + 1):Nat):Int)) (q:=1)) (by rw [show up (512 + dn) (8 + 1) = 1 from hu9]; rfl)<|s_y y_mv<|s_y (y_lda (b:=b10) (cs:=(bs (climbD (512 + dn) (lsD x) (P.take (8 + 1)))).toArray) (hl:=hz32 hcl1))<|s_y (y_lda (b:=b4) (cs:=(bs rt).toArray) (hl:=hz32 hrt))<|s_kt (y_eqla (p:=climbD (512 + dn) (lsD x) (P.take (8 + 1))) (q:=rt) hcl1 hrt hgD) hfin<|s_y y_pk<|s_st (b:=b8) (v:=.bool true) (cs:=#[.bool (decide (8 = 9))]) (hl:=Nat.zero_lt_one) ?_
        exact s_nil<|q_nb<|q_rn (.tail _ (.head _)) fun w3 h3=>⟨(),trivial,rfl,h3.sub (.cons _ (.refl _))⟩
      · have hgt:1 < up (512 + dn) (j + 1):=up_gt (by omega)
        refine c_block<|c_reg<|s_y y_mv<|s_kf (y_eql (p:=((up (512 + dn) (j + 1):Nat):Int)) (q:=1)) (by omega)<|s_y y_mv<|s_no<|s_no<|s_no<|s_y y_pk<|s_st (b:=b8) (v:=.bool (decide (j + 1 = 9))) (cs:=#[.bool (decide (j = 9))]) (hl:=Nat.zero_lt_one) (hv:=by rw [decide_eq_false (show ¬ j + 1 = 9 by omega)]; rfl) ?_
        exact s_nil<|q_nb<|q_rn (.tail _ (.head _)) fun w3 h3=>⟨(),trivial,rfl,h3.sub (.cons _ (.refl _))⟩
end Go.Proofs.YtegfmbefhpagmaaGreatDoor
end
section
namespace Tp
open Go Eng Gf Sha Sig Wr Cod Cha Rst Go.Proofs.YtegfmbefhpagmaaGreatDoor
/-- a person, laid in memory -/
structure PA where
  p:Pn
  a:Option Addr
  c:Nat
def PA.cell (x:PA):List Value:=[I x.p.id,I x.p.rk,.slice x.a x.p.gs.length x.c,I x.p.need,I x.p.cool]
def pnc (l:List PA):List Value:=l.flatMap PA.cell
theorem pnc_length (l:List PA):(pnc l).length = l.length * 5:=flat_len (f:=PA.cell) (m:=5) (fun _=>rfl) l
theorem pnc_at {l:List PA} {i:Nat} {x:PA} (hx:l[i]? = some x) {j:Nat} {v:Value} (hv:x.cell[j]? = some v):(pnc l)[i * 5 + j]? = some v:=flat_mid (f:=PA.cell) (m:=5) (fun _=>rfl) hx hv
/-- people that are valid -/
structure PsOk (U:List PA):Prop where
  id:∀ x ∈ U,0 ≤ x.p.id ∧ x.p.id ≤ 63
  up:∀ (j:Nat) x y,U[j]? = some x → U[j + 1]? = some y → x.p.id < y.p.id
  nd:(U.map fun z=>z.p.id).Nodup
  rk:∀ x ∈ U,chk x.p.rk = 0
  cl:∀ x ∈ U,0 ≤ x.p.cool ∧ x.p.cool ≤ 1048576
  gl:∀ x ∈ U,x.p.gs.length ≤ 16
  ne:∀ x ∈ U,min ((x.p.gs.length:Nat):Int) 1 ≤ x.p.need ∧ x.p.need ≤ x.p.gs.length
  gs:∀ x ∈ U,∀ g ∈ x.p.gs,g ≠ x.p.id ∧ g ∈ U.map fun z=>z.p.id
  gu:∀ x ∈ U,∀ (j:Nat) a b,x.p.gs[j]? = some a → x.p.gs[j + 1]? = some b → a < b
end Tp
namespace Go.Proofs.YtegfmbefhpagmaaGreatDoor
open Go Eng Gf Sha Sig Wr Cod Cha Rst Tp
set_option maxRecDepth 100000
set_option linter.all false
theorem gChk_yes (w:World) (a:Int) (h:chk a = 0):Pure Tryz.prog 78 [I a] w (I 0):=by
  have h9:=gCheck_ok w a
  rw [h] at h9
  exact h9
theorem pCheck_ok (w:World) (U:List PA) (ua:Option Addr) (n uc:Nat) (hu:Rd w ua (pnc U)) (hgr:∀ x ∈ U,Rd w x.a (is x.p.gs)) (hn:U.length = n) (hl:n ≤ 1000000) (hU:PsOk U):Pure Tryz.prog 31 [.slice ua n uc] w (I 0):=by
  refine enter Tryz.func31 Tryz.ntmps31 ?_
  refine c_seq<|c_reg<|s_y y_as<|s_nil<|q_then<|c_seq<|c_reg<|s_mkmap (.inl rfl) fun m3=>?_
  rw [show ([]:List (Int × Value)) = (((U.map fun z=>z.p.id).take 0).map fun z=>(z,Value.bool true)) by rw [List.take_zero]; rfl]
  refine s_y y_as<|s_nil<|q_then<|c_seq<|c_seq<|c_reg<|s_y y_mv<|s_y y_len<|s_y y_mv<|s_nil<|q_then<|c_block<|?_
  refine c_loop (fun k:Nat=>[(0,.slice ua n uc),(3,.map (some m3)),(12,.slice ua n uc),(13,I n),(14,I (k:Nat))]) (fun k=>[mblk m3 (((U.map fun z=>z.p.id).take k).map fun z=>(z,Value.bool true))]) (fun k=>k ≤ n) (fun k=>n - k) 0 (Nat.zero_le _) ⟨rfl,rfl,rfl,rfl,rfl,trivial⟩ (by rw [List.take_zero]; exact .refl _) ?_
  intro k hkk
  by_cases hlt:k < n
  · obtain ⟨x,hx⟩:∃ x,U[k]? = some x:=⟨_,List.getElem?_eq_getElem (by omega)⟩
    have hxi:(U.map fun z=>z.p.id)[k]? = some x.p.id:=by rw [List.getElem?_map,hx]; rfl
    have hno:x.p.id ∉ (U.map fun z=>z.p.id).take k:=fun h=>take_not hxi h hU.nd
    have hkv:(((U.map fun z=>z.p.id).take k).map fun z=>(z,Value.bool true)) ++ [(x.p.id,Value.bool true)] = (((U.map fun z=>z.p.id).take (k + 1)).map fun z=>(z,Value.bool true)):=by rw [List.take_add_one,hxi,List.map_append]; rfl
    refine c_seq<|c_reg<|s_kt (y_lss (p:=(k:Nat)) (q:=n)) (by omega)<|s_nil<|q_then<|c_seq<|c_t<|c_skip<|q_then<|c_seq<|c_block<|c_seq<|c_reg<|s_y (y_ixs (xs:=pnc U) (i:=((k:Nat):Int)) (hr:=(rdW0 hu)) (hl:=by rw [pnc_length]; omega))<|s_y (y_ldra (i:=k * 5) (cs:=x.cell) (rdW0 hu) rfl (fun j v h=>pnc_at hx h))<|s_alloc fun b5=>s_sta (b:=b5) (vs:=#[I x.p.id,I x.p.rk,.slice x.a x.p.gs.length x.c,I x.p.need,I x.p.cool]) (cs:=#[I 0,I 0,.slice none 0 0,I 0,I 0]) (h1:=one_allA rfl) (hl:=rfl) (hs1:=rfl) ?_
    refine s_nil<|q_then<|c_reg<|s_y y_mv<|s_y y_fa<|s_y (y_ld (b:=b5) (v:=I x.p.id))<|s_mupd (k:=x.p.id) (kv:=(((U.map fun z=>z.p.id).take k).map fun z=>(z,Value.bool true))) (v:=.bool true) (hne:=kvs_no hno)<|?_
    rw [hkv]
    refine s_nil<|q_nb<|q_then<|c_reg<|s_y (y_add (p:=(k:Nat)) (q:=1))<|s_y y_mv<|s_nil<|?_
    exact q_round (k + 1) (by omega) (by omega) ⟨rfl,rfl,rfl,rfl,rfl,trivial⟩ (by repeat (first | exact List.nil_sublist _ | exact List.Sublist.refl _ | apply List.Sublist.cons_cons | apply List.Sublist.cons))
  · obtain rfl:k = n:=by omega
    rw [show (U.map fun z=>z.p.id).take k = (U.map fun z=>z.p.id) from List.take_of_length_le (by rw [List.length_map]; omega)]
    refine c_seq<|c_reg<|s_kf (y_lss (p:=(k:Nat)) (q:=k)) (by omega)<|s_nil<|q_then<|c_seq<|c_f<|c_exit<|q_ex<|q_ex<|q_exb<|q_then<|c_seq<|c_seq<|c_reg<|s_y y_mv<|s_y y_len<|s_y y_mv<|s_nil<|q_then<|c_block<|?_
    refine c_loop (fun i:Nat=>[(0,.slice ua k uc),(3,.map (some m3)),(22,.slice ua k uc),(23,I k),(24,I (i:Nat))]) (fun i=>[mblk m3 ((U.map fun z=>z.p.id).map fun z=>(z,Value.bool true))]) (fun i=>i ≤ k) (fun i=>k - i) 0 (Nat.zero_le _) ⟨rfl,rfl,rfl,rfl,rfl,trivial⟩ (.refl _) ?_
    intro i hki
    by_cases hlt:i < k
    · obtain ⟨x,hx⟩:∃ x,U[i]? = some x:=⟨_,List.getElem?_eq_getElem (by omega)⟩
      have hxm:=List.mem_of_getElem? hx
      have hid:=hU.id x hxm
      have hcl:=hU.cl x hxm
      have hgl:=hU.gl x hxm
      have hnd:=hU.ne x hxm
      by_cases hi0:i = 0
      · refine c_seq<|c_reg<|s_kt (y_lss (p:=(i:Nat)) (q:=k)) (by omega)<|s_nil<|q_then<|c_seq<|c_t<|c_skip<|q_then<|c_seq<|c_block<|c_seq<|c_reg<|s_y y_mv<|s_y (y_ixs (xs:=pnc U) (i:=(((i):Nat):Int)) (hr:=(rdW0 hu)) (hl:=by rw [pnc_length]; omega))<|s_y (y_ldra (i:=(i) * 5) (cs:=x.cell) (rdW0 hu) rfl (fun j v h=>pnc_at hx h))<|s_alloc fun b7=>s_y y_as<|s_sta (b:=b7) (vs:=#[I x.p.id,I x.p.rk,.slice x.a x.p.gs.length x.c,I x.p.need,I x.p.cool]) (cs:=#[I 0,I 0,.slice none 0 0,I 0,I 0]) (h1:=one_allA rfl) (hl:=rfl) (hs1:=rfl) ?_
        refine s_nil<|q_then<|c_seq<|c_seq<|c_regd<|d_y y_fa<|d_y (y_ld (b:=b7) (v:=I x.p.id))<|d_kf (y_lss (p:=x.p.id) (q:=0)) (by omega)<|d_y y_mv<|d_y y_fa<|d_y (y_ld (b:=b7) (v:=I x.p.id))<|d_kf (y_geq (p:=x.p.id) (q:=64)) (by omega)<|d_y y_pk<|d_y y_mv<|d_y y_mv<|d_kf (y_gtr (p:=(i:Nat)) (q:=0)) (by omega)<|d_y y_mv<|d_no<|d_no<|d_no<|d_no<|d_no<|d_no<|d_no<|d_no<|d_no<|d_y y_pk<|d_y y_pk<|d_y y_mv<|d_y y_fa<|d_y (y_ld (b:=b7) (v:=I x.p.rk))<|d_pure (fun w' hw=>gChk_yes w' x.p.rk (hU.rk x hxm))<|d_nf (y_neq (p:=0) (q:=0)) (by omega)<|d_y y_pk<|d_y y_mv<|d_y y_fa<|d_y (y_ld (b:=b7) (v:=I x.p.cool))<|d_kf (y_lss (p:=x.p.cool) (q:=0)) (by omega)<|d_y y_pk<|d_y y_mv<|d_y y_fa<|d_y (y_ld (b:=b7) (v:=I x.p.cool))<|d_kf (y_gtr (p:=x.p.cool) (q:=1048576)) (by omega)<|d_y y_pk<|d_nil<|q_then<|c_f<|c_skip<|q_then<|c_seq<|c_reg<|s_y y_fa<|s_y (y_ld (b:=b7) (v:=.slice x.a x.p.gs.length x.c))<|s_y y_len<|s_y y_as<|s_nil<|q_then<|c_seq<|c_seq<|c_reg<|s_y y_mv<|s_kf (y_gtr (p:=x.p.gs.length) (q:=16)) (by omega)<|s_y y_mv<|s_y y_fa<|s_y (y_ld (b:=b7) (v:=I x.p.need))<|s_y y_mv<|s_y (y_min (p:=x.p.gs.length) (q:=1))<|?_
        obtain ⟨mn,hmn⟩:∃ mn,mn = min ((x.p.gs.length:Nat):Int) 1:=⟨_,rfl⟩
        rw [← hmn]
        refine s_kf (y_lss (p:=x.p.need) (q:=mn)) (by omega)<|s_y y_pk<|s_y y_mv<|s_y y_fa<|s_y (y_ld (b:=b7) (v:=I x.p.need))<|s_y y_mv<|s_kf (y_gtr (p:=x.p.need) (q:=x.p.gs.length)) (by omega)<|s_y y_pk<|s_nil<|q_then<|c_f<|c_skip<|q_then<|c_seq<|c_reg<|s_y y_fa<|s_y (y_ld (b:=b7) (v:=.slice x.a x.p.gs.length x.c))<|s_y y_len<|s_y y_mv<|s_nil<|q_then<|c_block<|?_
        refine c_loop (fun j:Nat=>[(0,.slice ua k uc),(3,.map (some m3)),(7,.pointer (some ⟨b7,0,none⟩)),(22,.slice ua k uc),(23,I k),(24,I (i:Nat)),(87,.slice x.a x.p.gs.length x.c),(88,I x.p.gs.length),(89,I (j:Nat))]) (fun j=>[.blk b7 (.cells #[I x.p.id,I x.p.rk,.slice x.a x.p.gs.length x.c,I x.p.need,I x.p.cool] 27 (0,0)),mblk m3 ((U.map fun z=>z.p.id).map fun z=>(z,Value.bool true))]) (fun j=>j ≤ x.p.gs.length) (fun j=>x.p.gs.length - j) 0 (Nat.zero_le _) ⟨rfl,rfl,rfl,rfl,rfl,rfl,rfl,rfl,rfl,trivial⟩ (.refl _) ?_
        intro j hkj
        by_cases hjl:j < x.p.gs.length
        · obtain ⟨g,hg9⟩:∃ g,x.p.gs[j]? = some g:=⟨_,List.getElem?_eq_getElem hjl⟩
          have hgd:x.p.gs.getD j 0 = g:=by rw [List.getD_eq_getElem?_getD,hg9]; rfl
          obtain ⟨hg1,hg2⟩:=hU.gs x hxm g (List.mem_of_getElem? hg9)
          by_cases hj0:j = 0
          · refine c_seq<|c_reg<|s_kt (y_lss (p:=(j:Nat)) (q:=x.p.gs.length)) (by omega)<|s_nil<|q_then<|c_seq<|c_t<|c_skip<|q_then<|c_seq<|c_block<|c_seq<|c_reg<|s_y y_mv<|s_y (y_ixs1 (xs:=is x.p.gs) (i:=(((j):Nat):Int)) (hr:=(rdW0 (hgr x hxm))))<|s_y (y_ldi (i:=(j)) (q:=x.p.gs) (hr:=(rdW0 (hgr x hxm))) (hi:=by omega))<|?_
            rw [hgd]
            refine s_y y_as<|s_y y_as<|s_nil<|q_then<|c_seq<|c_reg<|s_y y_mv<|s_y y_fa<|s_y (y_ld (b:=b7) (v:=I x.p.id))<|s_kf (y_eql (p:=g) (q:=x.p.id)) hg1<|s_y y_mv<|s_y y_mv<|s_y y_mv<|s_y (v:=.bool true) (y_lookY (c2:=false) (k:=g) (kv:=((U.map fun z=>z.p.id).map fun z=>(z,Value.bool true))) (kvs_in hg2) kvs_all)<|s_y (v:=.bool false) (y_not (b:=true))<|s_y y_pk<|s_y y_mv<|s_y y_mv<|s_kf (y_gtr (p:=(j:Nat)) (q:=0)) (by omega)<|s_y y_mv<|s_no<|s_no<|s_no<|s_no<|s_no<|s_no<|s_no<|s_no<|s_y y_pk<|s_y y_pk<|s_nil<|q_then<|c_f<|c_skip<|q_nb<|q_then<|c_reg<|s_y (y_add (p:=(j:Nat)) (q:=1))<|s_y y_mv<|s_nil<|?_
            exact q_round (j + 1) (by omega) (by omega) ⟨rfl,rfl,rfl,rfl,rfl,rfl,rfl,rfl,rfl,trivial⟩ (by repeat (first | exact List.nil_sublist _ | exact List.Sublist.refl _ | apply List.Sublist.cons_cons | apply List.Sublist.cons))
          · obtain ⟨j',rfl⟩:∃ j',j = j' + 1:=⟨j - 1,by omega⟩
            obtain ⟨gp,hgp⟩:∃ gp,x.p.gs[j']? = some gp:=⟨_,List.getElem?_eq_getElem (by omega)⟩
            have hgpd:x.p.gs.getD j' 0 = gp:=by rw [List.getD_eq_getElem?_getD,hgp]; rfl
            have hgu:=hU.gu x hxm j' gp g hgp hg9
            refine c_seq<|c_reg<|s_kt (y_lss (p:=(j' + 1:Nat)) (q:=x.p.gs.length)) (by omega)<|s_nil<|q_then<|c_seq<|c_t<|c_skip<|q_then<|c_seq<|c_block<|c_seq<|c_reg<|s_y y_mv<|s_y (y_ixs1 (xs:=is x.p.gs) (i:=(((j' + 1):Nat):Int)) (hr:=(rdW0 (hgr x hxm))))<|s_y (y_ldi (i:=(j' + 1)) (q:=x.p.gs) (hr:=(rdW0 (hgr x hxm))) (hi:=by omega))<|?_
            rw [hgd]
            refine s_y y_as<|s_y y_as<|s_nil<|q_then<|c_seq<|c_reg<|s_y y_mv<|s_y y_fa<|s_y (y_ld (b:=b7) (v:=I x.p.id))<|s_kf (y_eql (p:=g) (q:=x.p.id)) hg1<|s_y y_mv<|s_y y_mv<|s_y y_mv<|s_y (v:=.bool true) (y_lookY (c2:=false) (k:=g) (kv:=((U.map fun z=>z.p.id).map fun z=>(z,Value.bool true))) (kvs_in hg2) kvs_all)<|s_y (v:=.bool false) (y_not (b:=true))<|s_y y_pk<|s_y y_mv<|s_y y_mv<|s_kt (y_gtr (p:=(j' + 1:Nat)) (q:=0)) (by omega)<|s_y y_mv<|s_y y_mv<|s_y y_fa<|s_y (y_ld (b:=b7) (v:=.slice x.a x.p.gs.length x.c))<|s_y y_mv<|s_y (y_sub (p:=(j' + 1:Nat)) (q:=1))<|?_
            rw [show ((j' + 1:Nat):Int) - 1 = ((j':Nat):Int) by omega]
            refine s_y (y_ixs1 (xs:=is x.p.gs) (i:=((j':Nat):Int)) (hr:=(rdW0 (hgr x hxm))))<|s_y (y_ldi (i:=j') (q:=x.p.gs) (hr:=(rdW0 (hgr x hxm))) (hi:=by omega))<|?_
            rw [hgpd]
            refine s_kf (y_leq (p:=g) (q:=gp)) (by omega)<|s_y y_pk<|s_y y_pk<|s_nil<|q_then<|c_f<|c_skip<|q_nb<|q_then<|c_reg<|s_y (y_add (p:=(j' + 1:Nat)) (q:=1))<|s_y y_mv<|s_nil<|?_
            exact q_round (j' + 1 + 1) (by omega) (by omega) ⟨rfl,rfl,rfl,rfl,rfl,rfl,rfl,rfl,rfl,trivial⟩ (by repeat (first | exact List.nil_sublist _ | exact List.Sublist.refl _ | apply List.Sublist.cons_cons | apply List.Sublist.cons))
        · refine c_seq<|c_reg<|s_kf (y_lss (p:=(j:Nat)) (q:=x.p.gs.length)) (by omega)<|s_nil<|q_then<|c_seq<|c_f<|c_exit<|q_ex<|q_ex<|q_exb<|q_nb<|q_then<|c_reg<|s_y (y_add (p:=(i:Nat)) (q:=1))<|s_y y_mv<|s_nil<|?_
          exact q_round (i + 1) (by omega) (by omega) ⟨rfl,rfl,rfl,rfl,rfl,trivial⟩ (by repeat (first | exact List.nil_sublist _ | exact List.Sublist.refl _ | apply List.Sublist.cons_cons | apply List.Sublist.cons))
      · obtain ⟨i',rfl⟩:∃ i',i = i' + 1:=⟨i - 1,by omega⟩
        obtain ⟨xp,hxp⟩:∃ xp,U[i']? = some xp:=⟨_,List.getElem?_eq_getElem (by omega)⟩
        have hup:=hU.up i' xp x hxp hx
        refine c_seq<|c_reg<|s_kt (y_lss (p:=(i' + 1:Nat)) (q:=k)) (by omega)<|s_nil<|q_then<|c_seq<|c_t<|c_skip<|q_then<|c_seq<|c_block<|c_seq<|c_reg<|s_y y_mv<|s_y (y_ixs (xs:=pnc U) (i:=(((i' + 1):Nat):Int)) (hr:=(rdW0 hu)) (hl:=by rw [pnc_length]; omega))<|s_y (y_ldra (i:=(i' + 1) * 5) (cs:=x.cell) (rdW0 hu) rfl (fun j v h=>pnc_at hx h))<|s_alloc fun b7=>s_y y_as<|s_sta (b:=b7) (vs:=#[I x.p.id,I x.p.rk,.slice x.a x.p.gs.length x.c,I x.p.need,I x.p.cool]) (cs:=#[I 0,I 0,.slice none 0 0,I 0,I 0]) (h1:=one_allA rfl) (hl:=rfl) (hs1:=rfl) ?_
        refine s_nil<|q_then<|c_seq<|c_seq<|c_regd<|d_y y_fa<|d_y (y_ld (b:=b7) (v:=I x.p.id))<|d_kf (y_lss (p:=x.p.id) (q:=0)) (by omega)<|d_y y_mv<|d_y y_fa<|d_y (y_ld (b:=b7) (v:=I x.p.id))<|d_kf (y_geq (p:=x.p.id) (q:=64)) (by omega)<|d_y y_pk<|d_y y_mv<|d_y y_mv<|d_kt (y_gtr (p:=(i' + 1:Nat)) (q:=0)) (by omega)<|d_y y_mv<|d_y y_fa<|d_y (y_ld (b:=b7) (v:=I x.p.id))<|d_y y_mv<|d_y y_mv<|d_y (y_sub (p:=(i' + 1:Nat)) (q:=1))<|?_
        rw [show ((i' + 1:Nat):Int) - 1 = ((i':Nat):Int) by omega]
        refine d_y (y_ixs (xs:=pnc U) (i:=((i':Nat):Int)) (hr:=rdW0 hu) (hl:=by rw [pnc_length]; omega))<|d_y y_far<|d_y (y_ldr (i:=i' * 5 + 0) (xs:=pnc U) (v:=I xp.p.id) (pnc_at (j:=0) hxp rfl) (hr:=(rdW0 hu)))<|d_kf (y_leq (p:=x.p.id) (q:=xp.p.id)) (by omega)<|d_y y_pk<|d_y y_pk<|d_y y_mv<|d_y y_fa<|d_y (y_ld (b:=b7) (v:=I x.p.rk))<|d_pure (fun w' hw=>gChk_yes w' x.p.rk (hU.rk x hxm))<|d_nf (y_neq (p:=0) (q:=0)) (by omega)<|d_y y_pk<|d_y y_mv<|d_y y_fa<|d_y (y_ld (b:=b7) (v:=I x.p.cool))<|d_kf (y_lss (p:=x.p.cool) (q:=0)) (by omega)<|d_y y_pk<|d_y y_mv<|d_y y_fa<|d_y (y_ld (b:=b7) (v:=I x.p.cool))<|d_kf (y_gtr (p:=x.p.cool) (q:=1048576)) (by omega)<|d_y y_pk<|d_nil<|q_then<|c_f<|c_skip<|q_then<|c_seq<|c_reg<|s_y y_fa<|s_y (y_ld (b:=b7) (v:=.slice x.a x.p.gs.length x.c))<|s_y y_len<|s_y y_as<|s_nil<|q_then<|c_seq<|c_seq<|c_reg<|s_y y_mv<|s_kf (y_gtr (p:=x.p.gs.length) (q:=16)) (by omega)<|s_y y_mv<|s_y y_fa<|s_y (y_ld (b:=b7) (v:=I x.p.need))<|s_y y_mv<|s_y (y_min (p:=x.p.gs.length) (q:=1))<|?_
        obtain ⟨mn,hmn⟩:∃ mn,mn = min ((x.p.gs.length:Nat):Int) 1:=⟨_,rfl⟩
        rw [← hmn]
        refine s_kf (y_lss (p:=x.p.need) (q:=mn)) (by omega)<|s_y y_pk<|s_y y_mv<|s_y y_fa<|s_y (y_ld (b:=b7) (v:=I x.p.need))<|s_y y_mv<|s_kf (y_gtr (p:=x.p.need) (q:=x.p.gs.length)) (by omega)<|s_y y_pk<|s_nil<|q_then<|c_f<|c_skip<|q_then<|c_seq<|c_reg<|s_y y_fa<|s_y (y_ld (b:=b7) (v:=.slice x.a x.p.gs.length x.c))<|s_y y_len<|s_y y_mv<|s_nil<|q_then<|c_block<|?_
        refine c_loop (fun j:Nat=>[(0,.slice ua k uc),(3,.map (some m3)),(7,.pointer (some ⟨b7,0,none⟩)),(22,.slice ua k uc),(23,I k),(24,I (i' + 1:Nat)),(87,.slice x.a x.p.gs.length x.c),(88,I x.p.gs.length),(89,I (j:Nat))]) (fun j=>[.blk b7 (.cells #[I x.p.id,I x.p.rk,.slice x.a x.p.gs.length x.c,I x.p.need,I x.p.cool] 27 (0,0)),mblk m3 ((U.map fun z=>z.p.id).map fun z=>(z,Value.bool true))]) (fun j=>j ≤ x.p.gs.length) (fun j=>x.p.gs.length - j) 0 (Nat.zero_le _) ⟨rfl,rfl,rfl,rfl,rfl,rfl,rfl,rfl,rfl,trivial⟩ (.refl _) ?_
        intro j hkj
        by_cases hjl:j < x.p.gs.length
        · obtain ⟨g,hg9⟩:∃ g,x.p.gs[j]? = some g:=⟨_,List.getElem?_eq_getElem hjl⟩
          have hgd:x.p.gs.getD j 0 = g:=by rw [List.getD_eq_getElem?_getD,hg9]; rfl
          obtain ⟨hg1,hg2⟩:=hU.gs x hxm g (List.mem_of_getElem? hg9)
          by_cases hj0:j = 0
          · refine c_seq<|c_reg<|s_kt (y_lss (p:=(j:Nat)) (q:=x.p.gs.length)) (by omega)<|s_nil<|q_then<|c_seq<|c_t<|c_skip<|q_then<|c_seq<|c_block<|c_seq<|c_reg<|s_y y_mv<|s_y (y_ixs1 (xs:=is x.p.gs) (i:=(((j):Nat):Int)) (hr:=(rdW0 (hgr x hxm))))<|s_y (y_ldi (i:=(j)) (q:=x.p.gs) (hr:=(rdW0 (hgr x hxm))) (hi:=by omega))<|?_
            rw [hgd]
            refine s_y y_as<|s_y y_as<|s_nil<|q_then<|c_seq<|c_reg<|s_y y_mv<|s_y y_fa<|s_y (y_ld (b:=b7) (v:=I x.p.id))<|s_kf (y_eql (p:=g) (q:=x.p.id)) hg1<|s_y y_mv<|s_y y_mv<|s_y y_mv<|s_y (v:=.bool true) (y_lookY (c2:=false) (k:=g) (kv:=((U.map fun z=>z.p.id).map fun z=>(z,Value.bool true))) (kvs_in hg2) kvs_all)<|s_y (v:=.bool false) (y_not (b:=true))<|s_y y_pk<|s_y y_mv<|s_y y_mv<|s_kf (y_gtr (p:=(j:Nat)) (q:=0)) (by omega)<|s_y y_mv<|s_no<|s_no<|s_no<|s_no<|s_no<|s_no<|s_no<|s_no<|s_y y_pk<|s_y y_pk<|s_nil<|q_then<|c_f<|c_skip<|q_nb<|q_then<|c_reg<|s_y (y_add (p:=(j:Nat)) (q:=1))<|s_y y_mv<|s_nil<|?_
            exact q_round (j + 1) (by omega) (by omega) ⟨rfl,rfl,rfl,rfl,rfl,rfl,rfl,rfl,rfl,trivial⟩ (by repeat (first | exact List.nil_sublist _ | exact List.Sublist.refl _ | apply List.Sublist.cons_cons | apply List.Sublist.cons))
          · obtain ⟨j',rfl⟩:∃ j',j = j' + 1:=⟨j - 1,by omega⟩
            obtain ⟨gp,hgp⟩:∃ gp,x.p.gs[j']? = some gp:=⟨_,List.getElem?_eq_getElem (by omega)⟩
            have hgpd:x.p.gs.getD j' 0 = gp:=by rw [List.getD_eq_getElem?_getD,hgp]; rfl
            have hgu:=hU.gu x hxm j' gp g hgp hg9
            refine c_seq<|c_reg<|s_kt (y_lss (p:=(j' + 1:Nat)) (q:=x.p.gs.length)) (by omega)<|s_nil<|q_then<|c_seq<|c_t<|c_skip<|q_then<|c_seq<|c_block<|c_seq<|c_reg<|s_y y_mv<|s_y (y_ixs1 (xs:=is x.p.gs) (i:=(((j' + 1):Nat):Int)) (hr:=(rdW0 (hgr x hxm))))<|s_y (y_ldi (i:=(j' + 1)) (q:=x.p.gs) (hr:=(rdW0 (hgr x hxm))) (hi:=by omega))<|?_
            rw [hgd]
            refine s_y y_as<|s_y y_as<|s_nil<|q_then<|c_seq<|c_reg<|s_y y_mv<|s_y y_fa<|s_y (y_ld (b:=b7) (v:=I x.p.id))<|s_kf (y_eql (p:=g) (q:=x.p.id)) hg1<|s_y y_mv<|s_y y_mv<|s_y y_mv<|s_y (v:=.bool true) (y_lookY (c2:=false) (k:=g) (kv:=((U.map fun z=>z.p.id).map fun z=>(z,Value.bool true))) (kvs_in hg2) kvs_all)<|s_y (v:=.bool false) (y_not (b:=true))<|s_y y_pk<|s_y y_mv<|s_y y_mv<|s_kt (y_gtr (p:=(j' + 1:Nat)) (q:=0)) (by omega)<|s_y y_mv<|s_y y_mv<|s_y y_fa<|s_y (y_ld (b:=b7) (v:=.slice x.a x.p.gs.length x.c))<|s_y y_mv<|s_y (y_sub (p:=(j' + 1:Nat)) (q:=1))<|?_
            rw [show ((j' + 1:Nat):Int) - 1 = ((j':Nat):Int) by omega]
            refine s_y (y_ixs1 (xs:=is x.p.gs) (i:=((j':Nat):Int)) (hr:=(rdW0 (hgr x hxm))))<|s_y (y_ldi (i:=j') (q:=x.p.gs) (hr:=(rdW0 (hgr x hxm))) (hi:=by omega))<|?_
            rw [hgpd]
            refine s_kf (y_leq (p:=g) (q:=gp)) (by omega)<|s_y y_pk<|s_y y_pk<|s_nil<|q_then<|c_f<|c_skip<|q_nb<|q_then<|c_reg<|s_y (y_add (p:=(j' + 1:Nat)) (q:=1))<|s_y y_mv<|s_nil<|?_
            exact q_round (j' + 1 + 1) (by omega) (by omega) ⟨rfl,rfl,rfl,rfl,rfl,rfl,rfl,rfl,rfl,trivial⟩ (by repeat (first | exact List.nil_sublist _ | exact List.Sublist.refl _ | apply List.Sublist.cons_cons | apply List.Sublist.cons))
        · refine c_seq<|c_reg<|s_kf (y_lss (p:=(j:Nat)) (q:=x.p.gs.length)) (by omega)<|s_nil<|q_then<|c_seq<|c_f<|c_exit<|q_ex<|q_ex<|q_exb<|q_nb<|q_then<|c_reg<|s_y (y_add (p:=(i' + 1:Nat)) (q:=1))<|s_y y_mv<|s_nil<|?_
          exact q_round (i' + 1 + 1) (by omega) (by omega) ⟨rfl,rfl,rfl,rfl,rfl,trivial⟩ (by repeat (first | exact List.nil_sublist _ | exact List.Sublist.refl _ | apply List.Sublist.cons_cons | apply List.Sublist.cons))
    · refine c_seq<|c_reg<|s_kf (y_lss (p:=(i:Nat)) (q:=k)) (by omega)<|s_nil<|q_then<|c_seq<|c_f<|c_exit<|q_ex<|q_ex<|q_exb<|q_then<|c_seq<|c_reg<|s_y y_as<|s_nil<|q_then<|c_ret<|?_
      exact ret1 Tryz.results31 rv_t fun w' hw=>⟨rfl,hw.sub (List.nil_sublist _)⟩
end Go.Proofs.YtegfmbefhpagmaaGreatDoor
end
section
namespace Eng
open Go
theorem St.unb {W w:World} {b:Nat} {o:Obj} (h:St W (keys [.blk b o]) w [.blk b o]) (hb:(Res.blk b o).holds W):St W [] w [] where
  os:=h.os
  tape:=h.tape
  output:=h.output
  size:=h.size
  old:=fun k hk _=>by
    by_cases e:k = b
    · subst e; exact ((h.own _ (.head _)).1:w.heap[k]? = some o).trans (show W.heap[k]? = some o from hb).symm
    · exact h.old k hk (fun h9=>e (by simpa [keys,Res.key] using h9))
  own:=fun _ h=>by cases h
  nd:=List.nodup_nil
theorem Rd.stM {W w:World} {a:Option Addr} {xs:List Value} {m:Nat} {kv:List (Int × Value)} {l:SH} (h:Rd W a xs) (hs:St W (keys [mblk m kv]) w l) (hm:(mblk m kv).holds W):Rd w a xs:=by
  rcases h with h | ⟨b,off,cs,t,fz,h1,h2,h3⟩
  · exact .inl h
  · refine rdW (Bo:=keys [mblk m kv]) (.inr ⟨b,off,cs,t,fz,h1,h2,h3⟩) (fun k hk e=>?_) w hs
    have hk:k = m:=by simpa [keys,Res.key] using hk
    subst hk
    subst h1
    cases e
    rw [show W.heap[b]? = some (.map (mes kv) kv.length) from hm] at h2
    cases h2
end Eng
namespace Go.Proofs.YtegfmbefhpagmaaGreatDoor
open Go Eng Sha
theorem LS.stM {W w:World} {m:Nat} {kv:List (Int × Value)} {l:SH} (h:LS W) (hs:St W (keys [mblk m kv]) w l) (hm:(mblk m kv).holds W):LS w:=⟨h.1.stM hs hm,h.2.stM hs hm⟩
end Go.Proofs.YtegfmbefhpagmaaGreatDoor
namespace Tp
open Go Eng Gf Sha Sig Wr Cod Cha Rst Go.Proofs.YtegfmbefhpagmaaGreatDoor
instance:Inhabited PA:=⟨⟨⟨0,0,[],0,0⟩,none,0⟩⟩
end Tp
namespace Go.Proofs.YtegfmbefhpagmaaGreatDoor
open Go Eng Gf Sha Sig Wr Cod Cha Rst Tp
set_option maxRecDepth 100000
set_option linter.all false
theorem IxF_PA (w:World) (a:Option Addr) (c:Nat) (q:List PA) (kf:FuncId) (cs:List Value) [HF Tryz.prog kf] (p:PA → Bool) (hr:Rd w a (pnc q)) (hl:q.length ≤ 1000000000000000)
    (hf:∀ x ∈ q,∀ w',St w [] w' [] → Pure Tryz.prog kf ([.agg x.cell.toArray] ++ cs) w' (.bool (p x))) :
    Pure Tryz.prog 33 [.slice a q.length c,.func (.func kf) #[] cs.toArray] w (I (fidx p q)):=by
  have hcl:q.length ≤ (pnc q).length:=by rw [pnc_length]; omega
  refine enter Tryz.func33 Tryz.ntmps33 ?_
  refine c_seq<|c_reg<|s_y y_as<|s_nil<|q_then<|c_seq<|c_seq<|c_reg<|s_y y_mv<|s_y y_len<|s_y y_mv<|s_nil<|q_then<|c_block<|?_
  refine c_loop (fun i:Nat=>[(0,.slice a q.length c),(1,.func (.func kf) #[] cs.toArray),(7,I q.length),(8,I i)]) (fun _=>[]) (fun i=>i ≤ q.length ∧ ∀ j,j < i → p (q.getD j default) = false) (fun i=>q.length - i) 0 ⟨by omega,fun _ h=>by omega⟩ ⟨rfl,rfl,rfl,rfl,trivial⟩ (List.Sublist.refl _) ?_
  intro i ⟨hi,hj⟩
  refine c_seq<|c_reg<|s_y (y_lss (p:=i) (q:=q.length))<|s_nil<|q_then<|c_seq<|c_ifd (fun h9=>?_) (fun h9=>?_)
  · have hiq:i < q.length:=by omega
    obtain ⟨x,hx⟩:∃ x,q[i]? = some x:=⟨_,List.getElem?_eq_getElem hiq⟩
    have hgd:q.getD i default = x:=by rw [List.getD_eq_getElem?_getD,hx]; rfl
    refine c_skip<|q_then<|c_seq<|c_block<|c_seq<|c_reg<|s_y y_mv<|s_y y_as<|s_nil<|q_then<|c_seq<|c_reg<|s_y y_mv<|s_y y_mv<|s_y y_mv<|s_y (y_ixs (xs:=pnc q) (i:=((i:Nat):Int)) (hl:=hcl))<|s_y (y_ldra (i:=i * 5) (cs:=x.cell) (rdW0 hr) rfl (fun j v h=>pnc_at hx h))<|s_pure (fun w' hw=>hf x (List.mem_of_getElem? hx) w' hw)<|s_nil<|q_then<|c_if rfl (fun h16=>?_) (fun h16=>?_)
    · rw [fidx_hit (d:=default) hiq hj (by rw [hgd]; exact h16)]
      refine c_seq<|c_reg<|s_y y_mv<|s_y y_as<|s_nil<|q_then<|c_ret<|q_retb<|q_ret<|q_ret<|q_retb<|q_ret<|?_
      exact ret1 Tryz.results33 rv_t fun w' hw=>⟨rfl,hw⟩
    · refine c_skip<|q_nb<|q_then<|c_reg<|s_y (y_add (p:=i) (q:=1))<|s_y y_mv<|s_nil<|q_round (i + 1) ⟨by omega,fun j h=>(Nat.lt_or_ge j i).elim (hj j) fun h8=>by obtain rfl:j = i:=(by omega); rw [hgd]; exact h16⟩ (by omega) ⟨rfl,rfl,rfl,rfl,trivial⟩ (List.Sublist.refl _)
  · rw [fidx_none (d:=default) (p:=p) (l:=q) fun j h=>hj j (by omega)]
    refine c_exit<|q_ex<|q_ex<|q_exb<|q_then<|c_seq<|c_reg<|s_y y_as<|s_nil<|q_then<|c_ret<|?_
    exact ret1 Tryz.results33 rv_t fun w' hw=>⟨rfl,hw⟩
theorem must_ok (w:World) (e:Int):Pure Tryz.prog 32 [.bool true,I e] w (.tuple #[]):=by
  refine enter Tryz.func32 Tryz.ntmps32 ?_
  refine c_seq<|c_reg<|s_y y_mv<|s_y (v:=.bool false) (y_not (b:=true))<|s_nil<|q_then<|c_f<|c_skip<|?_
  exact ret0 Tryz.results32 (fun w' hw=>⟨rfl,hw⟩) _ (.inr rfl)
theorem trestore_ok (w:World) (d v l ver r s:Int) (x:PA) (m:Nat):Pure Tryz.prog 97 [.agg #[I 3,I d,I v,I l,I ver,I (-1),I r,I s,I x.p.id,I x.p.rk,.slice x.a x.p.gs.length x.c,I x.p.need,I x.p.cool,.map (some m)]] w (I x.p.rk):=by
  refine enter Tryz.func97 Tryz.ntmps97 ?_
  refine c_seq<|c_reg<|s_box rfl fun b1=>s_y y_as<|s_nil<|q_then<|c_seq<|c_reg<|s_y y_fa<|s_y y_fa<|s_y (y_ld (b:=b1) (v:=I x.p.rk))<|s_y y_as<|s_nil<|q_then<|c_ret<|?_
  exact ret1 Tryz.results97 rv_t fun w' hw=>⟨rfl,hw.sub (List.nil_sublist _)⟩
theorem first_ok (w:World) (d v l ver r s:Int) (x:PA) (m:Nat) (kv:List (Int × Value)) (hm:(mblk m kv).holds w) (hfr:∀ p ∈ kv,0 ≤ p.1 ∧ p.1 < 512 ∧ p.1 / 8 ≠ x.p.id):Pure Tryz.prog 95 [.agg #[I 1,I d,I v,I l,I ver,I d,I r,I s,I x.p.id,I x.p.rk,.slice x.a x.p.gs.length x.c,I x.p.need,I x.p.cool,.map (some m)]] w (I v):=by
  refine enterR Tryz.func95 Tryz.ntmps95 hm ?_
  refine c_seq<|c_reg<|s_box rfl fun b1=>s_y y_as<|s_nil<|q_then<|c_seq<|c_seq<|c_reg<|s_y y_fa<|s_y (y_ld (b:=b1) (v:=.map (some m)))<|s_range (kv:=kv) fun b6=>s_nil<|q_then<|c_block<|?_
  refine c_loop (fun _:List Nat=>[(1,.pointer (some ⟨b1,0,none⟩)),(6,.pointer (some ⟨b6,0,none⟩))]) (fun q=>[mit b6 m kv.length q,.blk b1 (.cells #[I 1,I d,I v,I l,I ver,I d,I r,I s,I x.p.id,I x.p.rk,.slice x.a x.p.gs.length x.c,I x.p.need,I x.p.cool,.map (some m)] 92 (0,0)),mblk m kv]) (fun _=>True) (fun q=>unseen kv.length q) [] trivial ⟨rfl,rfl,trivial⟩ (.refl _) ?_
  intro q _
  refine c_seq<|c_reg<|s_next (kv:=kv) (s:=q) (l2:=fun i=>[mit b6 m kv.length (q ++ [i]),.blk b1 (.cells #[I 1,I d,I v,I l,I ver,I d,I r,I s,I x.p.id,I x.p.rk,.slice x.a x.p.gs.length x.c,I x.p.need,I x.p.cool,.map (some m)] 92 (0,0)),mblk m kv]) (fun _=>?_) (fun i k u hi hnq=>?_) (hr:=fun _=>.head _)
  · refine s_y y_ext<|s_nil<|q_then<|c_seq<|c_f<|c_exit<|q_ex<|q_ex<|q_exb<|q_then<|c_seq<|c_reg<|s_y y_fa<|s_y y_fa<|s_y (y_ld (b:=b1) (v:=I v))<|s_y y_as<|s_nil<|q_then<|c_ret<|?_
    exact ret1 Tryz.results95 rv_t fun w' hw=>⟨rfl,(hw.sub (l':=[mblk m kv]) (.cons _ (.cons _ (.refl _)))).unb hm⟩
  · obtain ⟨h1,h2,h3⟩:=hfr (k,u) (List.mem_of_getElem? hi)
    simp only at h1 h2 h3
    refine s_y y_ext<|s_nil<|q_then<|c_seq<|c_t<|c_skip<|q_then<|c_block<|c_seq<|c_reg<|s_y (y_entry (kv:=kv) (s:=q) hi)<|s_y y_ext<|s_y y_as<|s_nil<|q_then<|c_reg<|s_y y_mv<|s_pure (v:=.bool true) (fun w' hw=>pDev_ok w' k true ⟨fun _=>rfl,fun _=>⟨h1,h2⟩⟩)<|s_y (v:=.bool false) (y_not (b:=true))<|s_y y_mv<|s_y y_mv<|s_y (y_quo (p:=k) (q:=8))<|s_y y_fa<|s_y y_fa<|s_y (y_ld (b:=b1) (v:=I x.p.id))<|s_nt (y_neq (p:=k / 8) (q:=x.p.id)) h3<|s_y y_pk<|s_pure (fun w' hw=>must_ok w' 370)<|s_nil<|q_nb<|?_
    exact q_round (q ++ [i]) trivial (unseen_lt (List.getElem?_eq_some_iff.1 hi).1 hnq) ⟨rfl,rfl,trivial⟩ (.refl _)
theorem verify1_ok (w:World) (d v l ver r s:Int) (x:PA) (m:Nat) (kv:List (Int × Value)) (hg:LS w) (hm:(mblk m kv).holds w) (hnod:∀ p ∈ kv,p.1 ≠ d) (hver:ver = 1) (hR:∀ n ∈ [(1:Int),d,v,l,ver,d],R64 n) (hfr:∀ p ∈ kv,0 ≤ p.1 ∧ p.1 < 512 ∧ p.1 / 8 ≠ x.p.id) (hvf:∀ (w':World) (a:Option Addr) (c:Nat),LS w' → Rd w' a (bs (cmsg [1,d,v,l,ver,d])) → Pure Tryz.prog 99 [I v,.slice a 32 c,.agg #[I r,I s]] w' (.bool true)):Pure Tryz.prog 36 [.agg #[I 1,I d,I v,I l,I ver,I d,I r,I s,I x.p.id,I x.p.rk,.slice x.a x.p.gs.length x.c,I x.p.need,I x.p.cool,.map (some m)]] w (.agg #[I d,I v,I l,I ver,.bool false]):=by
  refine enterR Tryz.func36 Tryz.ntmps36 hm ?_
  refine c_seq<|c_reg<|s_box rfl fun b1=>s_alloc fun b2=>s_nil<|q_then<|c_seq<|c_reg<|s_y y_fa<|s_y (y_ld (b:=b1) (v:=.map (some m)))<|s_y y_fa<|s_y y_fa<|s_y (y_ld (b:=b1) (v:=I d))<|s_y (v:=.agg #[I 0,I 0,I 0,I 0,.bool false]) (y_lookN (c2:=false) (k:=d) (kv:=kv) hnod)<|s_alloc fun b3=>s_sta (b:=b3) (vs:=#[I 0,I 0,I 0,I 0,.bool false]) (cs:=#[I 0,I 0,I 0,I 0,.bool false]) (h1:=one_allA rfl) (hl:=rfl) (hs1:=rfl) ?_
  refine s_nil<|q_then<|c_seq<|c_reg<|s_y y_fa<|s_y y_fa<|s_y (y_ld (b:=b1) (v:=I ver))<|s_y y_fa<|s_y (y_ld (b:=b3) (v:=I 0))<|s_y (y_add (p:=0) (q:=1))<|s_kt (y_eql (p:=ver) (q:=0 + 1)) (by omega)<|s_pure (fun w' hw=>must_ok w' 370)<|s_nil<|q_then<|c_seq<|c_reg<|s_y (y_lda (b:=b1) (cs:=#[I 1,I d,I v,I l,I ver,I d,I r,I s,I x.p.id,I x.p.rk,.slice x.a x.p.gs.length x.c,I x.p.need,I x.p.cool,.map (some m)]) (hl:=rfl))<|s_y y_func<|s_y (y_lda (b:=b1) (cs:=#[I 1,I d,I v,I l,I ver,I d,I r,I s,I x.p.id,I x.p.rk,.slice x.a x.p.gs.length x.c,I x.p.need,I x.p.cool,.map (some m)]) (hl:=rfl))<|s_y y_func<|s_y (y_lda (b:=b1) (cs:=#[I 1,I d,I v,I l,I ver,I d,I r,I s,I x.p.id,I x.p.rk,.slice x.a x.p.gs.length x.c,I x.p.need,I x.p.cool,.map (some m)]) (hl:=rfl))<|s_y y_func<|s_y (y_lda (b:=b1) (cs:=#[I 1,I d,I v,I l,I ver,I d,I r,I s,I x.p.id,I x.p.rk,.slice x.a x.p.gs.length x.c,I x.p.need,I x.p.cool,.map (some m)]) (hl:=rfl))<|s_y y_func<|s_y (y_blda (cs:=[.nilFunc,.func (.func 95) #[.agg #[I 1,I d,I v,I l,I ver,I d,I r,I s,I x.p.id,I x.p.rk,.slice x.a x.p.gs.length x.c,I x.p.need,I x.p.cool,.map (some m)]] #[],.func (.func 96) #[.agg #[I 1,I d,I v,I l,I ver,I d,I r,I s,I x.p.id,I x.p.rk,.slice x.a x.p.gs.length x.c,I x.p.need,I x.p.cool,.map (some m)]] #[],.func (.func 97) #[.agg #[I 1,I d,I v,I l,I ver,I d,I r,I s,I x.p.id,I x.p.rk,.slice x.a x.p.gs.length x.c,I x.p.need,I x.p.cool,.map (some m)]] #[],.func (.func 98) #[.agg #[I 1,I d,I v,I l,I ver,I d,I r,I s,I x.p.id,I x.p.rk,.slice x.a x.p.gs.length x.c,I x.p.need,I x.p.cool,.map (some m)]] #[]]))<|s_alloc fun b4=>s_sta (b:=b4) (vs:=#[.nilFunc,.func (.func 95) #[.agg #[I 1,I d,I v,I l,I ver,I d,I r,I s,I x.p.id,I x.p.rk,.slice x.a x.p.gs.length x.c,I x.p.need,I x.p.cool,.map (some m)]] #[],.func (.func 96) #[.agg #[I 1,I d,I v,I l,I ver,I d,I r,I s,I x.p.id,I x.p.rk,.slice x.a x.p.gs.length x.c,I x.p.need,I x.p.cool,.map (some m)]] #[],.func (.func 97) #[.agg #[I 1,I d,I v,I l,I ver,I d,I r,I s,I x.p.id,I x.p.rk,.slice x.a x.p.gs.length x.c,I x.p.need,I x.p.cool,.map (some m)]] #[],.func (.func 98) #[.agg #[I 1,I d,I v,I l,I ver,I d,I r,I s,I x.p.id,I x.p.rk,.slice x.a x.p.gs.length x.c,I x.p.need,I x.p.cool,.map (some m)]] #[]]) (cs:=(List.replicate 5 (.nilFunc)).toArray) (h1:=one_allA rfl) (hl:=rfl) (hs1:=rfl) ?_
  refine s_nil<|q_then<|c_seq<|c_regL [.blk b4 (.cells #[.nilFunc,.func (.func 95) #[.agg #[I 1,I d,I v,I l,I ver,I d,I r,I s,I x.p.id,I x.p.rk,.slice x.a x.p.gs.length x.c,I x.p.need,I x.p.cool,.map (some m)]] #[],.func (.func 96) #[.agg #[I 1,I d,I v,I l,I ver,I d,I r,I s,I x.p.id,I x.p.rk,.slice x.a x.p.gs.length x.c,I x.p.need,I x.p.cool,.map (some m)]] #[],.func (.func 97) #[.agg #[I 1,I d,I v,I l,I ver,I d,I r,I s,I x.p.id,I x.p.rk,.slice x.a x.p.gs.length x.c,I x.p.need,I x.p.cool,.map (some m)]] #[],.func (.func 98) #[.agg #[I 1,I d,I v,I l,I ver,I d,I r,I s,I x.p.id,I x.p.rk,.slice x.a x.p.gs.length x.c,I x.p.need,I x.p.cool,.map (some m)]] #[]] 176 (0,0)),.blk b3 (.cells #[I 0,I 0,I 0,I 0,.bool false] 49 (0,0)),.blk b2 (.cells #[I 0,I 0,I 0,I 0,.bool false] 49 (0,0)),.blk b1 (.cells #[I 1,I d,I v,I l,I ver,I d,I r,I s,I x.p.id,I x.p.rk,.slice x.a x.p.gs.length x.c,I x.p.need,I x.p.cool,.map (some m)] 92 (0,0)),mblk m kv]<|r_y 0 rfl y_fa<|r_y 1 rfl y_fa<|r_y 2 rfl (y_ld (b:=b1) (v:=I 1))<|r_y 3 rfl y_ixa1<|r_y 4 rfl (y_ld (b:=b4) (v:=.func (.func 95) #[.agg #[I 1,I d,I v,I l,I ver,I d,I r,I s,I x.p.id,I x.p.rk,.slice x.a x.p.gs.length x.c,I x.p.need,I x.p.cool,.map (some m)]] #[]))<|r_y 6 rfl y_fa<|r_y 7 rfl (y_ldin (b:=b1) (off:=0) (cs:=#[I 1,I d,I v,I l,I ver,I d,I r,I s,I x.p.id,I x.p.rk,.slice x.a x.p.gs.length x.c,I x.p.need,I x.p.cool,.map (some m)]) (ys:=[I 1,I d,I v,I l,I ver,I d,I r,I s]) (hl:=rfl) (hv:=at_sub rfl))<|r_y 9 rfl y_fa<|r_y 10 rfl y_fa<|r_y 11 rfl (y_ldin (b:=b1) (off:=6) (cs:=#[I 1,I d,I v,I l,I ver,I d,I r,I s,I x.p.id,I x.p.rk,.slice x.a x.p.gs.length x.c,I x.p.need,I x.p.cool,.map (some m)]) (ys:=[I r,I s]) (hl:=rfl) (hv:=at_sub rfl))<|r_W 5 rfl<|s_pure (fun w' hw=>first_ok w' d v l ver r s x m kv (hw.own _ (.tail _ (.tail _ (.tail _ (.tail _ (.head _)))))).1 hfr)<|r_K<|r_W 8 rfl<|s_gives (fun w' hw=>pMsg_ok w' 1 d v l ver d r s (hg.stM hw hm) hR) fun (x36:Nat) _=>r_K<|r_W 12 rfl<|s_pure (fun w' hw=>hvf w' (some ⟨x36,0,none⟩) 32 (hg.stM hw hm) (rd_blkB (e:=69) (.head _) w' hw))<|r_K<|r_W 13 rfl<|s_pure (fun w' hw=>must_ok w' 222)<|r_K<|r_E<|q_then<|c_seq<|c_seq<|c_reg<|s_y y_fa<|s_y y_fa<|s_y (y_ld (b:=b1) (v:=I 1))<|s_kf (y_eql (p:=1) (q:=4)) (by omega)<|s_nil<|q_then<|c_f<|c_skip<|q_then<|c_seq<|c_reg<|s_y y_fa<|s_y y_fa<|s_y (y_ld (b:=b1) (v:=I d))<|s_y y_fa<|s_y y_fa<|s_y (y_ld (b:=b1) (v:=I v))<|s_y y_fa<|s_y y_fa<|s_y (y_ld (b:=b1) (v:=I l))<|s_y y_fa<|s_y y_fa<|s_y (y_ld (b:=b1) (v:=I ver))<|s_y (y_blst (cs:=[I d,I v,I l,I ver,.bool false]))<|s_sta (b:=b2) (vs:=#[I d,I v,I l,I ver,.bool false]) (cs:=#[I 0,I 0,I 0,I 0,.bool false]) (h1:=one_allA rfl) (hl:=rfl) (hs1:=rfl) ?_
  refine s_nil<|q_then<|c_ret<|?_
  exact ret1 Tryz.results36 (rv_ca (b:=b2) (cs:=#[I d,I v,I l,I ver,.bool false]) (hl:=rfl)) fun w' hw=>⟨rfl,(hw.sub (l':=[mblk m kv]) (by repeat (first | exact List.nil_sublist _ | exact List.Sublist.refl _ | apply List.Sublist.cons_cons | apply List.Sublist.cons))).unb hm⟩
theorem verify3_ok (w:World) (d v l ver r s:Int) (x:PA) (m:Nat) (kv:List (Int × Value)) (hg:LS w) (hm:(mblk m kv).holds w) (hnod:∀ p ∈ kv,p.1 ≠ d) (hver:ver = 1) (hR:∀ n ∈ [(3:Int),d,v,l,ver,(-1)],R64 n) (hvf:∀ (w':World) (a:Option Addr) (c:Nat),LS w' → Rd w' a (bs (cmsg [3,d,v,l,ver,-1])) → Pure Tryz.prog 99 [I x.p.rk,.slice a 32 c,.agg #[I r,I s]] w' (.bool true)):Pure Tryz.prog 36 [.agg #[I 3,I d,I v,I l,I ver,I (-1),I r,I s,I x.p.id,I x.p.rk,.slice x.a x.p.gs.length x.c,I x.p.need,I x.p.cool,.map (some m)]] w (.agg #[I d,I v,I l,I ver,.bool false]):=by
  refine enterR Tryz.func36 Tryz.ntmps36 hm ?_
  refine c_seq<|c_reg<|s_box rfl fun b1=>s_alloc fun b2=>s_nil<|q_then<|c_seq<|c_reg<|s_y y_fa<|s_y (y_ld (b:=b1) (v:=.map (some m)))<|s_y y_fa<|s_y y_fa<|s_y (y_ld (b:=b1) (v:=I d))<|s_y (v:=.agg #[I 0,I 0,I 0,I 0,.bool false]) (y_lookN (c2:=false) (k:=d) (kv:=kv) hnod)<|s_alloc fun b3=>s_sta (b:=b3) (vs:=#[I 0,I 0,I 0,I 0,.bool false]) (cs:=#[I 0,I 0,I 0,I 0,.bool false]) (h1:=one_allA rfl) (hl:=rfl) (hs1:=rfl) ?_
  refine s_nil<|q_then<|c_seq<|c_reg<|s_y y_fa<|s_y y_fa<|s_y (y_ld (b:=b1) (v:=I ver))<|s_y y_fa<|s_y (y_ld (b:=b3) (v:=I 0))<|s_y (y_add (p:=0) (q:=1))<|s_kt (y_eql (p:=ver) (q:=0 + 1)) (by omega)<|s_pure (fun w' hw=>must_ok w' 370)<|s_nil<|q_then<|c_seq<|c_reg<|s_y (y_lda (b:=b1) (cs:=#[I 3,I d,I v,I l,I ver,I (-1),I r,I s,I x.p.id,I x.p.rk,.slice x.a x.p.gs.length x.c,I x.p.need,I x.p.cool,.map (some m)]) (hl:=rfl))<|s_y y_func<|s_y (y_lda (b:=b1) (cs:=#[I 3,I d,I v,I l,I ver,I (-1),I r,I s,I x.p.id,I x.p.rk,.slice x.a x.p.gs.length x.c,I x.p.need,I x.p.cool,.map (some m)]) (hl:=rfl))<|s_y y_func<|s_y (y_lda (b:=b1) (cs:=#[I 3,I d,I v,I l,I ver,I (-1),I r,I s,I x.p.id,I x.p.rk,.slice x.a x.p.gs.length x.c,I x.p.need,I x.p.cool,.map (some m)]) (hl:=rfl))<|s_y y_func<|s_y (y_lda (b:=b1) (cs:=#[I 3,I d,I v,I l,I ver,I (-1),I r,I s,I x.p.id,I x.p.rk,.slice x.a x.p.gs.length x.c,I x.p.need,I x.p.cool,.map (some m)]) (hl:=rfl))<|s_y y_func<|s_y (y_blda (cs:=[.nilFunc,.func (.func 95) #[.agg #[I 3,I d,I v,I l,I ver,I (-1),I r,I s,I x.p.id,I x.p.rk,.slice x.a x.p.gs.length x.c,I x.p.need,I x.p.cool,.map (some m)]] #[],.func (.func 96) #[.agg #[I 3,I d,I v,I l,I ver,I (-1),I r,I s,I x.p.id,I x.p.rk,.slice x.a x.p.gs.length x.c,I x.p.need,I x.p.cool,.map (some m)]] #[],.func (.func 97) #[.agg #[I 3,I d,I v,I l,I ver,I (-1),I r,I s,I x.p.id,I x.p.rk,.slice x.a x.p.gs.length x.c,I x.p.need,I x.p.cool,.map (some m)]] #[],.func (.func 98) #[.agg #[I 3,I d,I v,I l,I ver,I (-1),I r,I s,I x.p.id,I x.p.rk,.slice x.a x.p.gs.length x.c,I x.p.need,I x.p.cool,.map (some m)]] #[]]))<|s_alloc fun b4=>s_sta (b:=b4) (vs:=#[.nilFunc,.func (.func 95) #[.agg #[I 3,I d,I v,I l,I ver,I (-1),I r,I s,I x.p.id,I x.p.rk,.slice x.a x.p.gs.length x.c,I x.p.need,I x.p.cool,.map (some m)]] #[],.func (.func 96) #[.agg #[I 3,I d,I v,I l,I ver,I (-1),I r,I s,I x.p.id,I x.p.rk,.slice x.a x.p.gs.length x.c,I x.p.need,I x.p.cool,.map (some m)]] #[],.func (.func 97) #[.agg #[I 3,I d,I v,I l,I ver,I (-1),I r,I s,I x.p.id,I x.p.rk,.slice x.a x.p.gs.length x.c,I x.p.need,I x.p.cool,.map (some m)]] #[],.func (.func 98) #[.agg #[I 3,I d,I v,I l,I ver,I (-1),I r,I s,I x.p.id,I x.p.rk,.slice x.a x.p.gs.length x.c,I x.p.need,I x.p.cool,.map (some m)]] #[]]) (cs:=(List.replicate 5 (.nilFunc)).toArray) (h1:=one_allA rfl) (hl:=rfl) (hs1:=rfl) ?_
  refine s_nil<|q_then<|c_seq<|c_regL [.blk b4 (.cells #[.nilFunc,.func (.func 95) #[.agg #[I 3,I d,I v,I l,I ver,I (-1),I r,I s,I x.p.id,I x.p.rk,.slice x.a x.p.gs.length x.c,I x.p.need,I x.p.cool,.map (some m)]] #[],.func (.func 96) #[.agg #[I 3,I d,I v,I l,I ver,I (-1),I r,I s,I x.p.id,I x.p.rk,.slice x.a x.p.gs.length x.c,I x.p.need,I x.p.cool,.map (some m)]] #[],.func (.func 97) #[.agg #[I 3,I d,I v,I l,I ver,I (-1),I r,I s,I x.p.id,I x.p.rk,.slice x.a x.p.gs.length x.c,I x.p.need,I x.p.cool,.map (some m)]] #[],.func (.func 98) #[.agg #[I 3,I d,I v,I l,I ver,I (-1),I r,I s,I x.p.id,I x.p.rk,.slice x.a x.p.gs.length x.c,I x.p.need,I x.p.cool,.map (some m)]] #[]] 176 (0,0)),.blk b3 (.cells #[I 0,I 0,I 0,I 0,.bool false] 49 (0,0)),.blk b2 (.cells #[I 0,I 0,I 0,I 0,.bool false] 49 (0,0)),.blk b1 (.cells #[I 3,I d,I v,I l,I ver,I (-1),I r,I s,I x.p.id,I x.p.rk,.slice x.a x.p.gs.length x.c,I x.p.need,I x.p.cool,.map (some m)] 92 (0,0)),mblk m kv]<|r_y 0 rfl y_fa<|r_y 1 rfl y_fa<|r_y 2 rfl (y_ld (b:=b1) (v:=I 3))<|r_y 3 rfl y_ixa1<|r_y 4 rfl (y_ld (b:=b4) (v:=.func (.func 97) #[.agg #[I 3,I d,I v,I l,I ver,I (-1),I r,I s,I x.p.id,I x.p.rk,.slice x.a x.p.gs.length x.c,I x.p.need,I x.p.cool,.map (some m)]] #[]))<|r_y 6 rfl y_fa<|r_y 7 rfl (y_ldin (b:=b1) (off:=0) (cs:=#[I 3,I d,I v,I l,I ver,I (-1),I r,I s,I x.p.id,I x.p.rk,.slice x.a x.p.gs.length x.c,I x.p.need,I x.p.cool,.map (some m)]) (ys:=[I 3,I d,I v,I l,I ver,I (-1),I r,I s]) (hl:=rfl) (hv:=at_sub rfl))<|r_y 9 rfl y_fa<|r_y 10 rfl y_fa<|r_y 11 rfl (y_ldin (b:=b1) (off:=6) (cs:=#[I 3,I d,I v,I l,I ver,I (-1),I r,I s,I x.p.id,I x.p.rk,.slice x.a x.p.gs.length x.c,I x.p.need,I x.p.cool,.map (some m)]) (ys:=[I r,I s]) (hl:=rfl) (hv:=at_sub rfl))<|r_W 5 rfl<|s_pure (fun w' hw=>trestore_ok w' d v l ver r s x m)<|r_K<|r_W 8 rfl<|s_gives (fun w' hw=>pMsg_ok w' 3 d v l ver (-1) r s (hg.stM hw hm) hR) fun (x36:Nat) _=>r_K<|r_W 12 rfl<|s_pure (fun w' hw=>hvf w' (some ⟨x36,0,none⟩) 32 (hg.stM hw hm) (rd_blkB (e:=69) (.head _) w' hw))<|r_K<|r_W 13 rfl<|s_pure (fun w' hw=>must_ok w' 222)<|r_K<|r_E<|q_then<|c_seq<|c_seq<|c_reg<|s_y y_fa<|s_y y_fa<|s_y (y_ld (b:=b1) (v:=I 3))<|s_kf (y_eql (p:=3) (q:=4)) (by omega)<|s_nil<|q_then<|c_f<|c_skip<|q_then<|c_seq<|c_reg<|s_y y_fa<|s_y y_fa<|s_y (y_ld (b:=b1) (v:=I d))<|s_y y_fa<|s_y y_fa<|s_y (y_ld (b:=b1) (v:=I v))<|s_y y_fa<|s_y y_fa<|s_y (y_ld (b:=b1) (v:=I l))<|s_y y_fa<|s_y y_fa<|s_y (y_ld (b:=b1) (v:=I ver))<|s_y (y_blst (cs:=[I d,I v,I l,I ver,.bool false]))<|s_sta (b:=b2) (vs:=#[I d,I v,I l,I ver,.bool false]) (cs:=#[I 0,I 0,I 0,I 0,.bool false]) (h1:=one_allA rfl) (hl:=rfl) (hs1:=rfl) ?_
  refine s_nil<|q_then<|c_ret<|?_
  exact ret1 Tryz.results36 (rv_ca (b:=b2) (cs:=#[I d,I v,I l,I ver,.bool false]) (hl:=rfl)) fun w' hw=>⟨rfl,(hw.sub (l':=[mblk m kv]) (by repeat (first | exact List.nil_sublist _ | exact List.Sublist.refl _ | apply List.Sublist.cons_cons | apply List.Sublist.cons))).unb hm⟩
theorem Acc2_ok (w:World) (x:PA) (b:Nat) (kd d v l ver by' r s:Int) (hd:0 ≤ d) (hd2:d < 512) (hb:Rd w (some ⟨b,0,none⟩) [I kd,I d,I v,I l,I ver,I by',I r,I s]):Pure Tryz.prog 34 ([.agg x.cell.toArray] ++ [.pointer (some ⟨b,0,none⟩)]) w (.bool (decide (x.p.id = d / 8))):=by
  refine enter Tryz.func34 Tryz.ntmps34 ?_
  refine c_seq<|c_reg<|s_box rfl fun b2=>s_y y_as<|s_nil<|q_then<|c_seq<|c_reg<|s_y y_fa<|s_y (y_ld (b:=b2) (v:=I x.p.id))<|s_y y_fa<|s_y (y_ldr (a:=some ⟨b,0,none⟩) (i:=1) (xs:=[I kd,I d,I v,I l,I ver,I by',I r,I s]) (v:=I d) rfl (hr:=rdW0 hb))<|s_y (y_quo (p:=d) (q:=8))<|s_y (y_eql (p:=x.p.id) (q:=d / 8))<|s_y y_as<|s_nil<|q_then<|c_ret<|?_
  exact ret1 Tryz.results34 rv_t fun w' hw=>⟨rfl,hw.sub (List.nil_sublist _)⟩
theorem rcAcc_R (w:World) (x y:Value):GivesD Tryz.prog 30 [x,y] .returning w [] .returning []:=by
  have hnn:∀ w:World,(binOp .neq 20 .nilIface .nilIface).run Tryz.prog w = .ok (.bool false) w:=fun _=>by kernel_rfl
  have h:CallsD Tryz.prog 30 #[x,y] .returning w fun e u' w'=>e = .returned (.tuple #[]) ∧ u' = .returning ∧ w' = w:=by
    refine callsD_of_wpS Tryz.func30 rfl fun c₀ cs hu=>?_
    apply wpS_seq
    apply wpS_region
    simp [wpOpsS,go_sem,recoverD,hu,hnn,Tryz.ntmps30,Exit.thenS]
    apply wpS_seq
    apply wpS_region
    simp [wpOpsS,go_sem,recoverD,hu,hnn,Tryz.ntmps30,Exit.thenS]
    refine wpS_cond (t:=false) (by simp [Act.eval,Array.replicate]) ?_
    simp only [Bool.false_eq_true,if_false]
    refine wpS_of_wp (wp_skip ?_)
    cases c₀
    simp_all [bodyPostS,results,Tryz.results30]
  exact h.mono fun e u' w' ⟨h1,h2,h3⟩=>⟨h1,h2,h3 ▸ St.refl w⟩
end Go.Proofs.YtegfmbefhpagmaaGreatDoor
end
section
namespace Tp
open Go Eng Gf Sha Sig Wr Cod Cha Rst Go.Proofs.YtegfmbefhpagmaaGreatDoor
theorem fidx_pa {U:List PA} {i:Nat} {x:PA} {d:Int} (hnd:(U.map fun z=>z.p.id).Nodup) (hx:U[i]? = some x) (hd:x.p.id = d):fidx (fun z:PA=>decide (z.p.id = d)) U = (i:Int):=by
  obtain ⟨hi,he⟩:=List.getElem?_eq_some_iff.1 hx
  refine fidx_hit (d:=default) hi (fun j hj=>?_) ?_
  · rw [List.getD_eq_getElem?_getD,List.getElem?_eq_getElem (by omega)]
    have:=List.pairwise_iff_getElem.1 hnd j i (by rw [List.length_map]; omega) (by rw [List.length_map]; omega) hj
    rw [List.getElem_map,List.getElem_map,he,hd] at this
    simpa using this
  · rw [List.getD_eq_getElem?_getD,hx]; simpa using hd
def kvr (X:List Ls):List (Int × Value):=X.reverse.map fun z=>(z.d,.agg #[I z.d,I z.v,I z.l,I z.ver,.bool z.gone])
theorem kvr_step {X:List Ls} {i:Nat} {z:Ls} (hz:X[i]? = some z):kvr (X.drop i) = kvr (X.drop (i + 1)) ++ [(z.d,.agg #[I z.d,I z.v,I z.l,I z.ver,.bool z.gone])]:=by
  obtain ⟨hi,rfl⟩:=List.getElem?_eq_some_iff.1 hz
  rw [List.drop_eq_getElem_cons hi]
  unfold kvr
  rw [List.reverse_cons,List.map_append]; rfl
theorem kvr_all {X:List Ls} {P:Int → Prop} (h:∀ z ∈ X,P z.d):∀ p ∈ kvr X,P p.1:=fun p hp=>by
  obtain ⟨z,hz,rfl⟩:=List.mem_map.1 hp
  exact h z (List.mem_reverse.1 hz)
theorem kvr_no {X:List Ls} {d:Int} (h:∀ z ∈ X,z.d ≠ d):∀ p ∈ kvr X,p.1 ≠ d:=kvr_all (P:=fun e=>e ≠ d) h
theorem kvr_fresh {X:List Ls} {i:Nat} {z:Ls} (hX:(X.map Ls.d).Nodup) (hz:X[i]? = some z):∀ p ∈ kvr (X.drop (i + 1)),p.1 ≠ z.d:=kvr_no fun y hy=>by
  obtain ⟨j,hj,rfl⟩:=List.getElem_of_mem hy
  obtain ⟨hi,rfl⟩:=List.getElem?_eq_some_iff.1 hz
  rw [List.length_drop] at hj
  rw [List.getElem_drop]
  have:=List.pairwise_iff_getElem.1 hX i (i + 1 + j) (by rw [List.length_map]; omega) (by rw [List.length_map]; omega) (by omega)
  rw [List.getElem_map,List.getElem_map] at this
  exact fun e=>this e.symm
end Tp
namespace Go.Proofs.YtegfmbefhpagmaaGreatDoor
open Go Eng Gf Sha Sig Wr Cod Cha Rst Tp
set_option maxRecDepth 100000
set_option linter.all false
theorem y_btr {n:Nat} {D:List Deferred} {W:World} {Bo:List Nat} {F:List (Nat × Value)} {l:SH} {d:Option Tmp} {ty:TypeId} {ps:String} {af:Array Edge} {g:Option (Nat × Bool)} {parts:Array (Nat × Operand)} {vs:List (Nat × Value)} {cs:List Value}
    (hp:evP F parts.toList = some vs:=by rfl) (hf:fillL (fun i=>(#[(0,8),(8,5),(13,1)]:Array (Nat × Nat))[i]?) [I 0,I 0,I 0,I 0,I 0,I 0,I 0,I 0,I 0,I 0,.slice none 0 0,I 0,I 0,.map none] vs = some cs:=by rfl) :
    Y Tryz.prog n D W Bo ⟨d,.build 92 parts,ty,ps,af,g⟩ F l (.agg cs.toArray) :=
  y_blds Tryz.underlying92 (fun w=>by kernel_rfl) hp hf
theorem BackwardL_ok (w:World) (pa:Option Addr) (n pc:Nat):Gives Tryz.prog 35 [.slice pa n pc] w [] (fun y:Nat=>.func (.func 94) #[] #[.pointer (some ⟨y,0,none⟩)]) (fun y=>[.blk y (.cells #[.slice pa n pc] 33 (0,0))]) (fun _=>True):=by
  refine enter Tryz.func35 Tryz.ntmps35 ?_
  refine c_seq<|c_reg<|s_box rfl fun b1=>s_y y_as<|s_nil<|q_then<|c_seq<|c_reg<|s_y y_func<|s_y y_as<|s_nil<|q_then<|c_ret<|?_
  exact ret1 Tryz.results35 rv_t fun w' hw=>⟨b1,trivial,rfl,hw⟩
theorem backwardL1_ok (w':World) (rc:Loop) (Lp b1:Nat) (pa:Option Addr) (pc n:Nat) (q:List Ls) (M:Nat → SH) (hn:q.length = n) (hs:∀ p ∈ M n,p.holds w') (hnd:(keys (M n)).Nodup) (hpz:rc.params.size = 2)
    (hL:∀ i,Res.blk Lp (.loop rc) ∈ M i) (h1:∀ i,Res.blk b1 (.cells #[.slice pa n pc] 33 (0,0)) ∈ M i) (hrd:∀ i,RdS w' (keys (M n)) (M i) pa (lsc q)) (hl:n ≤ 1000000)
    (hround:∀ (i:Nat) (z:Ls) (_:q[i]? = some z) (w2:World),St w' (keys (M n)) w2 (M (i + 1)) →
      RoundIn (Fw none) 0 Tryz.prog Lp rc.fn ((rc.params.zip #[I i,.agg #[I z.d,I z.v,I z.l,I z.ver,.bool z.gone]]).foldl (fun tmps (t,a)=>tmps.setIfInBounds t a) rc.tmps) rc.assign rc.body w2 fun e' w3=>∃ _:Unit,True ∧ e' = .returned (.bool true) ∧ St w' (keys (M n)) w3 (M i)) :
    Calls Tryz.prog 94 #[.func (.yield Lp) #[] #[],.pointer (some ⟨b1,0,none⟩)] w' fun e' w2=>(∃ v,e' = .returned v) ∧ St w' (keys (M n)) w2 (M 0):=by
  refine enterL (args:=[.func (.yield Lp) #[] #[],.pointer (some ⟨b1,0,none⟩)]) Tryz.func94 Tryz.ntmps94 hs hnd ?_
  refine c_seq<|c_reg<|s_y (y_ld (b:=b1) (hm:=h1 _) (v:=.slice pa n pc))<|s_y y_len<|s_y (y_sub (p:=((n:Nat):Int)) (q:=1))<|s_y y_as<|s_nil<|q_then<|c_block<|?_
  refine c_loop (fun j:Nat=>[(0,.func (.yield Lp) #[] #[]),(1,.pointer (some ⟨b1,0,none⟩)),(3,I ((j:Int) - 1))]) M (fun j=>j ≤ n) (fun j=>j) n (Nat.le_refl _) ⟨rfl,rfl,rfl,trivial⟩ (.refl _) ?_
  intro j hj
  by_cases h0:j = 0
  · subst h0
    refine c_seq<|c_seq<|c_reg<|s_y y_mv<|s_kf (y_geq (p:=((0:Nat):Int) - 1) (q:=0)) (by omega)<|s_nil<|q_then<|c_f<|c_exit<|q_ex<|q_ex<|q_exb<|?_
    exact ret0 Tryz.results94 (fun w2 h2=>⟨⟨_,rfl⟩,h2⟩) _ (.inr rfl)
  · obtain ⟨i,rfl⟩:∃ i,j = i + 1:=⟨j - 1,by omega⟩
    obtain ⟨z,hz⟩:∃ z,q[i]? = some z:=⟨_,List.getElem?_eq_getElem (by omega)⟩
    rw [show ((i + 1:Nat):Int) - 1 = ((i:Nat):Int) by omega]
    refine c_seq<|c_seq<|c_reg<|s_y y_mv<|s_kt (y_geq (p:=((i:Nat):Int)) (q:=0)) (by omega)<|s_nil<|q_then<|c_t<|c_skip<|q_then<|c_seq<|c_block<|c_seq<|c_reg<|s_y y_mv<|s_y y_mv<|s_y (y_ld (b:=b1) (hm:=h1 _) (v:=.slice pa n pc))<|s_y y_mv<|s_y (y_ixs (xs:=lsc q) (i:=((i:Nat):Int)) (hr:=hrd _) (hl:=by rw [lsc_length]; omega))<|s_y (y_ldra (i:=i * 5) (cs:=[I z.d,I z.v,I z.l,I z.ver,.bool z.gone]) (hrd _) rfl (fun j v h=>lsc_at hz h))<|?_
    refine s_yield2 (L:=Lp) (rc:=rc) (σ:=Unit) (fun _=>.bool true) (fun _=>M i) (fun _=>True) (hL _) hpz (fun w2 h2=>hround i z hz w2 h2) (fun _ _=>?_)
    refine s_y (v:=.bool false) (y_not (b:=true))<|s_nil<|q_then<|c_f<|c_skip<|q_nb<|q_then<|c_reg<|s_y y_mv<|s_y (y_sub (p:=((i:Nat):Int)) (q:=1))<|s_y y_as<|s_nil<|?_
    exact q_round i (by omega) (by omega) ⟨rfl,rfl,rfl,trivial⟩ (.refl _)
theorem Accept1_ok (w:World) (d v l r s:Int) (U:List PA) (X:List Ls) (x:PA) (i:Nat) (ua la:Option Addr) (n uc m0 lc:Nat) (hg:LS w) (hu:Rd w ua (pnc U)) (hgr:∀ x ∈ U,Rd w x.a (is x.p.gs)) (hn:U.length = n) (hUl:n ≤ 1000000) (hU:PsOk U) (hx:Rd w la (lsc X)) (hXn:X.length = m0) (hXl:m0 ≤ 1000000) (hXd:(X.map Ls.d).Nodup) (hnod:∀ z ∈ X,z.d ≠ d) (hcr:CrRt d v l 1) (hxi:U[i]? = some x) (hxid:x.p.id = d / 8) (hfr:∀ z ∈ X,0 ≤ z.d ∧ z.d < 512 ∧ z.d / 8 ≠ x.p.id)
    (hvf:∀ (w':World) (a:Option Addr) (c:Nat),LS w' → Rd w' a (bs (cmsg [1,d,v,l,1,d])) → Pure Tryz.prog 99 [I v,.slice a 32 c,.agg #[I r,I s]] w' (.bool true)) :
    Pure Tryz.prog 9 [.slice ua n uc,.slice la m0 lc,.agg #[I 1,I d,I v,I l,I 1,I d,I r,I s]] w (.tuple #[.agg #[I d,I v,I l,I 1,.bool false],I 0]):=by
  have hd0:=hcr.d
  have hR:∀ n ∈ [(1:Int),d,v,l,1,d],R64 n:=hcr.r64 (by unfold R64; omega) (by unfold R64; omega)
  have hfi:=fidx_pa hU.nd hxi hxid
  have hin:i < n:=by have:=(List.getElem?_eq_some_iff.1 hxi).1; omega
  refine enterW Tryz.func9 Tryz.ntmps9 (g_cp ?_)
  refine c_seq<|c_reg<|s_box rfl fun b5=>s_alloc fun b6=>s_alloc fun b7=>s_nil<|q_then<|c_seq<|c_reg<|s_y y_func<|s_deferC<|s_nil<|q_then<|c_seq<|c_reg<|s_y y_mv<|s_pure (fun w' hw=>pCheck_ok w' U ua n uc (hu.st hw) (fun x hx=>(hgr x hx).st hw) hn hUl hU)<|s_y y_as<|s_nil<|q_then<|c_seq<|c_reg<|s_y y_mv<|s_kt (y_eql (p:=0) (q:=0)) (by trivial)<|s_y y_mv<|s_pure (fun w' hw=>must_ok w' 0)<|s_nil<|q_then<|c_seq<|c_reg<|s_y (y_lda (b:=b5) (cs:=#[I 1,I d,I v,I l,I 1,I d,I r,I s]) (hl:=rfl))<|s_pure (fun w' hw=>(by have h9:=formed1_ok w' d v l 1 r s; rw [crB_t.2 hcr] at h9; exact h9))<|s_pure (fun w' hw=>must_ok w' 370)<|s_nil<|q_then<|c_seq<|c_reg<|s_y y_mv<|s_y y_func<|s_pure (fun w' hw=>(by
    have h9:=IxF_PA w' ua uc U 34 [.pointer (some ⟨b5,0,none⟩)] (fun z:PA=>decide (z.p.id = d / 8)) (hu.st hw) (by omega) (fun z _ w2 h2=>Acc2_ok w2 z b5 1 d v l 1 d r s hd0.1 hd0.2 ((rdB (xs:=[I 1,I d,I v,I l,I 1,I d,I r,I s]) (.tail _ (.tail _ (.head _))) (fun i u h=>by rw [Nat.zero_add]; show (#[I 1,I d,I v,I l,I 1,I d,I r,I s])[i]? = some u; simpa using h) w' hw:Rd w' _ _).st h2))
    rw [hfi,hn] at h9
    exact h9))<|s_y y_as<|s_nil<|q_then<|c_seq<|c_reg<|s_y y_mv<|s_kt (y_geq (p:=((i:Nat):Int)) (q:=0)) (by omega)<|s_pure (fun w' hw=>must_ok w' 371)<|s_nil<|q_then<|c_seq<|?_
  refine c_cut (R:=fun a' w'=>∃ (m b10:Nat),Fr 47 [(0,.slice ua n uc),(1,.slice la m0 lc),(5,.pointer (some ⟨b5,0,none⟩)),(6,.pointer (some ⟨b6,0,none⟩)),(7,.pointer (some ⟨b7,0,none⟩)),(10,.pointer (some ⟨b10,0,none⟩))] [{ target:=.fn (.func 30) #[.pointer (some ⟨b6,0,none⟩),.pointer (some ⟨b7,0,none⟩)],args:=#[] }] a' ∧ St w [] w' [.blk b10 (.cells #[I 1,I d,I v,I l,I 1,I d,I r,I s,I x.p.id,I x.p.rk,.slice x.a x.p.gs.length x.c,I x.p.need,I x.p.cool,.map (some m)] 92 (0,0)),mblk m [],.blk b7 (.cells #[I 0] 29 (0,0)),.blk b6 (.cells #[I 0,I 0,I 0,I 0,.bool false] 49 (0,0)),.blk b5 (.cells #[I 1,I d,I v,I l,I 1,I d,I r,I s] 45 (0,0))]) ?_ ?_
  · refine c_regL [.blk b5 (.cells #[I 1,I d,I v,I l,I 1,I d,I r,I s] 45 (0,0))]<|r_y 0 rfl (y_lda (b:=b5) (cs:=#[I 1,I d,I v,I l,I 1,I d,I r,I s]) (hl:=rfl))<|r_y 1 rfl y_mv<|r_y 2 rfl y_mv<|r_y 3 rfl (y_ixs (xs:=pnc U) (i:=((i:Nat):Int)) (hr:=rdW0 hu) (hl:=by rw [pnc_length]; omega))<|r_y 4 rfl (y_ldra (i:=i * 5) (cs:=[I x.p.id,I x.p.rk,.slice x.a x.p.gs.length x.c,I x.p.need,I x.p.cool]) (rdW0 hu) rfl (fun j v h=>pnc_at hxi h))<|r_w2 5 7 rfl rfl ?_ ?_ (hsub:=by repeat (first | exact List.nil_sublist _ | exact List.Sublist.refl _ | apply List.Sublist.cons_cons | apply List.Sublist.cons))
    · refine s_mkmap (.inl rfl) fun m=>r_K<|r_y 6 rfl (y_btr (cs:=[I 1,I d,I v,I l,I 1,I d,I r,I s,I x.p.id,I x.p.rk,.slice x.a x.p.gs.length x.c,I x.p.need,I x.p.cool,.map (some m)]))<|r_W 7 rfl<|s_alloc fun b10=>r_K<|r_W 8 rfl<|s_sta (b:=b10) (vs:=#[I 1,I d,I v,I l,I 1,I d,I r,I s,I x.p.id,I x.p.rk,.slice x.a x.p.gs.length x.c,I x.p.need,I x.p.cool,.map (some m)]) (cs:=#[I 0,I 0,I 0,I 0,I 0,I 0,I 0,I 0,I 0,I 0,.slice none 0 0,I 0,I 0,.map none]) (h1:=one_allA rfl) (hl:=rfl) (hs1:=rfl) ?_
      refine r_K<|r_E ?_
      exact fun a' w' ha hw=>⟨rfl,m,b10,ha.weaken ⟨rfl,rfl,rfl,rfl,rfl,rfl,trivial⟩,hw⟩
    · refine s_alloc fun b10=>r_K<|r_W 5 rfl<|s_mkmap (.inl rfl) fun m=>r_K<|r_y 6 rfl (y_btr (cs:=[I 1,I d,I v,I l,I 1,I d,I r,I s,I x.p.id,I x.p.rk,.slice x.a x.p.gs.length x.c,I x.p.need,I x.p.cool,.map (some m)]))<|r_W 8 rfl<|s_sta (b:=b10) (vs:=#[I 1,I d,I v,I l,I 1,I d,I r,I s,I x.p.id,I x.p.rk,.slice x.a x.p.gs.length x.c,I x.p.need,I x.p.cool,.map (some m)]) (cs:=#[I 0,I 0,I 0,I 0,I 0,I 0,I 0,I 0,I 0,I 0,.slice none 0 0,I 0,I 0,.map none]) (h1:=one_allA rfl) (hl:=rfl) (hs1:=rfl) ?_
      refine r_K<|r_E ?_
      exact fun a' w' ha hw=>⟨rfl,m,b10,ha.weaken ⟨rfl,rfl,rfl,rfl,rfl,rfl,trivial⟩,hw.perm (.swap _ _ _)⟩
  rintro a9 w9 ⟨m,b10,ha9,hw9⟩
  refine (show CP none Tryz.prog 47 [{ target:=.fn (.func 30) #[.pointer (some ⟨b6,0,none⟩),.pointer (some ⟨b7,0,none⟩)],args:=#[] }] w [] _ _ [(0,.slice ua n uc),(1,.slice la m0 lc),(5,.pointer (some ⟨b5,0,none⟩)),(6,.pointer (some ⟨b6,0,none⟩)),(7,.pointer (some ⟨b7,0,none⟩)),(10,.pointer (some ⟨b10,0,none⟩))] [.blk b10 (.cells #[I 1,I d,I v,I l,I 1,I d,I r,I s,I x.p.id,I x.p.rk,.slice x.a x.p.gs.length x.c,I x.p.need,I x.p.cool,.map (some m)] 92 (0,0)),mblk m [],.blk b7 (.cells #[I 0] 29 (0,0)),.blk b6 (.cells #[I 0,I 0,I 0,I 0,.bool false] 49 (0,0)),.blk b5 (.cells #[I 1,I d,I v,I l,I 1,I d,I r,I s] 45 (0,0))] from ?_) a9 w9 ha9 hw9
  clear ha9 hw9
  refine c_seq<|c_seq<|c_reg<|s_y y_mv<|s_gives (fun w' hw=>BackwardL_ok w' la m0 lc) (fun b1 _=>s_nil<|q_then<|c_block<|?_)
  let M:Nat → Loop → Nat → Nat → SH:=fun i rc L Dk=>.blk L (.loop rc) :: .blk Dk (.deferred (some [])) :: [.blk b1 (.cells #[.slice la m0 lc] 33 (0,0)),.blk b10 (.cells #[I 1,I d,I v,I l,I 1,I d,I r,I s,I x.p.id,I x.p.rk,.slice x.a x.p.gs.length x.c,I x.p.need,I x.p.cool,.map (some m)] 92 (0,0)),mblk m (kvr (X.drop i)),.blk b7 (.cells #[I 0] 29 (0,0)),.blk b6 (.cells #[I 0,I 0,I 0,I 0,.bool false] 49 (0,0)),.blk b5 (.cells #[I 1,I d,I v,I l,I 1,I d,I r,I s] 45 (0,0))]
  refine c_rangeN (σ:=Unit) (fun _=>[.blk b1 (.cells #[.slice la m0 lc] 33 (0,0)),.blk b10 (.cells #[I 1,I d,I v,I l,I 1,I d,I r,I s,I x.p.id,I x.p.rk,.slice x.a x.p.gs.length x.c,I x.p.need,I x.p.cool,.map (some m)] 92 (0,0)),mblk m (kvr X),.blk b7 (.cells #[I 0] 29 (0,0)),.blk b6 (.cells #[I 0,I 0,I 0,I 0,.bool false] 49 (0,0)),.blk b5 (.cells #[I 1,I d,I v,I l,I 1,I d,I r,I s] 45 (0,0))]) (fun _=>True) (fun fn tm Dk L hfr w' hw'=>?_) (fun Dk _ _=>?_)
  rotate_left
  · refine q_nb<|q_then<|c_seq<|c_reg<|s_y (y_lda (b:=b10) (cs:=#[I 1,I d,I v,I l,I 1,I d,I r,I s,I x.p.id,I x.p.rk,.slice x.a x.p.gs.length x.c,I x.p.need,I x.p.cool,.map (some m)]) (hl:=rfl))<|s_pure (fun w' hw=>verify1_ok w' d v l 1 r s x m (kvr X) (hg.st hw) (hw.own _ (.tail _ (.tail _ (.tail _ (.head _))))).1 (kvr_no hnod) rfl hR (kvr_all (P:=fun e=>0 ≤ e ∧ e < 512 ∧ e / 8 ≠ x.p.id) hfr) hvf)<|s_sta (b:=b6) (vs:=#[I d,I v,I l,I 1,.bool false]) (cs:=#[I 0,I 0,I 0,I 0,.bool false]) (h1:=one_allA rfl) (hl:=rfl) (hs1:=rfl) ?_
    refine s_st (b:=b7) (v:=I 0) (cs:=#[I 0]) (hl:=Nat.zero_lt_one) ?_
    refine s_nil<|q_then<|c_ret<|q_mark (.head _)<|?_
    exact leaveW_R (cs:=[.pointer (some ⟨b6,0,none⟩),.pointer (some ⟨b7,0,none⟩)]) (fun w' hw=>rcAcc_R w' _ _) Tryz.results9 (.cons (rv_ca (b:=b6) (cs:=#[I d,I v,I l,I 1,.bool false]) (hl:=rfl)) (.cons (rv_cf (b:=b7) (v:=I 0)) .nil)) fun w' hw=>⟨rfl,hw.sub (List.nil_sublist _)⟩
  · have cvt:∀ rc,St w [] w' (.blk L (.loop rc) :: .blk Dk (.deferred (some [])) :: [.blk b1 (.cells #[.slice la m0 lc] 33 (0,0)),.blk b10 (.cells #[I 1,I d,I v,I l,I 1,I d,I r,I s,I x.p.id,I x.p.rk,.slice x.a x.p.gs.length x.c,I x.p.need,I x.p.cool,.map (some m)] 92 (0,0)),mblk m ([]),.blk b7 (.cells #[I 0] 29 (0,0)),.blk b6 (.cells #[I 0,I 0,I 0,I 0,.bool false] 49 (0,0)),.blk b5 (.cells #[I 1,I d,I v,I l,I 1,I d,I r,I s] 45 (0,0))]) → St w [] w' (M m0 rc L Dk ++ []):=fun rc h=>by
      rw [List.append_nil]; show St w [] w' (.blk L (.loop rc) :: .blk Dk (.deferred (some [])) :: [.blk b1 (.cells #[.slice la m0 lc] 33 (0,0)),.blk b10 (.cells #[I 1,I d,I v,I l,I 1,I d,I r,I s,I x.p.id,I x.p.rk,.slice x.a x.p.gs.length x.c,I x.p.need,I x.p.cool,.map (some m)] 92 (0,0)),mblk m (kvr (X.drop m0)),.blk b7 (.cells #[I 0] 29 (0,0)),.blk b6 (.cells #[I 0,I 0,I 0,I 0,.bool false] 49 (0,0)),.blk b5 (.cells #[I 1,I d,I v,I l,I 1,I d,I r,I s] 45 (0,0))]); rw [List.drop_eq_nil_of_le (by omega)]; exact h
    have hw2:=cvt _ hw'
    have hps:=hw2.has
    have hb:=backwardL1_ok w' _ L b1 la lc m0 X (fun i=>M i _ L Dk) hXn hps.1 hps.2 rfl (fun i=>.head _) (fun i=>.tail _ (.tail _ (.head _))) (fun i=>rdOL (by rw [List.append_nil] at hw2; exact hw2) hx) hXl (fun i z hz w2 h2=>?_)
    · refine hb.mono fun e' w2 ⟨hv,h2⟩=>⟨hv,(),trivial,by have h9:=hw2.transL (l2:=[]) (.refl _) h2; rw [List.append_nil] at h9; exact h9⟩
    · have hil:=(List.getElem?_eq_some_iff.1 hz).1
      have hst:=kvr_step hz
      have hf9:=((hfr []).put 38 (I (i:Int)) rfl).put 39 (.agg #[I z.d,I z.v,I z.l,I z.ver,.bool z.gone]) rfl
      refine round_okE (F1:=fun b12=>[(10,.pointer (some ⟨b10,0,none⟩)),(12,.pointer (some ⟨b12,0,none⟩))]) h2 hf9 (by simp [Act.put]) (by rfl) (fun b12=>.tail _ (.head _)) (l1:=fun b12=>.blk b12 (.cells #[I z.d,I z.v,I z.l,I z.ver,.bool z.gone] 49 (0,0)) :: M (i + 1) _ L Dk) ?_ (fun b12=>?_)
      · refine c_reg<|s_alloc fun b12=>s_sta (b:=b12) (vs:=#[I z.d,I z.v,I z.l,I z.ver,.bool z.gone]) (cs:=#[I 0,I 0,I 0,I 0,.bool false]) (h1:=one_allA rfl) (hl:=rfl) (hs1:=rfl) ?_
        exact s_nil<|q_joinE b12 ⟨rfl,rfl,trivial⟩ (List.Sublist.refl _)
      · refine c_block<|c_reg<|s_y y_fa<|s_y (y_ld (b:=b10) (v:=.map (some m)))<|s_y y_fa<|s_y (y_ld (b:=b12) (v:=I z.d))<|s_y (y_lda (b:=b12) (cs:=#[I z.d,I z.v,I z.l,I z.ver,.bool z.gone]) (hl:=rfl))<|s_mupd (k:=z.d) (kv:=kvr (X.drop (i + 1))) (v:=.agg #[I z.d,I z.v,I z.l,I z.ver,.bool z.gone]) (hne:=kvr_fresh hXd hz) (hr:=.tail _ (.tail _ (.tail _ (.tail _ (.tail _ (.head _)))))) ?_
        rw [← hst]
        exact s_nil<|q_nb<|q_rn (.tail _ (.head _)) fun w3 h3=>⟨(),trivial,rfl,h3.sub (.cons _ (.refl _))⟩
theorem Accept3_ok (w:World) (d v l r s:Int) (U:List PA) (X:List Ls) (x:PA) (i:Nat) (ua la:Option Addr) (n uc m0 lc:Nat) (hg:LS w) (hu:Rd w ua (pnc U)) (hgr:∀ x ∈ U,Rd w x.a (is x.p.gs)) (hn:U.length = n) (hUl:n ≤ 1000000) (hU:PsOk U) (hx:Rd w la (lsc X)) (hXn:X.length = m0) (hXl:m0 ≤ 1000000) (hXd:(X.map Ls.d).Nodup) (hnod:∀ z ∈ X,z.d ≠ d) (hcr:CrRt d v l 1) (hxi:U[i]? = some x) (hxid:x.p.id = d / 8) 
    (hvf:∀ (w':World) (a:Option Addr) (c:Nat),LS w' → Rd w' a (bs (cmsg [3,d,v,l,1,(-1)])) → Pure Tryz.prog 99 [I x.p.rk,.slice a 32 c,.agg #[I r,I s]] w' (.bool true)) :
    Pure Tryz.prog 9 [.slice ua n uc,.slice la m0 lc,.agg #[I 3,I d,I v,I l,I 1,I (-1),I r,I s]] w (.tuple #[.agg #[I d,I v,I l,I 1,.bool false],I 0]):=by
  have hd0:=hcr.d
  have hR:∀ n ∈ [(3:Int),d,v,l,1,(-1)],R64 n:=hcr.r64 (by unfold R64; omega) (by unfold R64; omega)
  have hfi:=fidx_pa hU.nd hxi hxid
  have hin:i < n:=by have:=(List.getElem?_eq_some_iff.1 hxi).1; omega
  refine enterW Tryz.func9 Tryz.ntmps9 (g_cp ?_)
  refine c_seq<|c_reg<|s_box rfl fun b5=>s_alloc fun b6=>s_alloc fun b7=>s_nil<|q_then<|c_seq<|c_reg<|s_y y_func<|s_deferC<|s_nil<|q_then<|c_seq<|c_reg<|s_y y_mv<|s_pure (fun w' hw=>pCheck_ok w' U ua n uc (hu.st hw) (fun x hx=>(hgr x hx).st hw) hn hUl hU)<|s_y y_as<|s_nil<|q_then<|c_seq<|c_reg<|s_y y_mv<|s_kt (y_eql (p:=0) (q:=0)) (by trivial)<|s_y y_mv<|s_pure (fun w' hw=>must_ok w' 0)<|s_nil<|q_then<|c_seq<|c_reg<|s_y (y_lda (b:=b5) (cs:=#[I 3,I d,I v,I l,I 1,I (-1),I r,I s]) (hl:=rfl))<|s_pure (fun w' hw=>(by have h9:=formed3_ok w' d v l 1 r s; rw [crB_t.2 hcr] at h9; exact h9))<|s_pure (fun w' hw=>must_ok w' 370)<|s_nil<|q_then<|c_seq<|c_reg<|s_y y_mv<|s_y y_func<|s_pure (fun w' hw=>(by
    have h9:=IxF_PA w' ua uc U 34 [.pointer (some ⟨b5,0,none⟩)] (fun z:PA=>decide (z.p.id = d / 8)) (hu.st hw) (by omega) (fun z _ w2 h2=>Acc2_ok w2 z b5 3 d v l 1 (-1) r s hd0.1 hd0.2 ((rdB (xs:=[I 3,I d,I v,I l,I 1,I (-1),I r,I s]) (.tail _ (.tail _ (.head _))) (fun i u h=>by rw [Nat.zero_add]; show (#[I 3,I d,I v,I l,I 1,I (-1),I r,I s])[i]? = some u; simpa using h) w' hw:Rd w' _ _).st h2))
    rw [hfi,hn] at h9
    exact h9))<|s_y y_as<|s_nil<|q_then<|c_seq<|c_reg<|s_y y_mv<|s_kt (y_geq (p:=((i:Nat):Int)) (q:=0)) (by omega)<|s_pure (fun w' hw=>must_ok w' 371)<|s_nil<|q_then<|c_seq<|?_
  refine c_cut (R:=fun a' w'=>∃ (m b10:Nat),Fr 47 [(0,.slice ua n uc),(1,.slice la m0 lc),(5,.pointer (some ⟨b5,0,none⟩)),(6,.pointer (some ⟨b6,0,none⟩)),(7,.pointer (some ⟨b7,0,none⟩)),(10,.pointer (some ⟨b10,0,none⟩))] [{ target:=.fn (.func 30) #[.pointer (some ⟨b6,0,none⟩),.pointer (some ⟨b7,0,none⟩)],args:=#[] }] a' ∧ St w [] w' [.blk b10 (.cells #[I 3,I d,I v,I l,I 1,I (-1),I r,I s,I x.p.id,I x.p.rk,.slice x.a x.p.gs.length x.c,I x.p.need,I x.p.cool,.map (some m)] 92 (0,0)),mblk m [],.blk b7 (.cells #[I 0] 29 (0,0)),.blk b6 (.cells #[I 0,I 0,I 0,I 0,.bool false] 49 (0,0)),.blk b5 (.cells #[I 3,I d,I v,I l,I 1,I (-1),I r,I s] 45 (0,0))]) ?_ ?_
  · refine c_regL [.blk b5 (.cells #[I 3,I d,I v,I l,I 1,I (-1),I r,I s] 45 (0,0))]<|r_y 0 rfl (y_lda (b:=b5) (cs:=#[I 3,I d,I v,I l,I 1,I (-1),I r,I s]) (hl:=rfl))<|r_y 1 rfl y_mv<|r_y 2 rfl y_mv<|r_y 3 rfl (y_ixs (xs:=pnc U) (i:=((i:Nat):Int)) (hr:=rdW0 hu) (hl:=by rw [pnc_length]; omega))<|r_y 4 rfl (y_ldra (i:=i * 5) (cs:=[I x.p.id,I x.p.rk,.slice x.a x.p.gs.length x.c,I x.p.need,I x.p.cool]) (rdW0 hu) rfl (fun j v h=>pnc_at hxi h))<|r_w2 5 7 rfl rfl ?_ ?_ (hsub:=by repeat (first | exact List.nil_sublist _ | exact List.Sublist.refl _ | apply List.Sublist.cons_cons | apply List.Sublist.cons))
    · refine s_mkmap (.inl rfl) fun m=>r_K<|r_y 6 rfl (y_btr (cs:=[I 3,I d,I v,I l,I 1,I (-1),I r,I s,I x.p.id,I x.p.rk,.slice x.a x.p.gs.length x.c,I x.p.need,I x.p.cool,.map (some m)]))<|r_W 7 rfl<|s_alloc fun b10=>r_K<|r_W 8 rfl<|s_sta (b:=b10) (vs:=#[I 3,I d,I v,I l,I 1,I (-1),I r,I s,I x.p.id,I x.p.rk,.slice x.a x.p.gs.length x.c,I x.p.need,I x.p.cool,.map (some m)]) (cs:=#[I 0,I 0,I 0,I 0,I 0,I 0,I 0,I 0,I 0,I 0,.slice none 0 0,I 0,I 0,.map none]) (h1:=one_allA rfl) (hl:=rfl) (hs1:=rfl) ?_
      refine r_K<|r_E ?_
      exact fun a' w' ha hw=>⟨rfl,m,b10,ha.weaken ⟨rfl,rfl,rfl,rfl,rfl,rfl,trivial⟩,hw⟩
    · refine s_alloc fun b10=>r_K<|r_W 5 rfl<|s_mkmap (.inl rfl) fun m=>r_K<|r_y 6 rfl (y_btr (cs:=[I 3,I d,I v,I l,I 1,I (-1),I r,I s,I x.p.id,I x.p.rk,.slice x.a x.p.gs.length x.c,I x.p.need,I x.p.cool,.map (some m)]))<|r_W 8 rfl<|s_sta (b:=b10) (vs:=#[I 3,I d,I v,I l,I 1,I (-1),I r,I s,I x.p.id,I x.p.rk,.slice x.a x.p.gs.length x.c,I x.p.need,I x.p.cool,.map (some m)]) (cs:=#[I 0,I 0,I 0,I 0,I 0,I 0,I 0,I 0,I 0,I 0,.slice none 0 0,I 0,I 0,.map none]) (h1:=one_allA rfl) (hl:=rfl) (hs1:=rfl) ?_
      refine r_K<|r_E ?_
      exact fun a' w' ha hw=>⟨rfl,m,b10,ha.weaken ⟨rfl,rfl,rfl,rfl,rfl,rfl,trivial⟩,hw.perm (.swap _ _ _)⟩
  rintro a9 w9 ⟨m,b10,ha9,hw9⟩
  refine (show CP none Tryz.prog 47 [{ target:=.fn (.func 30) #[.pointer (some ⟨b6,0,none⟩),.pointer (some ⟨b7,0,none⟩)],args:=#[] }] w [] _ _ [(0,.slice ua n uc),(1,.slice la m0 lc),(5,.pointer (some ⟨b5,0,none⟩)),(6,.pointer (some ⟨b6,0,none⟩)),(7,.pointer (some ⟨b7,0,none⟩)),(10,.pointer (some ⟨b10,0,none⟩))] [.blk b10 (.cells #[I 3,I d,I v,I l,I 1,I (-1),I r,I s,I x.p.id,I x.p.rk,.slice x.a x.p.gs.length x.c,I x.p.need,I x.p.cool,.map (some m)] 92 (0,0)),mblk m [],.blk b7 (.cells #[I 0] 29 (0,0)),.blk b6 (.cells #[I 0,I 0,I 0,I 0,.bool false] 49 (0,0)),.blk b5 (.cells #[I 3,I d,I v,I l,I 1,I (-1),I r,I s] 45 (0,0))] from ?_) a9 w9 ha9 hw9
  clear ha9 hw9
  refine c_seq<|c_seq<|c_reg<|s_y y_mv<|s_gives (fun w' hw=>BackwardL_ok w' la m0 lc) (fun b1 _=>s_nil<|q_then<|c_block<|?_)
  let M:Nat → Loop → Nat → Nat → SH:=fun i rc L Dk=>.blk L (.loop rc) :: .blk Dk (.deferred (some [])) :: [.blk b1 (.cells #[.slice la m0 lc] 33 (0,0)),.blk b10 (.cells #[I 3,I d,I v,I l,I 1,I (-1),I r,I s,I x.p.id,I x.p.rk,.slice x.a x.p.gs.length x.c,I x.p.need,I x.p.cool,.map (some m)] 92 (0,0)),mblk m (kvr (X.drop i)),.blk b7 (.cells #[I 0] 29 (0,0)),.blk b6 (.cells #[I 0,I 0,I 0,I 0,.bool false] 49 (0,0)),.blk b5 (.cells #[I 3,I d,I v,I l,I 1,I (-1),I r,I s] 45 (0,0))]
  refine c_rangeN (σ:=Unit) (fun _=>[.blk b1 (.cells #[.slice la m0 lc] 33 (0,0)),.blk b10 (.cells #[I 3,I d,I v,I l,I 1,I (-1),I r,I s,I x.p.id,I x.p.rk,.slice x.a x.p.gs.length x.c,I x.p.need,I x.p.cool,.map (some m)] 92 (0,0)),mblk m (kvr X),.blk b7 (.cells #[I 0] 29 (0,0)),.blk b6 (.cells #[I 0,I 0,I 0,I 0,.bool false] 49 (0,0)),.blk b5 (.cells #[I 3,I d,I v,I l,I 1,I (-1),I r,I s] 45 (0,0))]) (fun _=>True) (fun fn tm Dk L hfr w' hw'=>?_) (fun Dk _ _=>?_)
  rotate_left
  · refine q_nb<|q_then<|c_seq<|c_reg<|s_y (y_lda (b:=b10) (cs:=#[I 3,I d,I v,I l,I 1,I (-1),I r,I s,I x.p.id,I x.p.rk,.slice x.a x.p.gs.length x.c,I x.p.need,I x.p.cool,.map (some m)]) (hl:=rfl))<|s_pure (fun w' hw=>verify3_ok w' d v l 1 r s x m (kvr X) (hg.st hw) (hw.own _ (.tail _ (.tail _ (.tail _ (.head _))))).1 (kvr_no hnod) rfl hR  hvf)<|s_sta (b:=b6) (vs:=#[I d,I v,I l,I 1,.bool false]) (cs:=#[I 0,I 0,I 0,I 0,.bool false]) (h1:=one_allA rfl) (hl:=rfl) (hs1:=rfl) ?_
    refine s_st (b:=b7) (v:=I 0) (cs:=#[I 0]) (hl:=Nat.zero_lt_one) ?_
    refine s_nil<|q_then<|c_ret<|q_mark (.head _)<|?_
    exact leaveW_R (cs:=[.pointer (some ⟨b6,0,none⟩),.pointer (some ⟨b7,0,none⟩)]) (fun w' hw=>rcAcc_R w' _ _) Tryz.results9 (.cons (rv_ca (b:=b6) (cs:=#[I d,I v,I l,I 1,.bool false]) (hl:=rfl)) (.cons (rv_cf (b:=b7) (v:=I 0)) .nil)) fun w' hw=>⟨rfl,hw.sub (List.nil_sublist _)⟩
  · have cvt:∀ rc,St w [] w' (.blk L (.loop rc) :: .blk Dk (.deferred (some [])) :: [.blk b1 (.cells #[.slice la m0 lc] 33 (0,0)),.blk b10 (.cells #[I 3,I d,I v,I l,I 1,I (-1),I r,I s,I x.p.id,I x.p.rk,.slice x.a x.p.gs.length x.c,I x.p.need,I x.p.cool,.map (some m)] 92 (0,0)),mblk m ([]),.blk b7 (.cells #[I 0] 29 (0,0)),.blk b6 (.cells #[I 0,I 0,I 0,I 0,.bool false] 49 (0,0)),.blk b5 (.cells #[I 3,I d,I v,I l,I 1,I (-1),I r,I s] 45 (0,0))]) → St w [] w' (M m0 rc L Dk ++ []):=fun rc h=>by
      rw [List.append_nil]; show St w [] w' (.blk L (.loop rc) :: .blk Dk (.deferred (some [])) :: [.blk b1 (.cells #[.slice la m0 lc] 33 (0,0)),.blk b10 (.cells #[I 3,I d,I v,I l,I 1,I (-1),I r,I s,I x.p.id,I x.p.rk,.slice x.a x.p.gs.length x.c,I x.p.need,I x.p.cool,.map (some m)] 92 (0,0)),mblk m (kvr (X.drop m0)),.blk b7 (.cells #[I 0] 29 (0,0)),.blk b6 (.cells #[I 0,I 0,I 0,I 0,.bool false] 49 (0,0)),.blk b5 (.cells #[I 3,I d,I v,I l,I 1,I (-1),I r,I s] 45 (0,0))]); rw [List.drop_eq_nil_of_le (by omega)]; exact h
    have hw2:=cvt _ hw'
    have hps:=hw2.has
    have hb:=backwardL1_ok w' _ L b1 la lc m0 X (fun i=>M i _ L Dk) hXn hps.1 hps.2 rfl (fun i=>.head _) (fun i=>.tail _ (.tail _ (.head _))) (fun i=>rdOL (by rw [List.append_nil] at hw2; exact hw2) hx) hXl (fun i z hz w2 h2=>?_)
    · refine hb.mono fun e' w2 ⟨hv,h2⟩=>⟨hv,(),trivial,by have h9:=hw2.transL (l2:=[]) (.refl _) h2; rw [List.append_nil] at h9; exact h9⟩
    · have hil:=(List.getElem?_eq_some_iff.1 hz).1
      have hst:=kvr_step hz
      have hf9:=((hfr []).put 38 (I (i:Int)) rfl).put 39 (.agg #[I z.d,I z.v,I z.l,I z.ver,.bool z.gone]) rfl
      refine round_okE (F1:=fun b12=>[(10,.pointer (some ⟨b10,0,none⟩)),(12,.pointer (some ⟨b12,0,none⟩))]) h2 hf9 (by simp [Act.put]) (by rfl) (fun b12=>.tail _ (.head _)) (l1:=fun b12=>.blk b12 (.cells #[I z.d,I z.v,I z.l,I z.ver,.bool z.gone] 49 (0,0)) :: M (i + 1) _ L Dk) ?_ (fun b12=>?_)
      · refine c_reg<|s_alloc fun b12=>s_sta (b:=b12) (vs:=#[I z.d,I z.v,I z.l,I z.ver,.bool z.gone]) (cs:=#[I 0,I 0,I 0,I 0,.bool false]) (h1:=one_allA rfl) (hl:=rfl) (hs1:=rfl) ?_
        exact s_nil<|q_joinE b12 ⟨rfl,rfl,trivial⟩ (List.Sublist.refl _)
      · refine c_block<|c_reg<|s_y y_fa<|s_y (y_ld (b:=b10) (v:=.map (some m)))<|s_y y_fa<|s_y (y_ld (b:=b12) (v:=I z.d))<|s_y (y_lda (b:=b12) (cs:=#[I z.d,I z.v,I z.l,I z.ver,.bool z.gone]) (hl:=rfl))<|s_mupd (k:=z.d) (kv:=kvr (X.drop (i + 1))) (v:=.agg #[I z.d,I z.v,I z.l,I z.ver,.bool z.gone]) (hne:=kvr_fresh hXd hz) (hr:=.tail _ (.tail _ (.tail _ (.tail _ (.tail _ (.head _)))))) ?_
        rw [← hst]
        exact s_nil<|q_nb<|q_rn (.tail _ (.head _)) fun w3 h3=>⟨(),trivial,rfl,h3.sub (.cons _ (.refl _))⟩
end Go.Proofs.YtegfmbefhpagmaaGreatDoor
end
section
namespace Eng
open Go
end Eng
namespace Go.Proofs.YtegfmbefhpagmaaGreatDoor
open Go Eng Gf Sha Sig Wr Cod Cha Rst
end Go.Proofs.YtegfmbefhpagmaaGreatDoor
end
section
namespace Rst
open Go Eng
end Rst
namespace Go.Proofs.YtegfmbefhpagmaaGreatDoor
open Go Eng Gf Sha Sig Wr Cod Cha Rst
end Go.Proofs.YtegfmbefhpagmaaGreatDoor
end
section
namespace Go.Proofs.YtegfmbefhpagmaaGreatDoor
open Go Eng Gf Sha Sig Wr Cod Cha Rst
end Go.Proofs.YtegfmbefhpagmaaGreatDoor
end
section
namespace Rst
open Go Eng Gf Sha Sig Wr Cod Cha Go.Proofs.YtegfmbefhpagmaaGreatDoor
theorem Rd.pre {w:World} {a:Option Addr} {xs ys:List Value} (h:Rd w a (xs ++ ys)):Rd w a xs:=by
  rcases h with h | ⟨b,off,cs,t,fz,h1,h2,h3⟩
  · exact .inl (List.append_eq_nil_iff.1 h).1
  · exact .inr ⟨b,off,cs,t,fz,h1,h2,fun j v hj=>h3 j v (by rw [List.getElem?_append_left (List.getElem?_eq_some_iff.1 hj).1]; exact hj)⟩
end Rst
namespace Go.Proofs.YtegfmbefhpagmaaGreatDoor
open Go Eng Gf Sha Sig Wr Cod Cha Rst
set_option maxRecDepth 100000
set_option linter.all false
end Go.Proofs.YtegfmbefhpagmaaGreatDoor
end
section
namespace Eng
open Go
section
variable {P:Program} {n:Nat} {D:List Deferred} {W:World} {Bo:List Nat} {F:List (Nat × Value)} {l:SH} {d:Option Tmp} {ty:TypeId} {ps:String} {af:Array Edge} {g:Option (Nat × Bool)} {x y:Operand} {ta tb:TypeId}
end
end Eng
namespace Rst
open Go Eng Gf Sha Sig Wr Cod Cha Go.Proofs.YtegfmbefhpagmaaGreatDoor
theorem any_last {c:Cs} {v:Vt} {f:Vt → Bool} (h:f v = true):(vtd c v).vt.any f = true:=by
  show (c.vt ++ [v]).any f = true
  rw [List.any_append]; simp [h]
theorem fin_vtd {p:Pn} {c:Cs} {now ver:Int} {x:Nat} {v:Vt} (h:FinOk p c now ver x) (hn:¬ v.d ∈ c.vt.map Vt.d) (hw:¬ (c.st ≤ v.no ∧ v.no ≤ c.st + p.cool - 1)):FinOk p (vtd c v) now ver x:=by
  obtain ⟨hp,hb,hv,h4,h5⟩:=stE_inv h.st
  refine ⟨stE_0 hp (blg_vtd hb hn) ?_ (by show ¬ now < c.st + p.cool; omega) (by show ¬ (c.ap.length:Int) < p.need; omega),h.x0,h.x1,h.lf,h.sh,h.ch,h.r0,h.rk,h.cr⟩
  show ¬ ((c.vt ++ [v]).any fun v:Vt=>decide (c.st ≤ v.no ∧ v.no ≤ c.st + p.cool - 1)) = true
  rw [List.any_append]
  simp only [Bool.or_eq_true,not_or]
  exact ⟨hv,by simpa using hw⟩
end Rst
namespace Go.Proofs.YtegfmbefhpagmaaGreatDoor
open Go Eng Gf Sha Sig Wr Cod Cha Rst
end Go.Proofs.YtegfmbefhpagmaaGreatDoor
end
section
namespace Rst
open Go Eng Gf Sha Sig Wr Cod Cha Go.Proofs.YtegfmbefhpagmaaGreatDoor
def apl (c:Cs) (L:List Ap):Cs:=⟨c.p,c.d,c.v,c.l,c.st,L,[]⟩
def bods (t:TypeId) (L:List Ap):SH:=L.foldl (fun r z=>.row z.a z.c t 1 z.q.length (bs z.q) :: r) []
theorem bods_snoc (t:TypeId) (L:List Ap) (z:Ap):bods t (L ++ [z]) = .row z.a z.c t 1 z.q.length (bs z.q) :: bods t L:=by
  unfold bods; rw [List.foldl_append]; rfl
theorem mem_bods {t:TypeId} {z:Ap}:∀ {L:List Ap},z ∈ L → Res.row z.a z.c t 1 z.q.length (bs z.q) ∈ bods t L:=by
  have h:∀ (L:List Ap) (r:SH),(∀ p ∈ r,p ∈ L.foldl (fun r z=>.row z.a z.c t 1 z.q.length (bs z.q) :: r) r) ∧ (z ∈ L → Res.row z.a z.c t 1 z.q.length (bs z.q) ∈ L.foldl (fun r z=>.row z.a z.c t 1 z.q.length (bs z.q) :: r) r):=by
    intro L
    induction L with
    | nil=>exact fun r=>⟨fun p h=>h,fun h=>by cases h⟩
    | cons y L ih =>
      intro r
      refine ⟨fun p hp=>(ih _).1 p (.tail _ hp),fun hz=>?_⟩
      rcases List.mem_cons.1 hz with rfl | hz
      · exact (ih _).1 _ (.head _)
      · exact (ih _).2 hz
  exact fun {L} hz=>(h L []).2 hz
/-- what holds of approvals that were made -/
structure AInv (p:Pn) (c:Cs) (cs:List Nat) (L:List Ap) (ac:Nat):Prop where
  g:∀ z ∈ L,∃ i,i < p.gs.length ∧ p.gs[i]? = some z.g ∧ ∀ x:Nat,((pp 4 x:Nat):Int) = c.l → GdAp x c (i + 1) (hor cs (i + 1)) z
  b:Blg p (apl c L)
  k:∀ z ∈ L,z.q.length ≤ z.c
  q:∀ z ∈ L,z.q.length ≤ 100000
  l:L.length ≤ ac
theorem AInv.nil {p:Pn} {c:Cs} {cs:List Nat} (h:Blg p (apl c [])):AInv p c cs [] 0:=⟨(fun _ h=>by cases h),h,(fun _ h=>by cases h),(fun _ h=>by cases h),Nat.le_refl _⟩
theorem AInv.snoc {p:Pn} {c:Cs} {cs:List Nat} {L:List Ap} {ac ac' kk x bc:Nat} {g:Int} {k:List UInt8} {ba:Option Addr} (h:AInv p c cs L ac) (hp:Prs p) (hi:p.gs[kk]? = some g) (hn:¬ g ∈ L.map Ap.g) (hl:L.length + 1 ≤ ac') (hb:(wtx (apl c L) g k (kk + 1) (hor cs (kk + 1))).length ≤ bc) :
    AInv p c cs (L ++ [nAp (apl c L) g k (kk + 1) (hor cs (kk + 1)) x ba bc]) ac' where
  g:=fun z hz=>by
    rcases List.mem_append.1 hz with hz | hz
    · exact h.g z hz
    · rw [List.mem_singleton] at hz; subst hz
      refine ⟨kk,(List.getElem?_eq_some_iff.1 hi).1,hi,fun x hx=>?_⟩
      exact gd_nap rfl hx.symm
  b:=blg_apd h.b (List.mem_of_getElem? hi) hn
  k:=cap_snoc h.k hb
  q:=fun z hz=>by
    rcases List.mem_append.1 hz with hz | hz
    · exact h.q z hz
    · rw [List.mem_singleton] at hz; subst hz
      exact Nat.le_trans (Nat.le_of_eq (wtx_length _ _ _ _ _)) (by decide)
  l:=by rw [List.length_append]; exact hl
end Rst
namespace Go.Proofs.YtegfmbefhpagmaaGreatDoor
open Go Eng Gf Sha Sig Wr Cod Cha Rst
end Go.Proofs.YtegfmbefhpagmaaGreatDoor
end
section
namespace Eng
open Go
theorem y_rem8 {P:Program} {n:Nat} {D:List Deferred} {W:World} {Bo:List Nat} {F:List (Nat × Value)} {l:SH} {d:Option Tmp} {ty:TypeId} {ps:String} {af:Array Edge} {g:Option (Nat × Bool)} {x y:Operand} {ta tb:TypeId}
    {p q:UInt8} (hx:evO F x = some (B p):=by rfl) (hy:evO F y = some (B q):=by rfl) (h1:0 < q.toNat:=by decide):Y P n D W Bo ⟨d,.binOp .rem ta x y tb,ty,ps,af,g⟩ F l (B (p % q)) :=
  .mk (by simp) fun a w ha _=>by
    have h5:q.toNat ≠ 0:=by omega
    simp [execOp,ha.eval hx,ha.eval hy,eqGuard,binOp,Op.intDiv,h5,Int.tmod_eq_emod_of_nonneg]
end Eng
namespace Rst
open Go Eng Gf Sha Sig Wr Cod Cha Go.Proofs.YtegfmbefhpagmaaGreatDoor
section
variable {id cool dd st key number:Int} {N ac:Nat} {gs:List Int} {k:List UInt8} {L:List Ap} {cs:List Nat}
end
end Rst
namespace Go.Proofs.YtegfmbefhpagmaaGreatDoor
open Go Eng Gf Sha Sig Wr Cod Cha Rst
end Go.Proofs.YtegfmbefhpagmaaGreatDoor
end
section
namespace Tp
open Go Eng Gf Sha Sig Wr Cod Cha Rst Go.Proofs.YtegfmbefhpagmaaGreatDoor
def gsl (n:Nat):List Int:=(List.range n).map fun i=>((i + 1:Nat):Int)
theorem gsl_length (n:Nat):(gsl n).length = n:=by simp [gsl]
theorem gsl_succ' (n:Nat):gsl (n + 1) = gsl n ++ [((n + 1:Nat):Int)]:=by simp [gsl,List.range_succ]
theorem gsl_succ (n:Nat):is (gsl (n + 1)) = is (gsl n) ++ [I ((n + 1:Nat):Int)]:=by rw [gsl_succ']; simp [is]
theorem gsl_get {n i:Nat} (h:i < n):(gsl n)[i]? = some (((i + 1:Nat):Int)):=by unfold gsl; rw [List.getElem?_map,List.getElem?_range h]; rfl
theorem gsl_mem {n:Nat} {g:Int} (h:g ∈ gsl n):∃ i,i < n ∧ g = ((i + 1:Nat):Int):=by
  obtain ⟨i,hi,rfl⟩:=List.mem_map.1 h
  exact ⟨i,List.mem_range.1 hi,rfl⟩
theorem gsl_nd (n:Nat):(gsl n).Nodup:=by
  refine List.pairwise_map.2 (List.nodup_range.imp fun {a b} h e=>h ?_)
  omega
noncomputable def tP (n N wt:Nat) (k:List UInt8):Pn:=stP 0 (gsl n) ((N + 1:Nat):Int) ((wt:Nat):Int) k
theorem tP_ok {n N wt:Nat} {k:List UInt8} (hn:1 ≤ n ∧ n ≤ 5) (hN:N + 1 ≤ n) (hw:1 ≤ wt ∧ wt ≤ 4):Prs (tP n N wt k) where
  id:=show (0:Int) ≤ 0 ∧ (0:Int) ≤ 63 by decide
  rk:=chk_pub _
  gl:=by
    have h9:((gsl n).length:Int) = (n:Int):=by rw [gsl_length]
    show (1:Int) ≤ ((gsl n).length:Int) ∧ ((gsl n).length:Int) ≤ 16
    omega
  need:=by
    have h9:((gsl n).length:Int) = (n:Int):=by rw [gsl_length]
    show (1:Int) ≤ ((N + 1:Nat):Int) ∧ ((N + 1:Nat):Int) ≤ ((gsl n).length:Int)
    omega
  cool:=show (1:Int) ≤ ((wt:Nat):Int) ∧ ((wt:Nat):Int) ≤ 1048576 by omega
  nd:=gsl_nd n
  gs:=fun g hg=>by
    obtain ⟨i,hi,rfl⟩:=gsl_mem hg
    show ((i + 1:Nat):Int) ≠ 0 ∧ 0 ≤ ((i + 1:Nat):Int) ∧ ((i + 1:Nat):Int) ≤ 63
    omega
def uG (rk:Int) (i:Nat):PA:=⟨⟨((i + 1:Nat):Int),rk,[],0,0⟩,none,0⟩
def UU (P:Pn) (a:Option Addr) (c j:Nat):List PA:=⟨P,a,c⟩ :: (List.range j).map (uG P.rk)
theorem UU_length (P:Pn) (a:Option Addr) (c j:Nat):(UU P a c j).length = j + 1:=by simp [UU]
theorem UU_succ (P:Pn) (a:Option Addr) (c j:Nat):pnc (UU P a c (j + 1)) = pnc (UU P a c j) ++ [I ((j + 1:Nat):Int),I P.rk,.slice none 0 0,I 0,I 0]:=by
  have e:UU P a c (j + 1) = UU P a c j ++ [uG P.rk j]:=by simp [UU,List.range_succ]
  rw [e]
  unfold pnc
  rw [List.flatMap_append]
  congr 1
theorem UU_zero (P:Pn) (a:Option Addr) (c j:Nat):(UU P a c j)[0]? = some ⟨P,a,c⟩:=rfl
theorem UU_get (P:Pn) (a:Option Addr) (c:Nat) {j i:Nat} (h:i < j):(UU P a c j)[i + 1]? = some (uG P.rk i):=by
  show ((List.range j).map (uG P.rk))[i]? = _
  rw [List.getElem?_map,List.getElem?_range h]; rfl
theorem UU_mem {P:Pn} {a:Option Addr} {c j:Nat} {x:PA} (h:x ∈ UU P a c j):x = ⟨P,a,c⟩ ∨ ∃ i,i < j ∧ x = uG P.rk i:=by
  rcases List.mem_cons.1 h with h | h
  · exact .inl h
  · obtain ⟨i,hi,rfl⟩:=List.mem_map.1 h
    exact .inr ⟨i,List.mem_range.1 hi,rfl⟩
theorem UU_ids (P:Pn) (a:Option Addr) (c j:Nat):(UU P a c j).map (fun z=>z.p.id) = P.id :: gsl j:=by
  unfold UU gsl
  rw [List.map_cons,List.map_map]; rfl
theorem UU_ok {n N wt:Nat} {k:List UInt8} (a:Option Addr) (c:Nat) (hn:1 ≤ n ∧ n ≤ 5) (hN:N + 1 ≤ n) (hw:1 ≤ wt ∧ wt ≤ 4):PsOk (UU (tP n N wt k) a c n):=by
  have hP:=tP_ok (k:=k) hn hN hw
  have hgl:(tP n N wt k).gs.length = n:=gsl_length n
  refine ⟨fun x hx=>?_,fun j x y hx hy=>?_,?_,fun x hx=>?_,fun x hx=>?_,fun x hx=>?_,fun x hx=>?_,fun x hx=>?_,fun x hx=>?_⟩
  · rcases UU_mem hx with rfl | ⟨i,hi,rfl⟩
    · exact hP.id
    · show 0 ≤ ((i + 1:Nat):Int) ∧ ((i + 1:Nat):Int) ≤ 63; omega
  · have hjn:j < n:=by have:=(List.getElem?_eq_some_iff.1 hy).1; rw [UU_length] at this; omega
    rw [UU_get _ _ _ hjn] at hy
    obtain rfl:=Option.some.inj hy
    cases j with
    | zero =>
      rw [UU_zero] at hx
      obtain rfl:=Option.some.inj hx
      show (0:Int) < ((0 + 1:Nat):Int); decide
    | succ j =>
      rw [UU_get _ _ _ (by omega)] at hx
      obtain rfl:=Option.some.inj hx
      show ((j + 1:Nat):Int) < ((j + 1 + 1:Nat):Int); omega
  · rw [UU_ids]
    refine List.nodup_cons.2 ⟨fun h=>?_,gsl_nd n⟩
    obtain ⟨i,_,h⟩:=gsl_mem h
    have:(0:Int) = ((i + 1:Nat):Int):=h
    omega
  · rcases UU_mem hx with rfl | ⟨i,hi,rfl⟩
    · exact hP.rk
    · exact hP.rk
  · rcases UU_mem hx with rfl | ⟨i,hi,rfl⟩
    · have:=hP.cool; exact ⟨by show 0 ≤ (tP n N wt k).cool; omega,this.2⟩
    · exact ⟨Int.le_refl _,by show (0:Int) ≤ 1048576; decide⟩
  · rcases UU_mem hx with rfl | ⟨i,hi,rfl⟩
    · show (tP n N wt k).gs.length ≤ 16; omega
    · exact Nat.zero_le _
  · rcases UU_mem hx with rfl | ⟨i,hi,rfl⟩
    · have:=hP.need
      show min (((tP n N wt k).gs.length:Nat):Int) 1 ≤ (tP n N wt k).need ∧ (tP n N wt k).need ≤ (tP n N wt k).gs.length
      omega
    · show min ((0:Nat):Int) 1 ≤ (0:Int) ∧ (0:Int) ≤ ((0:Nat):Int); decide
  · intro g hg
    rcases UU_mem hx with rfl | ⟨i,hi,rfl⟩
    · rw [UU_ids]
      exact ⟨(hP.gs g hg).1,List.mem_cons_of_mem _ hg⟩
    · cases hg
  · intro j u v hu hv
    rcases UU_mem hx with rfl | ⟨i,hi,rfl⟩
    · have hjn:j + 1 < n:=by have:=(List.getElem?_eq_some_iff.1 hv).1; rw [show (tP n N wt k).gs.length = n from hgl] at this; exact this
      have hu:(gsl n)[j]? = some u:=hu
      have hv:(gsl n)[j + 1]? = some v:=hv
      rw [gsl_get (by omega)] at hu hv
      obtain rfl:=Option.some.inj hu
      obtain rfl:=Option.some.inj hv
      omega
    · cases hu
theorem UU_rd {w:World} {P:Pn} {a:Option Addr} {c j:Nat} (h:Rd w a (is P.gs)):∀ x ∈ UU P a c j,Rd w x.a (is x.p.gs):=fun x hx=>by
  rcases UU_mem hx with rfl | ⟨i,_,rfl⟩
  · exact h
  · exact Rd.nil _ _
noncomputable def lkE (i:Nat):Ls:=⟨((i * 8:Nat):Int),((pp 4 (100 + i):Nat):Int),((pp 4 (100 + i):Nat):Int),1,false⟩
noncomputable def LK (j:Nat):List Ls:=(List.range j).map lkE
theorem LK_length (j:Nat):(LK j).length = j:=by simp [LK]
theorem LK_succ (j:Nat):LK (j + 1) = LK j ++ [lkE j]:=by simp [LK,List.range_succ]
theorem LK_mem {j:Nat} {z:Ls} (h:z ∈ LK j):∃ i,i < j ∧ z = lkE i:=by
  obtain ⟨i,hi,rfl⟩:=List.mem_map.1 h
  exact ⟨i,List.mem_range.1 hi,rfl⟩
theorem lkE_ok {i:Nat} (h:i ≤ 5):LsRt (lkE i):=⟨by show 0 ≤ ((i * 8:Nat):Int) ∧ ((i * 8:Nat):Int) < 512; omega,chk_pub _,chk_pub _,by show (1:Int) ≤ 1 ∧ (1:Int) ≤ 1048576; decide⟩
theorem LK_pw (j:Nat):(LK j).Pairwise fun a b=>a.d < b.d :=
  List.pairwise_map.2 (List.pairwise_lt_range.imp fun {a b} h=>by show ((a * 8:Nat):Int) < ((b * 8:Nat):Int); omega)
theorem LK_ok {j:Nat} (h:j ≤ 6):DirOk (LK j):=dir_of (fun z hz=>by
  obtain ⟨i,hi,rfl⟩:=LK_mem hz
  exact lkE_ok (by omega)) (LK_pw j)
theorem LK_nd (j:Nat):((LK j).map Ls.d).Nodup:=List.pairwise_map.2 ((LK_pw j).imp fun h=>by omega)
noncomputable def nwE:Ls:=⟨3,((pp 4 77:Nat):Int),((pp 4 78:Nat):Int),1,false⟩
theorem nwE_ok:LsRt nwE:=⟨by show (0:Int) ≤ 3 ∧ (3:Int) < 512; decide,chk_pub _,chk_pub _,by show (1:Int) ≤ 1 ∧ (1:Int) ≤ 1048576; decide⟩
noncomputable def LB (n:Nat):List Ls:=(List.range n).map fun i=>lkE (i + 1)
theorem LK_split (n:Nat):LK (n + 1) = [lkE 0] ++ LB n:=by
  unfold LK LB
  rw [List.range_succ_eq_map,List.map_cons,List.map_map]; rfl
theorem LA_lt:∀ a ∈ [lkE 0],a.d < nwE.d:=fun a ha=>by rw [List.mem_singleton.1 ha]; show ((0 * 8:Nat):Int) < 3; decide
theorem LB_gt {n:Nat}:∀ b ∈ LB n,nwE.d < b.d:=fun b hb=>by
  obtain ⟨i,_,rfl⟩:=List.mem_map.1 hb
  show (3:Int) < (((i + 1) * 8:Nat):Int); omega
theorem LK_no3 (j:Nat):∀ z ∈ LK j,z.d ≠ 3:=fun z hz=>by
  obtain ⟨i,_,rfl⟩:=LK_mem hz
  show ((i * 8:Nat):Int) ≠ 3; omega
theorem LK_first (j:Nat) (hj:j ≤ 6) (i:Nat) (hi:j ≤ i):∀ z ∈ LK j,0 ≤ z.d ∧ z.d < 512 ∧ z.d / 8 ≠ ((i:Nat):Int):=fun z hz=>by
  obtain ⟨a,ha,rfl⟩:=LK_mem hz
  show 0 ≤ ((a * 8:Nat):Int) ∧ ((a * 8:Nat):Int) < 512 ∧ ((a * 8:Nat):Int) / 8 ≠ ((i:Nat):Int)
  omega
theorem LK_fresh (j:Nat):∀ z ∈ LK j,z.d ≠ ((j * 8:Nat):Int):=fun z hz=>by
  obtain ⟨a,ha,rfl⟩:=LK_mem hz
  show ((a * 8:Nat):Int) ≠ ((j * 8:Nat):Int); omega
theorem LK_lt (j:Nat):∀ z ∈ LK j,z.d < (lkE j).d:=fun z hz=>by
  obtain ⟨a,ha,rfl⟩:=LK_mem hz
  show ((a * 8:Nat):Int) < ((j * 8:Nat):Int); omega
end Tp
end
section
namespace Eng
open Go Go.RowKit
section
variable {P:Program} {n:Nat} {D:List Deferred} {W:World} {Bo:List Nat} {F:List (Nat × Value)} {l:SH} {d:Option Tmp} {ty:TypeId} {ps:String} {af:Array Edge} {g:Option (Nat × Bool)} {x:Operand} {t:TypeId}
theorem y_lenm {kt et:TypeId} [hu:HU P t (.map kt et)] {m:Nat} {kv:List (Int × Value)} (hx:evO F x = some (.map (some m)):=by rfl) (hmem:mblk m kv ∈ l:=by repeat (first | exact .head _ | apply List.Mem.tail)):Y P n D W Bo ⟨d,.call ⟨.builtin .len,#[x],#[t]⟩,ty,ps,af,g⟩ F l (I kv.length) :=
  y_b (vs:=[.map (some m)]) (by simp [evL,hx]) fun w hw cs=>by
    have hb:w.heap[m]? = some (.map (mes kv) kv.length):=(hw.own _ hmem).1
    have hl:∀ (kv:List (Int × Value)) (i:Nat),(mesF i kv).length = kv.length:=by
      intro kv
      induction kv with
      | nil=>exact fun _=>rfl
      | cons a r ih=>intro i; obtain ⟨k,v⟩:=a; rw [mesF,List.length_cons,List.length_cons,ih]
    have hz:(mes kv).size = kv.length:=by show (mesF 0 kv).toArray.size = _; rw [List.size_toArray,hl]
    simp [builtin,Builtin.len_,run_underlying hu.h,goInt,MapKept.run_getObj_map hb,hz]
theorem run_eqBo {t:TypeId} [hi:HU P t .bool] (k:Nat) (z:Bool) (w:World):(Op.equalIn (k + 1) t (.bool z) (.bool z)).run P w = .ok true w:=by
  have:=run_equalIn_bool w k t z z hi.h
  simpa using this
end
end Eng
namespace Go.Proofs.YtegfmbefhpagmaaGreatDoor
open Go Eng Gf Sha Sig Wr Cod Cha Rst Tp
set_option maxRecDepth 100000
set_option linter.all false
theorem hgLs:(Tryz.prog).eqGuardType (Tryz.prog).depth 49 = false:=by kernel_rfl
theorem hsLs:(Tryz.prog).stoodInHeld 49 = false:=by kernel_rfl
theorem hfLs:(Tryz.prog).underlying 49 = some (.struct ((Tryz.prog).fieldsOf 49)):=by kernel_rfl
theorem hlLs : ∃ f0 f1 f2 f3 f4 : Field, ((Tryz.prog).fieldsOf 49).toList = [f0, f1, f2, f3, f4] ∧ f0.name ≠ "_" ∧ f0.type = 3 ∧ f0.offset = 0 ∧ f1.name ≠ "_" ∧ f1.type = 3 ∧ f1.offset = 1 ∧ f2.name ≠ "_" ∧ f2.type = 3 ∧ f2.offset = 2 ∧ f3.name ≠ "_" ∧ f3.type = 3 ∧ f3.offset = 3 ∧ f4.name ≠ "_" ∧ f4.type = 4 ∧ f4.offset = 4 := by
  simp only [Program.fieldsOf,Tryz.underlying49]
  exact ⟨_,_,_,_,_,rfl,by decide,rfl,rfl,by decide,rfl,rfl,by decide,rfl,rfl,by decide,rfl,rfl,by decide,rfl,rfl⟩
theorem eqLsIn (k:Nat) {a b c d:Int} {e:Bool} (w:World):(Op.equalIn (k + 8) 49 (.agg #[I a,I b,I c,I d,.bool e]) (.agg #[I a,I b,I c,I d,.bool e])).run Tryz.prog w = .ok true w:=by
  obtain ⟨f0,f1,f2,f3,f4,hl,n0,t0,o0,n1,t1,o1,n2,t2,o2,n3,t3,o3,n4,t4,o4⟩:=hlLs
  rw [run_equalIn_struct w (k + 7) _ _ _ hfLs hsLs,hl]
  refine run_eqFL _ fun f hf=>?_
  simp only [List.mem_cons,List.not_mem_nil,or_false] at hf
  rcases hf with rfl | rfl | rfl | rfl | rfl
  · exact ⟨n0,I a,by rw [t0,o0]; exact run_part1 (by rfl) w,by rw [t0]; exact run_eqI (k + 6) a w⟩
  · exact ⟨n1,I b,by rw [t1,o1]; exact run_part1 (by rfl) w,by rw [t1]; exact run_eqI (k + 6) b w⟩
  · exact ⟨n2,I c,by rw [t2,o2]; exact run_part1 (by rfl) w,by rw [t2]; exact run_eqI (k + 6) c w⟩
  · exact ⟨n3,I d,by rw [t3,o3]; exact run_part1 (by rfl) w,by rw [t3]; exact run_eqI (k + 6) d w⟩
  · exact ⟨n4,.bool e,by rw [t4,o4]; exact run_part1 (by rfl) w,by rw [t4]; exact run_eqBo (k + 6) e w⟩
theorem run_eqLs {a b c d:Int} {e:Bool} (w:World):(Op.equalIn 10000 49 (.agg #[I a,I b,I c,I d,.bool e]) (.agg #[I a,I b,I c,I d,.bool e])).run Tryz.prog w = .ok true w:=eqLsIn 9992 w
theorem y_neqLs {n:Nat} {D:List Deferred} {W:World} {Bo:List Nat} {F:List (Nat × Value)} {l:SH} {dd:Option Tmp} {ty:TypeId} {ps:String} {af:Array Edge} {g:Option (Nat × Bool)} {x y:Operand} {tb:TypeId} {a b c d:Int} {e:Bool}
    (hx:evO F x = some (.agg #[I a,I b,I c,I d,.bool e]):=by rfl) (hy:evO F y = some (.agg #[I a,I b,I c,I d,.bool e]):=by rfl):Y Tryz.prog n D W Bo ⟨dd,.binOp .neq 49 x y tb,ty,ps,af,g⟩ F l (.bool false) :=
  .mk (by simp) fun ac w ha _=>by
    simp only [execOp,ha.eval hx,ha.eval hy,Sem.run_bind,run_eqGuard_agg w .neq 49 x y _ _ hgLs,Result.andThen_ok,run_neq_struct,run_eqLs,Sem.run_pure,Bool.not_true]
theorem verifyT (w:World) (a:Option Addr) (c n x:Nat) (m:List UInt8) (hg:LS w) (hn:m.length = n) (hl:n ≤ 100000000) (hr:Rd w a (bs m)):Pure Tryz.prog 99 [I (pp 4 x:Nat),.slice a n c,.agg #[I (sgR x m:Nat),I (sgS x m:Nat)]] w (.bool true):=by
  subst hn
  have h9:=sVerify_ok w a c m (pp 4 x:Nat) (sgR x m:Nat) (sgS x m:Nat) hg hr hl
  rw [vrf_sign] at h9
  exact h9
end Go.Proofs.YtegfmbefhpagmaaGreatDoor
namespace Tp
open Go Eng Gf Sha Sig Wr Cod Cha Rst Go.Proofs.YtegfmbefhpagmaaGreatDoor
noncomputable def tC (n N wt:Nat) (k:List UInt8) (s:Nat):Cs:=opC (tP n N wt k) 3 (pp 4 77:Nat) (pp 4 78:Nat) ((s:Nat):Int)
noncomputable def tS (N:Nat) (k:List UInt8):List Nat:=cof (expand k lbShs []) (dscal k lbRec) N
section
variable {n N wt s ac:Nat} {k:List UInt8} {L:List Ap}
theorem tC_ok (hs:1 ≤ s ∧ s ≤ 60000):Blg (tP n N wt k) (tC n N wt k s) where
  fp:=rfl
  fd:=show (0:Int) * 8 ≤ 3 ∧ (3:Int) ≤ 0 * 8 + 8 - 1 by decide
  fv:=chk_pub _
  fl:=chk_pub _
  fs:=show (1:Int) ≤ ((s:Nat):Int) ∧ ((s:Nat):Int) ≤ 65536 by omega
  fa:=List.nodup_nil
  ft:=List.nodup_nil
  fg:=fun a ha=>by cases ha
theorem tp_no:¬ (([]:List Vt).any fun v:Vt=>decide ((tC n N wt k s).st ≤ v.no ∧ v.no ≤ (tC n N wt k s).st + (tP n N wt k).cool - 1)) = true:=by simp
theorem tp_fin (hp:Prs (tP n N wt k)) (hI:AInv (tP n N wt k) (tC n N wt k s) (tS N k) L ac) (hn:¬ L.length < N + 1):FinOk (tP n N wt k) (apl (tC n N wt k s) L) (((s:Nat):Int) + ((wt:Nat):Int)) 1 78 ∧ (jnV (isort (shL 78 (apl (tC n N wt k s) L) (tP n N wt k).need.toNat))).toNat = dscal k lbRec:=by
  refine good_fin (cs:=tS N k) (stE_0 hp hI.b tp_no (by show ¬ (((s:Nat):Int) + ((wt:Nat):Int) < ((s:Nat):Int) + ((wt:Nat):Int)); omega) (by show ¬ (((L.length:Nat):Int) < ((N + 1:Nat):Int)); omega)) (by decide) (by decide) rfl (fun z hz=>?_) ?_ (hor_cof _ _ (scal_lt _ _).2) (scal_lt _ _).1 rfl (by decide)
  · obtain ⟨i,h1,h2,h3⟩:=hI.g z hz
    exact ⟨i,h1,h2,h3 78 rfl⟩
  · show (cof (expand k lbShs []) (dscal k lbRec) N).length = _
    rw [cof_length]; exact (Int.toNat_natCast _).symm
theorem tp_few (hp:Prs (tP n N wt k)) (hI:AInv (tP n N wt k) (tC n N wt k s) (tS N k) L ac) (hn:L.length < N + 1):stE (tP n N wt k) (apl (tC n N wt k s) L) (((s:Nat):Int) + ((wt:Nat):Int)) = 390 :=
  stE_few hp hI.b tp_no (by show ¬ (((s:Nat):Int) + ((wt:Nat):Int) < ((s:Nat):Int) + ((wt:Nat):Int)); omega) (by show ((L.length:Nat):Int) < ((N + 1:Nat):Int); omega)
theorem tp_early (hp:Prs (tP n N wt k)) (hI:AInv (tP n N wt k) (tC n N wt k s) (tS N k) L ac):stE (tP n N wt k) (apl (tC n N wt k s) L) (((s:Nat):Int) + ((wt:Nat):Int) - 1) = 391 :=
  stE_391 hp hI.b tp_no (by show ((s:Nat):Int) + ((wt:Nat):Int) - 1 < ((s:Nat):Int) + ((wt:Nat):Int); omega)
theorem tp_blg {v:Vt} (hI:AInv (tP n N wt k) (tC n N wt k s) (tS N k) L ac):Blg (tP n N wt k) (vtd (apl (tC n N wt k s) L) v):=blg_vtd hI.b (by show ¬ v.d ∈ []; simp)
theorem tp_any {v:Vt} {ut:Nat} (hv:v.no = ((s:Nat):Int) + ((ut:Nat):Int)) (hu:¬ ut < wt):¬ ((vtd (apl (tC n N wt k s) L) v).vt.any fun v:Vt=>decide ((tC n N wt k s).st ≤ v.no ∧ v.no ≤ (tC n N wt k s).st + (tP n N wt k).cool - 1)) = true:=by
  show ¬ ([v].any fun v:Vt=>decide (((s:Nat):Int) ≤ v.no ∧ v.no ≤ ((s:Nat):Int) + ((wt:Nat):Int) - 1)) = true
  simp only [List.any_cons,List.any_nil,Bool.or_false,decide_eq_true_eq]
  omega
theorem tp_fin2 {v:Vt} {ut:Nat} (hp:Prs (tP n N wt k)) (hI:AInv (tP n N wt k) (tC n N wt k s) (tS N k) L ac) (hn:¬ L.length < N + 1) (hv:v.no = ((s:Nat):Int) + ((ut:Nat):Int)) (hu:¬ ut < wt):FinOk (tP n N wt k) (vtd (apl (tC n N wt k s) L) v) (((s:Nat):Int) + ((wt:Nat):Int)) 1 78 ∧ (jnV (isort (shL 78 (vtd (apl (tC n N wt k s) L) v) (tP n N wt k).need.toNat))).toNat = dscal k lbRec:=by
  obtain ⟨h1,h2⟩:=tp_fin hp hI hn
  refine ⟨fin_vtd h1 (by show ¬ v.d ∈ []; simp) ?_,h2⟩
  show ¬ (((s:Nat):Int) ≤ v.no ∧ v.no ≤ ((s:Nat):Int) + ((wt:Nat):Int) - 1)
  omega
theorem tp_few2 {v:Vt} {ut:Nat} (hp:Prs (tP n N wt k)) (hI:AInv (tP n N wt k) (tC n N wt k s) (tS N k) L ac) (hn:L.length < N + 1) (hv:v.no = ((s:Nat):Int) + ((ut:Nat):Int)) (hu:¬ ut < wt):stE (tP n N wt k) (vtd (apl (tC n N wt k s) L) v) (((s:Nat):Int) + ((wt:Nat):Int)) = 390 :=
  stE_few hp (tp_blg hI) (tp_any hv hu) (by show ¬ (((s:Nat):Int) + ((wt:Nat):Int) < ((s:Nat):Int) + ((wt:Nat):Int)); omega) (by show ((L.length:Nat):Int) < ((N + 1:Nat):Int); omega)
theorem tp_early2 {v:Vt} {ut:Nat} (hp:Prs (tP n N wt k)) (hI:AInv (tP n N wt k) (tC n N wt k s) (tS N k) L ac) (hv:v.no = ((s:Nat):Int) + ((ut:Nat):Int)) (hu:¬ ut < wt):stE (tP n N wt k) (vtd (apl (tC n N wt k s) L) v) (((s:Nat):Int) + ((wt:Nat):Int) - 1) = 391 :=
  stE_391 hp (tp_blg hI) (tp_any hv hu) (by show ((s:Nat):Int) + ((wt:Nat):Int) - 1 < ((s:Nat):Int) + ((wt:Nat):Int); omega)
theorem tp_in {v:Vt} {ut:Nat} {now:Int} (hp:Prs (tP n N wt k)) (hI:AInv (tP n N wt k) (tC n N wt k s) (tS N k) L ac) (hv:v.no = ((s:Nat):Int) + ((ut:Nat):Int)) (hu:ut < wt):stE (tP n N wt k) (vtd (apl (tC n N wt k s) L) v) now = 392:=by
  refine stE_392 hp (tp_blg hI) (any_last (decide_eq_true ?_))
  show ((s:Nat):Int) ≤ v.no ∧ v.no ≤ ((s:Nat):Int) + ((wt:Nat):Int) - 1
  omega
end
def ML (L:List Ap):List Int:=L.map fun z=>z.g - 1
def KM (L:List Ap):List (Int × Value):=(ML L).map fun x=>(x,Value.bool true)
theorem KM_length (L:List Ap):(KM L).length = L.length:=by unfold KM ML; rw [List.length_map,List.length_map]
theorem KM_snoc {L:List Ap} {z:Ap} {kk:Nat} (h:z.g = ((kk + 1:Nat):Int)):KM L ++ [(((kk:Nat):Int),Value.bool true)] = KM (L ++ [z]):=by
  unfold KM ML
  rw [List.map_append,List.map_append,List.map_singleton,List.map_singleton,show z.g - 1 = ((kk:Nat):Int) by omega]
theorem ML_in {L:List Ap} {kk:Nat} (h:((kk + 1:Nat):Int) ∈ L.map Ap.g):((kk:Nat):Int) ∈ ML L:=by
  obtain ⟨z,hz,e⟩:=List.mem_map.1 h
  exact List.mem_map.2 ⟨z,hz,by omega⟩
theorem ML_no {L:List Ap} {kk:Nat} (h:¬ ((kk + 1:Nat):Int) ∈ L.map Ap.g):((kk:Nat):Int) ∉ ML L:=fun h9=>by
  obtain ⟨z,hz,e⟩:=List.mem_map.1 h9
  exact h (List.mem_map.2 ⟨z,hz,by omega⟩)
theorem UU_at (P:Pn) (h0:P.id = 0) (a:Option Addr) (c:Nat) {n i:Nat} (h:i ≤ n):∃ x,(UU P a c n)[i]? = some x ∧ x.p.id = ((i:Nat):Int):=by
  cases i with
  | zero=>exact ⟨_,UU_zero P a c n,h0⟩
  | succ i=>exact ⟨_,UU_get P a c (by omega),rfl⟩
theorem RtOk_snoc {x:Nat} {L:List Ls} {R:List Rt} (hR:∀ z ∈ R,RtOk z) (h:R.length < 900000):∀ z ∈ R ++ [nRt x L R],RtOk z:=fun z hz=>by
  rcases List.mem_append.1 hz with hz | hz
  · exact hR z hz
  · rw [List.mem_singleton.1 hz]; exact nRt_ok (by omega)
theorem rt_dg {R:List Rt} (hR:∀ x ∈ R,RtOk x) (z:Rt) {m:Nat} (hm:R.length = m):∀ (j:Nat) (v:Value),(bs z.dg)[j]? = some v → (rtc (R ++ [z]))[m * 67 + 1 + j]? = some v:=fun j v h=>by
  subst hm
  rw [Nat.add_assoc]
  exact rtc_last hR z (by have h9:=rc_dg h; rw [List.getElem?_toArray] at h9; exact h9)
theorem nw_climb (n:Nat):climbD (512 + 3) (lsD nwE) (pathD ([lkE 0] ++ nwE :: LB n) (512 + 3) 9) = ndD ([lkE 0] ++ nwE :: LB n) 9 1:=by
  have h1:ndD ([lkE 0] ++ nwE :: LB n) 0 (512 + 3) = lsD nwE:=by
    show lfD _ 3 = _
    unfold lfD
    rw [show (((3:Nat):Int)) = nwE.d from rfl,lsAt_ins LA_lt]
  rw [← h1,climb_all]
  rfl
theorem path32 {L:List Ls} {m k:Nat}:∀ x ∈ pathD L m k,x.length = 32:=fun x hx=>by
  obtain ⟨i,_,rfl⟩:=List.mem_map.1 hx
  exact ndD_length _ _ _
end Tp
end
section
namespace Eng
open Go
theorem y_neqb {n:Nat} {D:List Deferred} {W:World} {Bo:List Nat} {F:List (Nat × Value)} {l:SH} {d:Option Tmp} {ty:TypeId} {ps:String} {af:Array Edge} {g:Option (Nat × Bool)} {x y:Operand} {ta tb:TypeId} {P:Program}
    {a b:Bool} [hu:HU P ta .bool] (hx:evO F x = some (.bool a):=by rfl) (hy:evO F y = some (.bool b):=by rfl):Y P n D W Bo ⟨d,.binOp .neq ta x y tb,ty,ps,af,g⟩ F l (.bool (!(a == b))) :=
  .mk (by simp) fun ac w ha _=>by
    have:(Op.equal ta (.bool a) (.bool b)).run P w = .ok (a == b) w:=by
      unfold Op.equal Op.equalIn
      simp [Op.maxDepth,run_underlying hu.h]
    simp [execOp,ha.eval hx,ha.eval hy,eqGuard,binOp,this]
end Eng
namespace Tp
theorem modn {n:Nat} (m:Nat) (hn:1 ≤ n):∃ kk:Nat,((m:Nat):Int) % ((n:Nat):Int) = (kk:Int) ∧ kk < n:=⟨m % n,rfl,Nat.mod_lt _ hn⟩
end Tp
namespace Go.Proofs.YtegfmbefhpagmaaGreatDoor
open Go Eng Gf Sha Sig Wr Cod Cha Rst Tp
set_option maxRecDepth 100000
set_option maxHeartbeats 4000000
set_option linter.all false
theorem top_long (w:World) (m0 m1 m2 m6:UInt8) (k:List UInt8) (qs:List UInt8) (qa:Option Addr) (qc:Nat) (vb:Bool) (hg:LC w) (hk:k.length = 32) (hrq:Rd w qa (bs qs)) (hql:¬ qs.length ≤ 8):Pure Tryz.prog 3 [B m0,B m1,B m2,.agg (bs k).toArray,.slice qa qs.length qc,.bool vb,B m6] w (.bool true):=by
  refine enter Tryz.func3 Tryz.ntmps3 ?_
  refine c_seq<|c_reg<|s_box rfl fun b10=>s_y y_as<|s_nil<|q_then<|c_seq<|c_seq<|c_reg<|s_y y_mv<|s_y y_len<|s_kt (y_gtr (p:=qs.length) (q:=8)) (by omega)<|s_nil<|q_then<|c_t<|c_seq<|c_reg<|s_y y_as<|s_nil<|q_then<|c_ret<|q_ret<|?_
  exact ret1 Tryz.results3 rv_t fun w' hw=>⟨rfl,hw.sub (List.nil_sublist _)⟩
theorem top_short (w:World) (m0 m1 m2 m6:UInt8) (k:List UInt8) (qs:List UInt8) (qa:Option Addr) (qc:Nat) (vb:Bool) (hg:LC w) (hk:k.length = 32) (hrq:Rd w qa (bs qs)) (hql:qs.length ≤ 8):Pure Tryz.prog 3 [B m0,B m1,B m2,.agg (bs k).toArray,.slice qa qs.length qc,.bool vb,B m6] w (.bool true):=by
  have hm5:(m0 % 5).toNat < 5:=by rw [UInt8.toNat_mod]; exact Nat.mod_lt _ (by decide)
  obtain ⟨n,hn⟩:∃ n:Nat,(1:Int) + (((m0 % 5).toNat:Nat):Int) = (n:Int):=⟨1 + (m0 % 5).toNat,by omega⟩
  have hn5:1 ≤ n ∧ n ≤ 5:=by omega
  have hm4:(m2 % 4).toNat < 4:=by rw [UInt8.toNat_mod]; exact Nat.mod_lt _ (by decide)
  obtain ⟨wt,hwt⟩:∃ wt:Nat,(1:Int) + (((m2 % 4).toNat:Nat):Int) = (wt:Int):=⟨1 + (m2 % 4).toNat,by omega⟩
  have hw4:1 ≤ wt ∧ wt ≤ 4:=by omega
  have hm1:m1.toNat < 256:=by have:=m1.toNat_lt; omega
  obtain ⟨N,hN,hNn⟩:∃ N:Nat,((m1.toNat:Nat):Int) % ((n:Nat):Int) = (N:Int) ∧ N < n:=modn m1.toNat hn5.1
  have hNn:N + 1 ≤ n:=hNn
  have hm8:(m6 % 8).toNat < 8:=by rw [UInt8.toNat_mod]; exact Nat.mod_lt _ (by decide)
  obtain ⟨ut,hut⟩:∃ ut,(m6 % 8).toNat = ut:=⟨_,rfl⟩
  have hut8:ut < 8:=by omega
  obtain ⟨kd,hkd,hkd0,hkd1⟩:∃ kd:Nat,k5N ((m2.toNat:Nat):Int) = kd ∧ 1 ≤ kd ∧ kd < 2305843009213688669:=⟨_,rfl,k5N_pos _,k5N_lt _⟩
  have hgn:(gsl n).length = n:=gsl_length n
  have hps:Prs (tP n N wt k):=tP_ok hn5 hNn hw4
  have hgl:(tP n N wt k).gs.length ≤ 1000000:=by show (gsl n).length ≤ 1000000; omega
  refine enter Tryz.func3 Tryz.ntmps3 ?_
  refine c_seq<|c_reg<|s_box rfl fun b10=>s_y y_as<|s_nil<|q_then<|c_seq<|c_seq<|c_reg<|s_y y_mv<|s_y y_len<|s_kf (y_gtr (p:=qs.length) (q:=8)) (by omega)<|s_nil<|q_then<|c_f<|c_skip<|q_then<|c_seq<|c_reg<|s_y y_mv<|s_y (y_rem8 (p:=m0) (q:=5))<|s_y y_cvb<|s_y (y_add (p:=1) (q:=(m0 % 5).toNat))<|?_
  rw [hn]
  refine s_y y_as<|s_nil<|q_then<|c_seq<|c_reg<|s_bsl0 fun b73=>s_y y_as<|s_nil<|q_then<|c_seq<|c_seq<|c_reg<|s_y y_as<|s_nil<|q_then<|c_block<|?_
  refine c_loop2 (fun (j:Nat) (yg:Option Addr × Nat)=>[(1,B m1),(2,B m2),(4,.slice qa qs.length qc),(5,.bool vb),(6,B m6),(10,.pointer (some ⟨b10,0,none⟩)),(15,I (n:Nat)),(16,.slice yg.1 ((gsl j).length) yg.2),(17,I (j + 1:Nat))]) (fun j yg=>[.row yg.1 yg.2 3 1 ((gsl j).length) (is (gsl j)),.blk b10 (.cells (bs k).toArray 23 (0,0))]) (fun j _=>j ≤ n) (fun j _=>n - j) 0 (some ⟨b73,0,none⟩,0) (Nat.zero_le _) ⟨rfl,rfl,rfl,rfl,rfl,rfl,rfl,rfl,rfl,trivial⟩ (List.Sublist.refl _) ?_
  intro j yg hj
  by_cases hlt:j < n
  · have hgj:(gsl j).length = j:=gsl_length j
    refine c_seq<|c_seq<|c_reg<|s_y y_mv<|s_y y_mv<|s_kt (y_leq (p:=(j + 1:Nat)) (q:=(n:Nat))) (by omega)<|s_nil<|q_then<|c_t<|c_skip<|q_then<|c_seq<|c_block<|c_reg<|s_y y_mv<|s_y y_mv<|s_bslr (cs:=[I (j + 1:Nat)]) fun b81=>s_app (m:=1) (fun w' hw=>Src.slice (rdR (.head _) w' hw) rfl) (h1:=one_allA rfl) (hm:=.tail _ (.head _)) (hrep:=fun _ _=>.tail _ (.head _)) fun a82 c82 h82=>?_
    rw [← gsl_succ,show (gsl j).length + 1 = (gsl (j + 1)).length by rw [gsl_length,gsl_length]]
    refine s_y y_as<|s_nil<|q_nb<|q_then<|c_reg<|s_y y_mv<|s_y (y_add (p:=((j + 1:Nat):Int)) (q:=1))<|s_y y_as<|s_nil<|?_
    refine q_round2 (x:=j) (y:=yg) (j + 1) (a82,c82) (by omega) (by omega) ⟨rfl,rfl,rfl,rfl,rfl,rfl,rfl,rfl,rfl,trivial⟩ (by repeat (first | exact List.nil_sublist _ | exact List.Sublist.refl _ | apply List.Sublist.cons_cons | apply List.Sublist.cons))
  · obtain rfl:n = j:=by omega
    refine c_seq<|c_seq<|c_reg<|s_y y_mv<|s_y y_mv<|s_kf (y_leq (p:=(n + 1:Nat)) (q:=(n:Nat))) (by omega)<|s_nil<|q_then<|c_f<|c_exit<|q_ex<|q_ex<|q_exb<|q_then<|c_seq<|c_reg<|s_y y_mv<|s_y (y_rem8 (p:=m2) (q:=4))<|s_y y_cvb<|s_y (y_add (p:=1) (q:=(m2 % 4).toNat))<|?_
    rw [hwt]
    refine s_y y_as<|s_nil<|q_then<|c_seq<|c_cut (R:=fun a' w'=>∃ (x96:(Option Addr × Nat) × (Option Addr × Nat)),∃ (b19:Nat),Fr 390 [(2,B m2),(4,.slice qa qs.length qc),(5,.bool vb),(6,B m6),(10,.pointer (some ⟨b10,0,none⟩)),(15,I (n:Nat)),(16,.slice yg.1 ((gsl n).length) yg.2),(18,I (wt:Nat)),(19,.pointer (some ⟨b19,0,none⟩)),(20,.slice x96.2.1 ((gsl n).length) x96.2.2),(21,I 0)] [] a' ∧ St w [] w' [.blk b19 (.cells #[I 0,I (pp 4 (dscal k lbRec):Nat),.slice x96.1.1 ((gsl n).length) x96.1.2,I ((N + 1:Nat):Int),I (wt:Nat)] 27 (0,0)),.row x96.2.1 x96.2.2 62 2 ((gsl n).length) (shc (sN (spl (cof (expand k lbShs []) (dscal k lbRec) N) (gsl n).length))),.row x96.1.1 x96.1.2 3 1 ((gsl n).length) (is (gsl n)),.row yg.1 yg.2 3 1 ((gsl n).length) (is (gsl n)),.blk b10 (.cells (bs k).toArray 23 (0,0))]) ?_ ?_
    · refine c_regL [.row yg.1 yg.2 3 1 ((gsl n).length) (is (gsl n)),.blk b10 (.cells (bs k).toArray 23 (0,0))]<|r_y 0 rfl y_mv<|r_y 1 rfl y_mv<|r_y 2 rfl y_cvb<|r_y 3 rfl y_mv<|r_y 4 rfl (y_rem (p:=m1.toNat) (q:=(n:Nat)))<|?_
      rw [hN]
      refine r_y 5 rfl (y_add (p:=1) (q:=(N:Nat)))<|?_
      rw [show (1:Int) + ((N:Nat):Int) = ((N + 1:Nat):Int) by omega]
      refine r_y 6 rfl y_mv<|r_y 7 rfl (y_lda (b:=b10) (cs:=(bs k).toArray) (hl:=(hz32 hk)))<|r_w2 8 13 rfl rfl ?_ ?_ (hsub:=by repeat (first | exact List.nil_sublist _ | exact List.Sublist.refl _ | apply List.Sublist.cons_cons | apply List.Sublist.cons))
      · refine s_gives (fun w' hw=>Setup_yes w' 0 ((wt:Nat):Int) N (gsl n) k yg.1 yg.2 (hg.st hw).1 hk (rdR (.head _) w' hw) (by omega) hps) fun (x96:(Option Addr × Nat) × (Option Addr × Nat)) _=>r_K<|r_y 9 rfl y_mv<|r_y 10 rfl y_ext<|r_y 11 rfl y_ext<|r_y 12 rfl y_ext<|r_W 13 rfl<|s_alloc fun b19=>r_K<|r_W 14 rfl<|s_sta (b:=b19) (vs:=#[I 0,I (pp 4 (dscal k lbRec):Nat),.slice x96.1.1 ((gsl n).length) x96.1.2,I ((N + 1:Nat):Int),I (wt:Nat)]) (cs:=#[I 0,I 0,.slice none 0 0,I 0,I 0]) (h1:=one_allA rfl) (hl:=rfl) (hs1:=rfl) ?_
        refine r_K<|r_y 15 rfl y_as<|r_y 16 rfl y_as<|r_E<|?_
        exact fun a' w' ha hw=>⟨rfl,x96,b19,ha.weaken ⟨rfl,rfl,rfl,rfl,rfl,rfl,rfl,rfl,rfl,rfl,rfl,trivial⟩,hw⟩
      · refine s_alloc fun b19=>r_K<|r_W 8 rfl<|s_gives (fun w' hw=>Setup_yes w' 0 ((wt:Nat):Int) N (gsl n) k yg.1 yg.2 (hg.st hw).1 hk (rdR (.tail _ (.head _)) w' hw) (by omega) hps) fun (x96:(Option Addr × Nat) × (Option Addr × Nat)) _=>r_K<|r_y 9 rfl y_mv<|r_y 10 rfl y_ext<|r_y 11 rfl y_ext<|r_y 12 rfl y_ext<|r_W 14 rfl<|s_sta (b:=b19) (vs:=#[I 0,I (pp 4 (dscal k lbRec):Nat),.slice x96.1.1 ((gsl n).length) x96.1.2,I ((N + 1:Nat):Int),I (wt:Nat)]) (cs:=#[I 0,I 0,.slice none 0 0,I 0,I 0]) (h1:=one_allA rfl) (hl:=rfl) (hs1:=rfl) ?_
        refine r_K<|r_y 15 rfl y_as<|r_y 16 rfl y_as<|r_E<|?_
        exact fun a' w' ha hw=>⟨rfl,x96,b19,ha.weaken ⟨rfl,rfl,rfl,rfl,rfl,rfl,rfl,rfl,rfl,rfl,rfl,trivial⟩,((hw.perm (.cons _ (.swap _ _ _))).perm (.swap _ _ _))⟩
    rintro a10' w10' ⟨x96,b19,ha10',hw10'⟩
    refine (show CP none Tryz.prog 390 [] w [] _ _ [(2,B m2),(4,.slice qa qs.length qc),(5,.bool vb),(6,B m6),(10,.pointer (some ⟨b10,0,none⟩)),(15,I (n:Nat)),(16,.slice yg.1 ((gsl n).length) yg.2),(18,I (wt:Nat)),(19,.pointer (some ⟨b19,0,none⟩)),(20,.slice x96.2.1 ((gsl n).length) x96.2.2),(21,I 0)] [.blk b19 (.cells #[I 0,I (pp 4 (dscal k lbRec):Nat),.slice x96.1.1 ((gsl n).length) x96.1.2,I ((N + 1:Nat):Int),I (wt:Nat)] 27 (0,0)),.row x96.2.1 x96.2.2 62 2 ((gsl n).length) (shc (sN (spl (cof (expand k lbShs []) (dscal k lbRec) N) (gsl n).length))),.row x96.1.1 x96.1.2 3 1 ((gsl n).length) (is (gsl n)),.row yg.1 yg.2 3 1 ((gsl n).length) (is (gsl n)),.blk b10 (.cells (bs k).toArray 23 (0,0))] from ?_) a10' w10' ha10' hw10'
    clear ha10' hw10'
    refine c_seq<|c_seq<|c_reg<|s_y y_mv<|s_nf (y_neq (p:=0) (q:=0)) (by omega)<|s_y y_mv<|s_y y_mv<|s_y y_len<|s_y y_mv<|s_nf (y_neq (p:=(gsl n).length) (q:=(n:Nat))) (by omega)<|s_y y_pk<|s_nil<|q_then<|c_f<|c_skip<|q_then<|c_seq<|c_reg<|s_y (y_lda (b:=b19) (cs:=#[I 0,I (pp 4 (dscal k lbRec):Nat),.slice x96.1.1 ((gsl n).length) x96.1.2,I ((N + 1:Nat):Int),I (wt:Nat)]) (hl:=rfl))<|s_bslr (cs:=[I 0,I (pp 4 (dscal k lbRec):Nat),.slice x96.1.1 ((gsl n).length) x96.1.2,I ((N + 1:Nat):Int),I (wt:Nat)]) fun b109=>s_y y_as<|s_nil<|q_then<|c_seq<|c_seq<|c_reg<|s_y y_mv<|s_y y_len<|s_y y_mv<|s_nil<|q_then<|c_block<|?_
    refine c_loop2 (fun (j:Nat) (yp:Option Addr × Nat)=>[(2,B m2),(4,.slice qa qs.length qc),(5,.bool vb),(6,B m6),(10,.pointer (some ⟨b10,0,none⟩)),(15,I (n:Nat)),(18,I (wt:Nat)),(19,.pointer (some ⟨b19,0,none⟩)),(20,.slice x96.2.1 ((gsl n).length) x96.2.2),(22,.slice yp.1 (j + 1) yp.2),(110,.slice yg.1 ((gsl n).length) yg.2),(111,I ((gsl n).length)),(112,I (j:Nat))]) (fun j yp=>[.row yp.1 yp.2 27 5 (j + 1) (pnc (UU (tP n N wt k) x96.1.1 x96.1.2 j)),.blk b19 (.cells #[I 0,I (pp 4 (dscal k lbRec):Nat),.slice x96.1.1 ((gsl n).length) x96.1.2,I ((N + 1:Nat):Int),I (wt:Nat)] 27 (0,0)),.row x96.2.1 x96.2.2 62 2 ((gsl n).length) (shc (sN (spl (cof (expand k lbShs []) (dscal k lbRec) N) (gsl n).length))),.row x96.1.1 x96.1.2 3 1 ((gsl n).length) (is (gsl n)),.row yg.1 yg.2 3 1 ((gsl n).length) (is (gsl n)),.blk b10 (.cells (bs k).toArray 23 (0,0))]) (fun j _=>j ≤ n) (fun j _=>n - j) 0 (some ⟨b109,0,none⟩,1) (Nat.zero_le _) ⟨rfl,rfl,rfl,rfl,rfl,rfl,rfl,rfl,rfl,rfl,rfl,rfl,rfl,trivial⟩ (List.Sublist.refl _) ?_
    intro j yp hj
    by_cases hlt:j < n
    · have hgg:(gsl n).getD j 0 = ((j + 1:Nat):Int):=by rw [List.getD_eq_getElem?_getD,gsl_get hlt]; rfl
      refine c_seq<|c_reg<|s_kt (y_lss (p:=(j:Nat)) (q:=(gsl n).length)) (by omega)<|s_nil<|q_then<|c_seq<|c_t<|c_skip<|q_then<|c_seq<|c_block<|c_seq<|c_reg<|s_y (y_ixs1 (xs:=is (gsl n)) (i:=((j:Nat):Int)) (hr:=rdR (.tail _ (.tail _ (.tail _ (.tail _ (.head _)))))) (hl:=by rw [is_length]; exact Nat.le_refl _))<|s_y (y_ldi (i:=j) (q:=gsl n) (hr:=rdR (.tail _ (.tail _ (.tail _ (.tail _ (.head _)))))) (hi:=by omega))<|?_
      rw [hgg]
      refine s_y y_as<|s_nil<|q_then<|c_reg<|s_y y_mv<|s_y y_mv<|s_y y_fa<|s_y (y_ld (b:=b19) (v:=I (pp 4 (dscal k lbRec):Nat)))<|s_y (y_bper (cs:=[I (j + 1:Nat),I (pp 4 (dscal k lbRec):Nat),.slice none 0 0,I 0,I 0]))<|s_bslr (cs:=[I (j + 1:Nat),I (pp 4 (dscal k lbRec):Nat),.slice none 0 0,I 0,I 0]) fun b121=>s_app (m:=1) (fun w' hw=>Src.slice (rdR (.head _) w' hw) rfl) (h1:=one_allA rfl) (hm:=.tail _ (.head _)) (hrep:=fun _ _=>.tail _ (.head _)) fun a122 c122 h122=>?_
      rw [show pnc (UU (tP n N wt k) x96.1.1 x96.1.2 j) ++ [I ((j + 1:Nat):Int),I (pp 4 (dscal k lbRec):Nat),.slice none 0 0,I 0,I 0] = pnc (UU (tP n N wt k) x96.1.1 x96.1.2 (j + 1)) from (UU_succ _ _ _ _).symm]
      refine s_y y_as<|s_nil<|q_nb<|q_then<|c_reg<|s_y (y_add (p:=(j:Nat)) (q:=1))<|s_y y_mv<|s_nil<|?_
      refine q_round2 (x:=j) (y:=yp) (j + 1) (a122,c122) (by omega) (by omega) ⟨rfl,rfl,rfl,rfl,rfl,rfl,rfl,rfl,rfl,rfl,rfl,rfl,rfl,trivial⟩ (by repeat (first | exact List.nil_sublist _ | exact List.Sublist.refl _ | apply List.Sublist.cons_cons | apply List.Sublist.cons))
    · obtain rfl:n = j:=by omega
      refine c_seq<|c_reg<|s_kf (y_lss (p:=(n:Nat)) (q:=(gsl n).length)) (by omega)<|s_nil<|q_then<|c_seq<|c_f<|c_exit<|q_ex<|q_ex<|q_exb<|q_then<|c_seq<|c_reg<|s_y y_mv<|s_y y_cvb<|s_pure (fun w' hw=>r5_Key_ok w' ((m2.toNat:Nat):Int))<|?_
      rw [hkd]
      refine s_pure (fun w' hw=>New_ok w' kd hkd0 hkd1)<|s_y y_mv<|s_y y_ext<|s_y y_ext<|s_alloc fun b25=>s_sta (b:=b25) (vs:=#[I (kd:Nat),.slice none 0 0,.slice none 0 0]) (cs:=#[I 0,.slice none 0 0,.slice none 0 0]) (h1:=one_allA rfl) (hl:=rfl) (hs1:=rfl) ?_
      refine s_y y_as<|s_nil<|q_then<|c_seq<|c_seq<|c_reg<|s_y y_mv<|s_nf (y_neq (p:=0) (q:=0)) (by omega)<|s_nil<|q_then<|c_f<|c_skip<|q_then<|c_seq<|c_seq<|c_reg<|s_y y_as<|s_nil<|q_then<|c_block<|?_
      refine c_nilrow 49 5<|c_nilrow 71 67<|c_loop3 (fun (j:Nat) (R:List Rt) (y:(Option Addr × Nat) × (Option Addr × Nat))=>[(4,.slice qa qs.length qc),(5,.bool vb),(6,B m6),(10,.pointer (some ⟨b10,0,none⟩)),(15,I (n:Nat)),(18,I (wt:Nat)),(19,.pointer (some ⟨b19,0,none⟩)),(20,.slice x96.2.1 ((gsl n).length) x96.2.2),(22,.slice yp.1 (n + 1) yp.2),(25,.pointer (some ⟨b25,0,none⟩)),(27,I (j:Nat))]) (fun j R y=>[.row y.2.1 y.2.2 71 67 j (rtc R),.row y.1.1 y.1.2 49 5 ((LK j).length) (lsc (LK j)),.blk b25 (.cells #[I (kd:Nat),.slice y.1.1 ((LK j).length) y.1.2,.slice y.2.1 j y.2.2] 36 (0,0)),.row yp.1 yp.2 27 5 (n + 1) (pnc (UU (tP n N wt k) x96.1.1 x96.1.2 n)),.blk b19 (.cells #[I 0,I (pp 4 (dscal k lbRec):Nat),.slice x96.1.1 ((gsl n).length) x96.1.2,I ((N + 1:Nat):Int),I (wt:Nat)] 27 (0,0)),.row x96.2.1 x96.2.2 62 2 ((gsl n).length) (shc (sN (spl (cof (expand k lbShs []) (dscal k lbRec) N) (gsl n).length))),.row x96.1.1 x96.1.2 3 1 ((gsl n).length) (is (gsl n)),.row yg.1 yg.2 3 1 ((gsl n).length) (is (gsl n)),.blk b10 (.cells (bs k).toArray 23 (0,0))]) (fun j R y=>j ≤ n + 1 ∧ R.length = j ∧ (∀ x ∈ R,RtOk x) ∧ j ≤ y.2.2) (fun j _ _=>n + 1 - j) 0 [] ((none,0),(none,0)) ⟨Nat.zero_le _,rfl,(fun _ h=>by cases h),Nat.le_refl _⟩ ⟨rfl,rfl,rfl,rfl,rfl,rfl,rfl,rfl,rfl,rfl,rfl,trivial⟩ (List.Sublist.refl _) ?_
      rintro j R y ⟨hj,rfl,hRo,hRc⟩
      have hlk:(LK R.length).length = R.length:=LK_length _
      by_cases hlt:R.length ≤ n
      · obtain ⟨px,hxi,hpx⟩:=UU_at (tP n N wt k) rfl x96.1.1 x96.1.2 hlt
        refine c_seq<|c_seq<|c_reg<|s_y y_mv<|s_y y_mv<|s_kt (y_leq (p:=(R.length:Nat)) (q:=(n:Nat))) (by omega)<|s_nil<|q_then<|c_t<|c_skip<|q_then<|c_seq<|c_block<|c_seq<|c_reg<|s_y y_mv<|s_y (y_add (p:=100) (q:=(R.length:Nat)))<|s_y y_as<|s_nil<|q_then<|c_seq<|c_reg<|s_y y_mv<|s_pure (fun w' hw=>sPublic_yes w' (100 + R.length) (by omega) (by omega))<|s_y y_mv<|s_y y_ext<|s_y y_ext<|s_y y_as<|s_y y_as<|s_nil<|q_then<|c_seq<|c_reg<|s_y y_mv<|s_y (y_mul (p:=(R.length:Nat)) (q:=8))<|s_y y_mv<|s_y y_mv<|s_y y_mv<|s_y (y_mul (p:=(R.length:Nat)) (q:=8))<|s_y y_mv<|s_pure (fun w' hw=>Certify1_yes w' (R.length * 8:Nat) (pp 4 (100 + R.length):Nat) (pp 4 (100 + R.length):Nat) 1 (100 + R.length) ⟨by omega,by decide,chk_pub _,chk_pub _⟩ (hg.st hw).1 (by omega) (by omega))<|s_y y_mv<|s_y y_ext<|s_y y_ext<|s_alloc fun b31=>s_sta (b:=b31) (vs:=#[I 1,I (R.length * 8:Nat),I (pp 4 (100 + R.length):Nat),I (pp 4 (100 + R.length):Nat),I 1,I (R.length * 8:Nat),I (sgR (100 + R.length) (cmsg [1,(R.length * 8:Nat),(pp 4 (100 + R.length):Nat),(pp 4 (100 + R.length):Nat),1,(R.length * 8:Nat)]):Nat),I (sgS (100 + R.length) (cmsg [1,(R.length * 8:Nat),(pp 4 (100 + R.length):Nat),(pp 4 (100 + R.length):Nat),1,(R.length * 8:Nat)]):Nat)]) (cs:=#[I 0,I 0,I 0,I 0,I 0,I 0,I 0,I 0]) (h1:=one_allA rfl) (hl:=(show (8:Nat) = 8 from rfl)) (hs1:=rfl) ?_
        refine s_y y_as<|s_nil<|q_then<|c_seq<|c_reg<|s_y y_mv<|s_y y_fa<|s_y (y_ld (b:=b25) (v:=.slice y.1.1 ((LK R.length).length) y.1.2))<|s_y (y_lda (b:=b31) (cs:=#[I 1,I (R.length * 8:Nat),I (pp 4 (100 + R.length):Nat),I (pp 4 (100 + R.length):Nat),I 1,I (R.length * 8:Nat),I (sgR (100 + R.length) (cmsg [1,(R.length * 8:Nat),(pp 4 (100 + R.length):Nat),(pp 4 (100 + R.length):Nat),1,(R.length * 8:Nat)]):Nat),I (sgS (100 + R.length) (cmsg [1,(R.length * 8:Nat),(pp 4 (100 + R.length):Nat),(pp 4 (100 + R.length):Nat),1,(R.length * 8:Nat)]):Nat)]) (hl:=rfl))<|s_pure (fun w' hw=>Accept1_ok w' (R.length * 8:Nat) (pp 4 (100 + R.length):Nat) (pp 4 (100 + R.length):Nat) (sgR (100 + R.length) (cmsg [1,(R.length * 8:Nat),(pp 4 (100 + R.length):Nat),(pp 4 (100 + R.length):Nat),1,(R.length * 8:Nat)]):Nat) (sgS (100 + R.length) (cmsg [1,(R.length * 8:Nat),(pp 4 (100 + R.length):Nat),(pp 4 (100 + R.length):Nat),1,(R.length * 8:Nat)]):Nat) (UU (tP n N wt k) x96.1.1 x96.1.2 n) (LK R.length)  px R.length yp.1 y.1.1 (n + 1) yp.2 (LK R.length).length y.1.2 (hg.st hw).1 (rdR (.tail _ (.tail _ (.tail _ (.tail _ (.head _))))) w' hw) (UU_rd (rdR (.tail _ (.tail _ (.tail _ (.tail _ (.tail _ (.tail _ (.tail _ (.head _)))))))) w' hw)) (UU_length _ _ _ _) (by omega) (UU_ok _ _ hn5 hNn hw4) (rdR (.tail _ (.tail _ (.head _))) w' hw) rfl (by omega) (LK_nd _) (LK_fresh _) ⟨by omega,by decide,chk_pub _,chk_pub _⟩ hxi (by omega) (by rw [hpx]; exact LK_first _ (by omega) _ (Nat.le_refl _)) (fun w' a c hg hr=>verifyT w' a c 32 (100 + R.length) _ hg (cmsg_length _) (by decide) hr))<|s_y y_mv<|s_y y_ext<|s_y y_ext<|s_alloc fun b33=>s_sta (b:=b33) (vs:=#[I (R.length * 8:Nat),I (pp 4 (100 + R.length):Nat),I (pp 4 (100 + R.length):Nat),I 1,.bool false]) (cs:=#[I 0,I 0,I 0,I 0,.bool false]) (h1:=one_allA rfl) (hl:=rfl) (hs1:=rfl) ?_
        refine s_y y_as<|s_nil<|q_then<|c_seq<|c_reg<|s_y (y_lda (b:=b25) (cs:=#[I (kd:Nat),.slice y.1.1 ((LK R.length).length) y.1.2,.slice y.2.1 R.length y.2.2]) (hl:=rfl))<|s_y (y_lda (b:=b33) (cs:=#[I (R.length * 8:Nat),I (pp 4 (100 + R.length):Nat),I (pp 4 (100 + R.length):Nat),I 1,.bool false]) (hl:=rfl))<|s_gives (fun w' hw=>Set_ok w' kd (LK R.length) [] R (lkE R.length) y.1.1 y.2.1 (LK R.length).length y.1.2 y.2.2 (hg.st hw).1 (by rw [List.append_nil]; exact (rdR (.tail _ (.tail _ (.tail _ (.head _)))) w' hw)) (rdR (.tail _ (.tail _ (.head _))) w' hw) (by rw [List.append_nil]) (by rw [List.append_nil]; exact LK_ok (by omega)) (lkE_ok (by omega)) rfl (LK_lt _) (fun b hb=>by cases hb) hRo (by omega) (by omega) hRc hkd0 hkd1) fun (x167:(Option Addr × Nat) × (Option Addr × Nat)) hx167=>?_
        rw [← LK_succ,show (LK R.length).length + 1 = (LK (R.length + 1)).length by rw [LK_length,LK_length]]
        refine s_y y_mv<|s_y y_ext<|s_y y_ext<|s_alloc fun b35=>s_sta (b:=b35) (vs:=#[I (kd:Nat),.slice x167.1.1 ((LK (R.length + 1)).length) x167.1.2,.slice x167.2.1 (R.length + 1) x167.2.2]) (cs:=#[I 0,.slice none 0 0,.slice none 0 0]) (h1:=one_allA rfl) (hl:=rfl) (hs1:=rfl) ?_
        refine s_y y_as<|s_nil<|q_then<|c_seq<|c_seq<|c_reg<|s_y y_mv<|s_nf (y_neq (p:=0) (q:=0)) (by omega)<|s_y y_mv<|s_y y_mv<|s_nf (y_neq (p:=0) (q:=0)) (by omega)<|s_y y_pk<|s_y y_mv<|s_y y_mv<|s_nf (y_neq (p:=0) (q:=0)) (by omega)<|s_y y_pk<|s_y y_mv<|s_y y_mv<|s_nf (y_neq (p:=0) (q:=0)) (by omega)<|s_y y_pk<|s_nil<|q_then<|c_f<|c_skip<|q_then<|c_reg<|s_y (y_lda (b:=b35) (cs:=#[I (kd:Nat),.slice x167.1.1 ((LK (R.length + 1)).length) x167.1.2,.slice x167.2.1 (R.length + 1) x167.2.2]) (hl:=rfl))<|s_sta (b:=b25) (vs:=#[I (kd:Nat),.slice x167.1.1 ((LK (R.length + 1)).length) x167.1.2,.slice x167.2.1 (R.length + 1) x167.2.2]) (cs:=#[I (kd:Nat),.slice y.1.1 ((LK R.length).length) y.1.2,.slice y.2.1 R.length y.2.2]) (h1:=one_allA rfl) (hl:=rfl) (hs1:=rfl) ?_
        refine s_nil<|q_nb<|q_then<|c_reg<|s_y y_mv<|s_y (y_add (p:=(R.length:Nat)) (q:=1))<|s_y y_as<|s_nil<|?_
        refine q_round3 (x:=R.length) (y:=R) (z:=y) (R.length + 1) (R ++ [nRt kd (LK (R.length + 1)) R]) x167 ⟨by omega,List.length_append,RtOk_snoc hRo (by omega),hx167⟩ (by omega) ⟨rfl,rfl,rfl,rfl,rfl,rfl,rfl,rfl,rfl,rfl,rfl,trivial⟩ (by repeat (first | exact List.nil_sublist _ | exact List.Sublist.refl _ | apply List.Sublist.cons_cons | apply List.Sublist.cons))
      · have hRn:R.length = n + 1:=by omega
        have hLK:LK R.length = [lkE 0] ++ LB n:=by rw [hRn]; exact LK_split n
        have hbc:Blg (tP n N wt k) (tC n N wt k R.length):=tC_ok (by omega)
        refine c_seq<|c_seq<|c_reg<|s_y y_mv<|s_y y_mv<|s_kf (y_leq (p:=(R.length:Nat)) (q:=(n:Nat))) (by omega)<|s_nil<|q_then<|c_f<|c_exit<|q_ex<|q_ex<|q_exb<|q_then<|c_seq<|c_reg<|s_y y_fa<|s_y (y_ld (b:=b25) (v:=.slice y.2.1 R.length y.2.2))<|s_y y_len<|s_y y_as<|s_nil<|q_then<|c_seq<|c_reg<|s_pure (fun w' hw=>sPublic_yes w' 77 (by omega) (by omega))<|s_y y_mv<|s_y y_ext<|s_y y_ext<|s_y y_as<|s_y y_as<|s_nil<|q_then<|c_seq<|c_reg<|s_pure (fun w' hw=>sPublic_yes w' 78 (by omega) (by omega))<|s_y y_mv<|s_y y_ext<|s_y y_ext<|s_y y_as<|s_y y_as<|s_nil<|q_then<|c_seq<|c_reg<|s_y (y_lda (b:=b19) (cs:=#[I 0,I (pp 4 (dscal k lbRec):Nat),.slice x96.1.1 ((gsl n).length) x96.1.2,I ((N + 1:Nat):Int),I (wt:Nat)]) (hl:=rfl))<|s_y y_mv<|s_y y_mv<|s_y y_mv<|s_pure (fun w' hw=>Open_y w' (tP n N wt k) x96.1.1 x96.1.2 (rdR (.tail _ (.tail _ (.tail _ (.tail _ (.tail _ (.tail _ (.head _))))))) w' hw) (show (gsl n).length ≤ 1000000000000000 by omega) 3 (pp 4 77:Nat) (pp 4 78:Nat) (R.length:Nat) hps hbc)<|s_y y_mv<|s_y y_ext<|s_y y_ext<|s_alloc fun b42=>s_sta (b:=b42) (vs:=#[I 0,I 3,I (pp 4 77:Nat),I (pp 4 78:Nat),I (R.length:Nat),.slice none 0 0,.slice none 0 0]) (cs:=#[I 0,I 0,I 0,I 0,I 0,.slice none 0 0,.slice none 0 0]) (h1:=one_allA rfl) (hl:=rfl) (hs1:=rfl) ?_
        refine s_y y_as<|s_nil<|q_then<|c_seq<|c_seq<|c_reg<|s_y y_mv<|s_nf (y_neq (p:=0) (q:=0)) (by omega)<|s_y y_mv<|s_y y_mv<|s_nf (y_neq (p:=0) (q:=0)) (by omega)<|s_y y_pk<|s_y y_mv<|s_y y_mv<|s_nf (y_neq (p:=0) (q:=0)) (by omega)<|s_y y_pk<|s_nil<|q_then<|c_f<|c_skip<|q_then<|c_seq<|c_reg<|s_mkmap (.inl rfl) fun m44=>s_y y_as<|s_nil<|q_then<|c_seq<|c_seq<|c_reg<|s_y y_mv<|s_y y_len<|s_y y_mv<|s_nil<|q_then<|c_block<|?_
        refine c_nilrow 116 5<|c_loop4 (fun (i:Nat) (L:List Ap) (ya:Option Addr × Nat) (m:Nat)=>[(5,.bool vb),(6,B m6),(10,.pointer (some ⟨b10,0,none⟩)),(15,I (n:Nat)),(18,I (wt:Nat)),(19,.pointer (some ⟨b19,0,none⟩)),(20,.slice x96.2.1 ((gsl n).length) x96.2.2),(22,.slice yp.1 (n + 1) yp.2),(25,.pointer (some ⟨b25,0,none⟩)),(37,I (R.length:Nat)),(38,I (pp 4 77:Nat)),(40,I (pp 4 78:Nat)),(42,.pointer (some ⟨b42,0,none⟩)),(44,.map (some m44)),(215,.slice qa qs.length qc),(216,I qs.length),(217,I (i:Nat))]) (fun i L ya m=>.row ya.1 ya.2 116 5 m (apc L) :: mblk m44 (KM L) :: .blk b42 (.cells #[I 0,I 3,I (pp 4 77:Nat),I (pp 4 78:Nat),I (R.length:Nat),.slice ya.1 m ya.2,.slice none 0 0] 56 (0,0)) :: .row y.2.1 y.2.2 71 67 R.length (rtc R) :: .row y.1.1 y.1.2 49 5 ((LK R.length).length) (lsc (LK R.length)) :: .blk b25 (.cells #[I (kd:Nat),.slice y.1.1 ((LK R.length).length) y.1.2,.slice y.2.1 R.length y.2.2] 36 (0,0)) :: .row yp.1 yp.2 27 5 (n + 1) (pnc (UU (tP n N wt k) x96.1.1 x96.1.2 n)) :: .blk b19 (.cells #[I 0,I (pp 4 (dscal k lbRec):Nat),.slice x96.1.1 ((gsl n).length) x96.1.2,I ((N + 1:Nat):Int),I (wt:Nat)] 27 (0,0)) :: .row x96.2.1 x96.2.2 62 2 ((gsl n).length) (shc (sN (spl (cof (expand k lbShs []) (dscal k lbRec) N) (gsl n).length))) :: .row x96.1.1 x96.1.2 3 1 ((gsl n).length) (is (gsl n)) :: .row yg.1 yg.2 3 1 ((gsl n).length) (is (gsl n)) :: .blk b10 (.cells (bs k).toArray 23 (0,0)) :: bods 5 L) (fun i L ya m=>i ≤ qs.length ∧ L.length = m ∧ m ≤ i ∧ AInv (tP n N wt k) (tC n N wt k R.length) (cof (expand k lbShs []) (dscal k lbRec) N) L ya.2) (fun i _ _ _=>qs.length - i) 0 [] (none,0) 0 ⟨Nat.zero_le _,rfl,Nat.le_refl _,.nil hbc⟩ ⟨rfl,rfl,rfl,rfl,rfl,rfl,rfl,rfl,rfl,rfl,rfl,rfl,rfl,rfl,rfl,rfl,rfl,trivial⟩ (List.Sublist.refl _) ?_
        rintro i L ya m ⟨hi,rfl,hm,hI⟩
        have hL8:L.length ≤ 1000000:=by omega
        by_cases hlt:i < qs.length
        · obtain ⟨q,hq⟩:∃ q,qs.getD i 0 = q:=⟨_,rfl⟩
          have hqb:q.toNat < 256:=by have:=q.toNat_lt; omega
          obtain ⟨kk,hkk,hkl⟩:∃ kk:Nat,((q.toNat:Nat):Int) % ((n:Nat):Int) = (kk:Int) ∧ kk < n:=modn q.toNat hn5.1
          have hgi:(tP n N wt k).gs[kk]? = some ((kk + 1:Nat):Int):=gsl_get hkl
          have hRg:R64 ((kk + 1:Nat):Int):=by unfold R64; omega
          by_cases hin:((kk + 1:Nat):Int) ∈ L.map Ap.g
          · refine c_seq<|c_reg<|s_kt (y_lss (p:=(i:Nat)) (q:=qs.length)) (by omega)<|s_nil<|q_then<|c_seq<|c_t<|c_skip<|q_then<|c_seq<|c_block<|c_seq<|c_reg<|s_y (y_ixs1 (xs:=bs qs) (i:=((i:Nat):Int)) (hr:=rdW0 hrq))<|s_y (y_ldb (i:=i) (q:=qs) (hr:=rdW0 hrq) (hi:=by omega))<|?_
            rw [hq]
            refine s_y y_as<|s_nil<|q_then<|c_seq<|c_reg<|s_y y_mv<|s_y y_cvb<|s_y y_mv<|s_y (y_rem (p:=q.toNat) (q:=(n:Nat)))<|?_
            rw [hkk]
            refine s_y y_as<|s_nil<|q_then<|c_seq<|c_reg<|s_y y_mv<|s_y (y_add (p:=101) (q:=(kk:Nat)))<|s_pure (fun w' hw=>sPublic_yes w' (101 + kk) (by omega) (by omega))<|s_y y_mv<|s_y y_ext<|s_y y_ext<|s_y y_as<|s_y y_as<|s_nil<|q_then<|c_seq<|c_reg<|s_y (y_lda (b:=b10) (cs:=(bs k).toArray) (hl:=(hz32 hk)))<|s_alloc fun b50=>s_sta (b:=b50) (vs:=(bs k).toArray) (cs:=(bs (List.replicate 32 0)).toArray) (h1:=fun v hv=>bs_one (by simpa using hv)) (hl:=((hz32 hk)).trans ((hz32 List.length_replicate)).symm) (hs1:=(hz32 hk)) ?_
            refine s_nil<|q_then<|c_seq<|c_reg<|s_y y_mv<|s_y (y_ixa1 (i:=((kk:Nat):Int)))<|s_y (y_ldb (a:=some ⟨b50,0,none⟩) (i:=kk) (q:=k) (hr:=rd_blkB (e:=23) (.head _)) (hi:=by omega))<|s_y y_mv<|s_y (y_add (p:=(kk:Nat)) (q:=1))<|s_y (y_cv8 (p:=((kk:Nat):Int) + 1))<|s_y y_xor8<|s_y (y_ixa1 (i:=((kk:Nat):Int)))<|s_stb (b:=b50) (off:=0 + kk) (q:=k) (p:=(k.getD kk 0 ^^^ UInt8.ofNat ((((kk:Nat):Int) + 1) % 256).toNat)) ?_
            obtain ⟨ck,hck,hckl⟩:∃ ck,k.set (0 + kk) (k.getD kk 0 ^^^ UInt8.ofNat ((((kk:Nat):Int) + 1) % 256).toNat) = ck ∧ ck.length = 32:=⟨_,rfl,by rw [List.length_set]; exact hk⟩
            rw [hck]
            refine s_nil<|q_then<|c_seq<|c_regL [.blk b50 (.cells (bs ck).toArray 23 (0,0)),.row ya.1 ya.2 116 5 L.length (apc L),mblk m44 (KM L),.blk b42 (.cells #[I 0,I 3,I (pp 4 77:Nat),I (pp 4 78:Nat),I (R.length:Nat),.slice ya.1 L.length ya.2,.slice none 0 0] 56 (0,0)),.row y.2.1 y.2.2 71 67 R.length (rtc R),.row y.1.1 y.1.2 49 5 ((LK R.length).length) (lsc (LK R.length)),.blk b25 (.cells #[I (kd:Nat),.slice y.1.1 ((LK R.length).length) y.1.2,.slice y.2.1 R.length y.2.2] 36 (0,0)),.row yp.1 yp.2 27 5 (n + 1) (pnc (UU (tP n N wt k) x96.1.1 x96.1.2 n)),.blk b19 (.cells #[I 0,I (pp 4 (dscal k lbRec):Nat),.slice x96.1.1 ((gsl n).length) x96.1.2,I ((N + 1:Nat):Int),I (wt:Nat)] 27 (0,0)),.row x96.2.1 x96.2.2 62 2 ((gsl n).length) (shc (sN (spl (cof (expand k lbShs []) (dscal k lbRec) N) (gsl n).length))),.row x96.1.1 x96.1.2 3 1 ((gsl n).length) (is (gsl n)),.row yg.1 yg.2 3 1 ((gsl n).length) (is (gsl n)),.blk b10 (.cells (bs k).toArray 23 (0,0))]<|r_y 0 rfl (y_lda (b:=b19) (cs:=#[I 0,I (pp 4 (dscal k lbRec):Nat),.slice x96.1.1 ((gsl n).length) x96.1.2,I ((N + 1:Nat):Int),I (wt:Nat)]) (hl:=rfl))<|r_y 1 rfl (y_lda (b:=b42) (cs:=#[I 0,I 3,I (pp 4 77:Nat),I (pp 4 78:Nat),I (R.length:Nat),.slice ya.1 L.length ya.2,.slice none 0 0]) (hl:=rfl))<|r_y 2 rfl y_mv<|r_y 3 rfl (y_add (p:=(kk:Nat)) (q:=1))<|r_y 4 rfl y_mv<|r_y 5 rfl y_mv<|r_y 6 rfl (y_ixs (xs:=shc (sN (spl (cof (expand k lbShs []) (dscal k lbRec) N) (gsl n).length))) (i:=((kk:Nat):Int)) (hr:=(rdR (.tail _ (.tail _ (.tail _ (.tail _ (.tail _ (.tail _ (.tail _ (.tail _ (.tail _ (.head _)))))))))))) (hl:=by rw [shc_length,sN_length,spl_length]; omega) (h1:=by omega))<|r_y 7 rfl (y_ldra (i:=(kk) * 2) (cs:=[I (kk + 1:Nat),I (hor (cof (expand k lbShs []) (dscal k lbRec) N) (kk + 1):Nat)]) (rdR (.tail _ (.tail _ (.tail _ (.tail _ (.tail _ (.tail _ (.tail _ (.tail _ (.tail _ (.head _))))))))))) rfl (fun j v h=>shc_atA (spl_at (i:=kk) (by omega)) h))<|r_y 8 rfl y_mv<|r_y 9 rfl y_mv<|r_y 10 rfl (y_add (p:=101) (q:=(kk:Nat)))<|r_y 11 rfl (y_lda (b:=b50) (cs:=(bs ck).toArray) (hl:=(hz32 hckl)))<|r_w2 12 16 rfl rfl ?_ ?_ (hsub:=by repeat (first | exact List.nil_sublist _ | exact List.Sublist.refl _ | apply List.Sublist.cons_cons | apply List.Sublist.cons))
            · refine s_pure (fun w' hw=>Approve_n2 w' (tP n N wt k) (apl (tC n N wt k R.length) L) x96.1.1 ya.1 none x96.1.2 ya.2 0 ((kk + 1:Nat):Int) (kk + 1:Nat) (hor (cof (expand k lbShs []) (dscal k lbRec) N) (kk + 1):Nat) (pp 4 (101 + kk):Nat) (101 + kk:Nat) ck (hg.st hw) hckl (rdR (.tail _ (.tail _ (.tail _ (.tail _ (.tail _ (.tail _ (.tail _ (.tail _ (.tail _ (.tail _ (.head _))))))))))) w' hw) hgl (rdR (.tail _ (.head _)) w' hw) hI.l (Rd.nil _ _) hL8 (Nat.zero_le _) hps (fun h=>h.n hin))<|r_K<|r_y 13 rfl y_mv<|r_y 14 rfl y_ext<|r_y 15 rfl y_ext<|r_W 16 rfl<|s_alloc fun b51=>r_K<|r_W 17 rfl<|s_sta (b:=b51) (vs:=#[I 0,I 0,I 0,I 0,I 0,.slice none 0 0,.slice none 0 0]) (cs:=#[I 0,I 0,I 0,I 0,I 0,.slice none 0 0,.slice none 0 0]) (h1:=one_allA rfl) (hl:=rfl) (hs1:=rfl) ?_
              refine r_K<|r_y 18 rfl y_as<|r_E<|q_then<|c_seq<|c_seq<|c_reg<|s_y y_mv<|s_nf (y_neq (p:=0) (q:=0)) (by omega)<|s_y y_mv<|s_y y_mv<|s_kf (y_eql (p:=390) (q:=0)) (by omega)<|s_y y_mv<|s_y y_mv<|s_y (v:=.bool true) (y_lookY (c2:=false) (k:=((kk:Nat):Int)) (kv:=KM L) (kvs_in (ML_in hin)) kvs_all)<|s_y (v:=.bool false) (y_eqlb (a:=false) (b:=true))<|s_y y_pk<|s_nil<|q_then<|c_f<|c_skip<|q_then<|c_seq<|c_reg<|s_y y_mv<|s_kf (y_eql (p:=390) (q:=0)) (by omega)<|s_nil<|q_then<|c_f<|c_skip<|q_nb<|q_then<|c_reg<|s_y (y_add (p:=(i:Nat)) (q:=1))<|s_y y_mv<|s_nil<|?_
              refine q_round4 (x:=i) (y:=L) (z:=ya) (u:=L.length) (i + 1) L ya L.length ⟨by omega,rfl,by omega,hI⟩ (by omega) ⟨rfl,rfl,rfl,rfl,rfl,rfl,rfl,rfl,rfl,rfl,rfl,rfl,rfl,rfl,rfl,rfl,rfl,trivial⟩ (by repeat (first | exact List.nil_sublist _ | exact List.Sublist.refl _ | apply List.Sublist.cons_cons | apply List.Sublist.cons))
            · refine s_alloc fun b51=>r_K<|r_W 12 rfl<|s_pure (fun w' hw=>Approve_n2 w' (tP n N wt k) (apl (tC n N wt k R.length) L) x96.1.1 ya.1 none x96.1.2 ya.2 0 ((kk + 1:Nat):Int) (kk + 1:Nat) (hor (cof (expand k lbShs []) (dscal k lbRec) N) (kk + 1):Nat) (pp 4 (101 + kk):Nat) (101 + kk:Nat) ck (hg.st hw) hckl (rdR (.tail _ (.tail _ (.tail _ (.tail _ (.tail _ (.tail _ (.tail _ (.tail _ (.tail _ (.tail _ (.tail _ (.head _)))))))))))) w' hw) hgl (rdR (.tail _ (.tail _ (.head _))) w' hw) hI.l (Rd.nil _ _) hL8 (Nat.zero_le _) hps (fun h=>h.n hin))<|r_K<|r_y 13 rfl y_mv<|r_y 14 rfl y_ext<|r_y 15 rfl y_ext<|r_W 17 rfl<|s_sta (b:=b51) (vs:=#[I 0,I 0,I 0,I 0,I 0,.slice none 0 0,.slice none 0 0]) (cs:=#[I 0,I 0,I 0,I 0,I 0,.slice none 0 0,.slice none 0 0]) (h1:=one_allA rfl) (hl:=rfl) (hs1:=rfl) ?_
              refine r_K<|r_y 18 rfl y_as<|r_E<|q_then<|c_seq<|c_seq<|c_reg<|s_y y_mv<|s_nf (y_neq (p:=0) (q:=0)) (by omega)<|s_y y_mv<|s_y y_mv<|s_kf (y_eql (p:=390) (q:=0)) (by omega)<|s_y y_mv<|s_y y_mv<|s_y (v:=.bool true) (y_lookY (c2:=false) (k:=((kk:Nat):Int)) (kv:=KM L) (kvs_in (ML_in hin)) kvs_all)<|s_y (v:=.bool false) (y_eqlb (a:=false) (b:=true))<|s_y y_pk<|s_nil<|q_then<|c_f<|c_skip<|q_then<|c_seq<|c_reg<|s_y y_mv<|s_kf (y_eql (p:=390) (q:=0)) (by omega)<|s_nil<|q_then<|c_f<|c_skip<|q_nb<|q_then<|c_reg<|s_y (y_add (p:=(i:Nat)) (q:=1))<|s_y y_mv<|s_nil<|?_
              refine q_round4 (x:=i) (y:=L) (z:=ya) (u:=L.length) (i + 1) L ya L.length ⟨by omega,rfl,by omega,hI⟩ (by omega) ⟨rfl,rfl,rfl,rfl,rfl,rfl,rfl,rfl,rfl,rfl,rfl,rfl,rfl,rfl,rfl,rfl,rfl,trivial⟩ (by repeat (first | exact List.nil_sublist _ | exact List.Sublist.refl _ | apply List.Sublist.cons_cons | apply List.Sublist.cons))
          · refine c_seq<|c_reg<|s_kt (y_lss (p:=(i:Nat)) (q:=qs.length)) (by omega)<|s_nil<|q_then<|c_seq<|c_t<|c_skip<|q_then<|c_seq<|c_block<|c_seq<|c_reg<|s_y (y_ixs1 (xs:=bs qs) (i:=((i:Nat):Int)) (hr:=rdW0 hrq))<|s_y (y_ldb (i:=i) (q:=qs) (hr:=rdW0 hrq) (hi:=by omega))<|?_
            rw [hq]
            refine s_y y_as<|s_nil<|q_then<|c_seq<|c_reg<|s_y y_mv<|s_y y_cvb<|s_y y_mv<|s_y (y_rem (p:=q.toNat) (q:=(n:Nat)))<|?_
            rw [hkk]
            refine s_y y_as<|s_nil<|q_then<|c_seq<|c_reg<|s_y y_mv<|s_y (y_add (p:=101) (q:=(kk:Nat)))<|s_pure (fun w' hw=>sPublic_yes w' (101 + kk) (by omega) (by omega))<|s_y y_mv<|s_y y_ext<|s_y y_ext<|s_y y_as<|s_y y_as<|s_nil<|q_then<|c_seq<|c_reg<|s_y (y_lda (b:=b10) (cs:=(bs k).toArray) (hl:=(hz32 hk)))<|s_alloc fun b50=>s_sta (b:=b50) (vs:=(bs k).toArray) (cs:=(bs (List.replicate 32 0)).toArray) (h1:=fun v hv=>bs_one (by simpa using hv)) (hl:=((hz32 hk)).trans ((hz32 List.length_replicate)).symm) (hs1:=(hz32 hk)) ?_
            refine s_nil<|q_then<|c_seq<|c_reg<|s_y y_mv<|s_y (y_ixa1 (i:=((kk:Nat):Int)))<|s_y (y_ldb (a:=some ⟨b50,0,none⟩) (i:=kk) (q:=k) (hr:=rd_blkB (e:=23) (.head _)) (hi:=by omega))<|s_y y_mv<|s_y (y_add (p:=(kk:Nat)) (q:=1))<|s_y (y_cv8 (p:=((kk:Nat):Int) + 1))<|s_y y_xor8<|s_y (y_ixa1 (i:=((kk:Nat):Int)))<|s_stb (b:=b50) (off:=0 + kk) (q:=k) (p:=(k.getD kk 0 ^^^ UInt8.ofNat ((((kk:Nat):Int) + 1) % 256).toNat)) ?_
            obtain ⟨ck,hck,hckl⟩:∃ ck,k.set (0 + kk) (k.getD kk 0 ^^^ UInt8.ofNat ((((kk:Nat):Int) + 1) % 256).toNat) = ck ∧ ck.length = 32:=⟨_,rfl,by rw [List.length_set]; exact hk⟩
            rw [hck]
            refine s_nil<|q_then<|c_seq<|c_regL [.blk b50 (.cells (bs ck).toArray 23 (0,0)),.row ya.1 ya.2 116 5 L.length (apc L),mblk m44 (KM L),.blk b42 (.cells #[I 0,I 3,I (pp 4 77:Nat),I (pp 4 78:Nat),I (R.length:Nat),.slice ya.1 L.length ya.2,.slice none 0 0] 56 (0,0)),.row y.2.1 y.2.2 71 67 R.length (rtc R),.row y.1.1 y.1.2 49 5 ((LK R.length).length) (lsc (LK R.length)),.blk b25 (.cells #[I (kd:Nat),.slice y.1.1 ((LK R.length).length) y.1.2,.slice y.2.1 R.length y.2.2] 36 (0,0)),.row yp.1 yp.2 27 5 (n + 1) (pnc (UU (tP n N wt k) x96.1.1 x96.1.2 n)),.blk b19 (.cells #[I 0,I (pp 4 (dscal k lbRec):Nat),.slice x96.1.1 ((gsl n).length) x96.1.2,I ((N + 1:Nat):Int),I (wt:Nat)] 27 (0,0)),.row x96.2.1 x96.2.2 62 2 ((gsl n).length) (shc (sN (spl (cof (expand k lbShs []) (dscal k lbRec) N) (gsl n).length))),.row x96.1.1 x96.1.2 3 1 ((gsl n).length) (is (gsl n)),.row yg.1 yg.2 3 1 ((gsl n).length) (is (gsl n)),.blk b10 (.cells (bs k).toArray 23 (0,0))]<|r_y 0 rfl (y_lda (b:=b19) (cs:=#[I 0,I (pp 4 (dscal k lbRec):Nat),.slice x96.1.1 ((gsl n).length) x96.1.2,I ((N + 1:Nat):Int),I (wt:Nat)]) (hl:=rfl))<|r_y 1 rfl (y_lda (b:=b42) (cs:=#[I 0,I 3,I (pp 4 77:Nat),I (pp 4 78:Nat),I (R.length:Nat),.slice ya.1 L.length ya.2,.slice none 0 0]) (hl:=rfl))<|r_y 2 rfl y_mv<|r_y 3 rfl (y_add (p:=(kk:Nat)) (q:=1))<|r_y 4 rfl y_mv<|r_y 5 rfl y_mv<|r_y 6 rfl (y_ixs (xs:=shc (sN (spl (cof (expand k lbShs []) (dscal k lbRec) N) (gsl n).length))) (i:=((kk:Nat):Int)) (hr:=(rdR (.tail _ (.tail _ (.tail _ (.tail _ (.tail _ (.tail _ (.tail _ (.tail _ (.tail _ (.head _)))))))))))) (hl:=by rw [shc_length,sN_length,spl_length]; omega) (h1:=by omega))<|r_y 7 rfl (y_ldra (i:=(kk) * 2) (cs:=[I (kk + 1:Nat),I (hor (cof (expand k lbShs []) (dscal k lbRec) N) (kk + 1):Nat)]) (rdR (.tail _ (.tail _ (.tail _ (.tail _ (.tail _ (.tail _ (.tail _ (.tail _ (.tail _ (.head _))))))))))) rfl (fun j v h=>shc_atA (spl_at (i:=kk) (by omega)) h))<|r_y 8 rfl y_mv<|r_y 9 rfl y_mv<|r_y 10 rfl (y_add (p:=101) (q:=(kk:Nat)))<|r_y 11 rfl (y_lda (b:=b50) (cs:=(bs ck).toArray) (hl:=(hz32 hckl)))<|r_w2 12 16 rfl rfl ?_ ?_ (hsub:=by repeat (first | exact List.nil_sublist _ | exact List.Sublist.refl _ | apply List.Sublist.cons_cons | apply List.Sublist.cons))
            · refine s_gives (fun w' hw=>Approve_y w' (tP n N wt k) (apl (tC n N wt k R.length) L) x96.1.1 ya.1 none x96.1.2 ya.2 0 ((kk + 1:Nat):Int) (pp 4 (101 + kk):Nat) ck (kk + 1) (hor (cof (expand k lbShs []) (dscal k lbRec) N) (kk + 1)) (101 + kk) (hg.st hw) hckl (rdR (.tail _ (.tail _ (.tail _ (.tail _ (.tail _ (.tail _ (.tail _ (.tail _ (.tail _ (.tail _ (.head _))))))))))) w' hw) hgl (rdR (.tail _ (.head _)) w' hw) hI.l (Rd.nil _ _) hL8 (Nat.zero_le _) (blg_r5 hps hI.b) hRg hps (apRt_of hps hI.b hgi hin) (by omega) (by omega) rfl) fun (x253:AX) _=>?_
              refine s_row (fun hka _=>s_row (fun hkb _=>?_) (hm:=.tail _ (.head _))) (hm:=.head _)
              refine r_K<|r_y 13 rfl y_mv<|r_y 14 rfl y_ext<|r_y 15 rfl y_ext<|r_W 16 rfl<|s_alloc fun b51=>r_K<|r_W 17 rfl<|s_sta (b:=b51) (vs:=#[I 0,I 3,I (pp 4 77:Nat),I (pp 4 78:Nat),I (R.length:Nat),.slice x253.aa (L.length + 1) x253.ac,.slice none 0 0]) (cs:=#[I 0,I 0,I 0,I 0,I 0,.slice none 0 0,.slice none 0 0]) (h1:=one_allA rfl) (hl:=rfl) (hs1:=rfl) ?_
              refine r_K<|r_y 18 rfl y_as<|r_E<|q_then<|c_seq<|c_seq<|c_reg<|s_y y_mv<|s_nf (y_neq (p:=0) (q:=0)) (by omega)<|s_y y_mv<|s_y y_mv<|s_kt (y_eql (p:=0) (q:=0)) (by omega)<|s_y y_mv<|s_y y_mv<|s_y (v:=.bool false) (y_lookN (c2:=false) (k:=((kk:Nat):Int)) (kv:=KM L) (kvs_no (ML_no hin)))<|s_y (v:=.bool false) (y_eqlb (a:=true) (b:=false))<|s_y y_pk<|s_nil<|q_then<|c_f<|c_skip<|q_then<|c_seq<|c_reg<|s_y y_mv<|s_kt (y_eql (p:=0) (q:=0)) (by omega)<|s_nil<|q_then<|c_t<|c_reg<|s_y y_mv<|s_y y_mv<|s_y (y_lda (b:=b51) (cs:=#[I 0,I 3,I (pp 4 77:Nat),I (pp 4 78:Nat),I (R.length:Nat),.slice x253.aa (L.length + 1) x253.ac,.slice none 0 0]) (hl:=rfl))<|s_sta (b:=b42) (vs:=#[I 0,I 3,I (pp 4 77:Nat),I (pp 4 78:Nat),I (R.length:Nat),.slice x253.aa (L.length + 1) x253.ac,.slice none 0 0]) (cs:=#[I 0,I 3,I (pp 4 77:Nat),I (pp 4 78:Nat),I (R.length:Nat),.slice ya.1 L.length ya.2,.slice none 0 0]) (h1:=one_allA rfl) (hl:=rfl) (hs1:=rfl) ?_
              refine s_mupd (k:=((kk:Nat):Int)) (kv:=KM L) (v:=.bool true) (hne:=kvs_no (ML_no hin))<|?_
              rw [KM_snoc (z:=nAp (apl (tC n N wt k R.length) L) ((kk + 1:Nat):Int) ck (kk + 1) (hor (cof (expand k lbShs []) (dscal k lbRec) N) (kk + 1)) (101 + kk) x253.ba x253.bc) rfl]
              refine s_nil<|q_nb<|q_then<|c_reg<|s_y (y_add (p:=(i:Nat)) (q:=1))<|s_y y_mv<|s_nil<|?_
              refine q_sub (l':=.row x253.aa x253.ac 116 5 (L.length + 1) (apc (L ++ [nAp (apl (tC n N wt k R.length) L) ((kk + 1:Nat):Int) ck (kk + 1) (hor (cof (expand k lbShs []) (dscal k lbRec) N) (kk + 1)) (101 + kk) x253.ba x253.bc])) :: .row x253.ba x253.bc 5 1 ((wtx (apl (tC n N wt k R.length) L) ((kk + 1:Nat):Int) ck (kk + 1) (hor (cof (expand k lbShs []) (dscal k lbRec) N) (kk + 1))).length) (bs (wtx (apl (tC n N wt k R.length) L) ((kk + 1:Nat):Int) ck (kk + 1) (hor (cof (expand k lbShs []) (dscal k lbRec) N) (kk + 1)))) :: mblk m44 (KM (L ++ [nAp (apl (tC n N wt k R.length) L) ((kk + 1:Nat):Int) ck (kk + 1) (hor (cof (expand k lbShs []) (dscal k lbRec) N) (kk + 1)) (101 + kk) x253.ba x253.bc])) :: .blk b42 (.cells #[I 0,I 3,I (pp 4 77:Nat),I (pp 4 78:Nat),I (R.length:Nat),.slice x253.aa (L.length + 1) x253.ac,.slice none 0 0] 56 (0,0)) :: .row y.2.1 y.2.2 71 67 R.length (rtc R) :: .row y.1.1 y.1.2 49 5 ((LK R.length).length) (lsc (LK R.length)) :: .blk b25 (.cells #[I (kd:Nat),.slice y.1.1 ((LK R.length).length) y.1.2,.slice y.2.1 R.length y.2.2] 36 (0,0)) :: .row yp.1 yp.2 27 5 (n + 1) (pnc (UU (tP n N wt k) x96.1.1 x96.1.2 n)) :: .blk b19 (.cells #[I 0,I (pp 4 (dscal k lbRec):Nat),.slice x96.1.1 ((gsl n).length) x96.1.2,I ((N + 1:Nat):Int),I (wt:Nat)] 27 (0,0)) :: .row x96.2.1 x96.2.2 62 2 ((gsl n).length) (shc (sN (spl (cof (expand k lbShs []) (dscal k lbRec) N) (gsl n).length))) :: .row x96.1.1 x96.1.2 3 1 ((gsl n).length) (is (gsl n)) :: .row yg.1 yg.2 3 1 ((gsl n).length) (is (gsl n)) :: .blk b10 (.cells (bs k).toArray 23 (0,0)) :: bods 5 L) (by repeat (first | exact List.nil_sublist _ | exact List.Sublist.refl _ | apply List.Sublist.cons_cons | apply List.Sublist.cons)) ?_
              refine q_perm (l':=.row x253.aa x253.ac 116 5 (L.length + 1) (apc (L ++ [nAp (apl (tC n N wt k R.length) L) ((kk + 1:Nat):Int) ck (kk + 1) (hor (cof (expand k lbShs []) (dscal k lbRec) N) (kk + 1)) (101 + kk) x253.ba x253.bc])) :: mblk m44 (KM (L ++ [nAp (apl (tC n N wt k R.length) L) ((kk + 1:Nat):Int) ck (kk + 1) (hor (cof (expand k lbShs []) (dscal k lbRec) N) (kk + 1)) (101 + kk) x253.ba x253.bc])) :: .blk b42 (.cells #[I 0,I 3,I (pp 4 77:Nat),I (pp 4 78:Nat),I (R.length:Nat),.slice x253.aa (L.length + 1) x253.ac,.slice none 0 0] 56 (0,0)) :: .row y.2.1 y.2.2 71 67 R.length (rtc R) :: .row y.1.1 y.1.2 49 5 ((LK R.length).length) (lsc (LK R.length)) :: .blk b25 (.cells #[I (kd:Nat),.slice y.1.1 ((LK R.length).length) y.1.2,.slice y.2.1 R.length y.2.2] 36 (0,0)) :: .row yp.1 yp.2 27 5 (n + 1) (pnc (UU (tP n N wt k) x96.1.1 x96.1.2 n)) :: .blk b19 (.cells #[I 0,I (pp 4 (dscal k lbRec):Nat),.slice x96.1.1 ((gsl n).length) x96.1.2,I ((N + 1:Nat):Int),I (wt:Nat)] 27 (0,0)) :: .row x96.2.1 x96.2.2 62 2 ((gsl n).length) (shc (sN (spl (cof (expand k lbShs []) (dscal k lbRec) N) (gsl n).length))) :: .row x96.1.1 x96.1.2 3 1 ((gsl n).length) (is (gsl n)) :: .row yg.1 yg.2 3 1 ((gsl n).length) (is (gsl n)) :: .blk b10 (.cells (bs k).toArray 23 (0,0)) :: .row x253.ba x253.bc 5 1 ((wtx (apl (tC n N wt k R.length) L) ((kk + 1:Nat):Int) ck (kk + 1) (hor (cof (expand k lbShs []) (dscal k lbRec) N) (kk + 1))).length) (bs (wtx (apl (tC n N wt k R.length) L) ((kk + 1:Nat):Int) ck (kk + 1) (hor (cof (expand k lbShs []) (dscal k lbRec) N) (kk + 1)))) :: bods 5 L) (.cons _ (List.perm_middle (l₁:=([mblk m44 (KM (L ++ [nAp (apl (tC n N wt k R.length) L) ((kk + 1:Nat):Int) ck (kk + 1) (hor (cof (expand k lbShs []) (dscal k lbRec) N) (kk + 1)) (101 + kk) x253.ba x253.bc])),.blk b42 (.cells #[I 0,I 3,I (pp 4 77:Nat),I (pp 4 78:Nat),I (R.length:Nat),.slice x253.aa (L.length + 1) x253.ac,.slice none 0 0] 56 (0,0)),.row y.2.1 y.2.2 71 67 R.length (rtc R),.row y.1.1 y.1.2 49 5 ((LK R.length).length) (lsc (LK R.length)),.blk b25 (.cells #[I (kd:Nat),.slice y.1.1 ((LK R.length).length) y.1.2,.slice y.2.1 R.length y.2.2] 36 (0,0)),.row yp.1 yp.2 27 5 (n + 1) (pnc (UU (tP n N wt k) x96.1.1 x96.1.2 n)),.blk b19 (.cells #[I 0,I (pp 4 (dscal k lbRec):Nat),.slice x96.1.1 ((gsl n).length) x96.1.2,I ((N + 1:Nat):Int),I (wt:Nat)] 27 (0,0)),.row x96.2.1 x96.2.2 62 2 ((gsl n).length) (shc (sN (spl (cof (expand k lbShs []) (dscal k lbRec) N) (gsl n).length))),.row x96.1.1 x96.1.2 3 1 ((gsl n).length) (is (gsl n)),.row yg.1 yg.2 3 1 ((gsl n).length) (is (gsl n)),.blk b10 (.cells (bs k).toArray 23 (0,0))]:SH)))) ?_
              refine q_round4 (x:=i) (y:=L) (z:=ya) (u:=L.length) (i + 1) (L ++ [nAp (apl (tC n N wt k R.length) L) ((kk + 1:Nat):Int) ck (kk + 1) (hor (cof (expand k lbShs []) (dscal k lbRec) N) (kk + 1)) (101 + kk) x253.ba x253.bc]) (x253.aa,x253.ac) (L.length + 1) ⟨by omega,List.length_append,by omega,hI.snoc hps hgi hin hka hkb⟩ (by omega) ⟨rfl,rfl,rfl,rfl,rfl,rfl,rfl,rfl,rfl,rfl,rfl,rfl,rfl,rfl,rfl,rfl,rfl,trivial⟩ (show List.Sublist (.row x253.aa x253.ac 116 5 (L.length + 1) (apc (L ++ [nAp (apl (tC n N wt k R.length) L) ((kk + 1:Nat):Int) ck (kk + 1) (hor (cof (expand k lbShs []) (dscal k lbRec) N) (kk + 1)) (101 + kk) x253.ba x253.bc])) :: mblk m44 (KM (L ++ [nAp (apl (tC n N wt k R.length) L) ((kk + 1:Nat):Int) ck (kk + 1) (hor (cof (expand k lbShs []) (dscal k lbRec) N) (kk + 1)) (101 + kk) x253.ba x253.bc])) :: .blk b42 (.cells #[I 0,I 3,I (pp 4 77:Nat),I (pp 4 78:Nat),I (R.length:Nat),.slice x253.aa (L.length + 1) x253.ac,.slice none 0 0] 56 (0,0)) :: .row y.2.1 y.2.2 71 67 R.length (rtc R) :: .row y.1.1 y.1.2 49 5 ((LK R.length).length) (lsc (LK R.length)) :: .blk b25 (.cells #[I (kd:Nat),.slice y.1.1 ((LK R.length).length) y.1.2,.slice y.2.1 R.length y.2.2] 36 (0,0)) :: .row yp.1 yp.2 27 5 (n + 1) (pnc (UU (tP n N wt k) x96.1.1 x96.1.2 n)) :: .blk b19 (.cells #[I 0,I (pp 4 (dscal k lbRec):Nat),.slice x96.1.1 ((gsl n).length) x96.1.2,I ((N + 1:Nat):Int),I (wt:Nat)] 27 (0,0)) :: .row x96.2.1 x96.2.2 62 2 ((gsl n).length) (shc (sN (spl (cof (expand k lbShs []) (dscal k lbRec) N) (gsl n).length))) :: .row x96.1.1 x96.1.2 3 1 ((gsl n).length) (is (gsl n)) :: .row yg.1 yg.2 3 1 ((gsl n).length) (is (gsl n)) :: .blk b10 (.cells (bs k).toArray 23 (0,0)) :: bods 5 (L ++ [nAp (apl (tC n N wt k R.length) L) ((kk + 1:Nat):Int) ck (kk + 1) (hor (cof (expand k lbShs []) (dscal k lbRec) N) (kk + 1)) (101 + kk) x253.ba x253.bc])) _ from bods_snoc _ L _ ▸ List.Sublist.refl _)
            · refine s_alloc fun b51=>r_K<|r_W 12 rfl<|s_gives (fun w' hw=>Approve_y w' (tP n N wt k) (apl (tC n N wt k R.length) L) x96.1.1 ya.1 none x96.1.2 ya.2 0 ((kk + 1:Nat):Int) (pp 4 (101 + kk):Nat) ck (kk + 1) (hor (cof (expand k lbShs []) (dscal k lbRec) N) (kk + 1)) (101 + kk) (hg.st hw) hckl (rdR (.tail _ (.tail _ (.tail _ (.tail _ (.tail _ (.tail _ (.tail _ (.tail _ (.tail _ (.tail _ (.tail _ (.head _)))))))))))) w' hw) hgl (rdR (.tail _ (.tail _ (.head _))) w' hw) hI.l (Rd.nil _ _) hL8 (Nat.zero_le _) (blg_r5 hps hI.b) hRg hps (apRt_of hps hI.b hgi hin) (by omega) (by omega) rfl) fun (x253:AX) _=>?_
              refine s_row (fun hka _=>s_row (fun hkb _=>?_) (hm:=.tail _ (.head _))) (hm:=.head _)
              refine r_K<|r_y 13 rfl y_mv<|r_y 14 rfl y_ext<|r_y 15 rfl y_ext<|r_W 17 rfl<|s_sta (b:=b51) (vs:=#[I 0,I 3,I (pp 4 77:Nat),I (pp 4 78:Nat),I (R.length:Nat),.slice x253.aa (L.length + 1) x253.ac,.slice none 0 0]) (cs:=#[I 0,I 0,I 0,I 0,I 0,.slice none 0 0,.slice none 0 0]) (h1:=one_allA rfl) (hl:=rfl) (hs1:=rfl) ?_
              refine r_K<|r_y 18 rfl y_as<|r_E<|q_then<|c_seq<|c_seq<|c_reg<|s_y y_mv<|s_nf (y_neq (p:=0) (q:=0)) (by omega)<|s_y y_mv<|s_y y_mv<|s_kt (y_eql (p:=0) (q:=0)) (by omega)<|s_y y_mv<|s_y y_mv<|s_y (v:=.bool false) (y_lookN (c2:=false) (k:=((kk:Nat):Int)) (kv:=KM L) (kvs_no (ML_no hin)))<|s_y (v:=.bool false) (y_eqlb (a:=true) (b:=false))<|s_y y_pk<|s_nil<|q_then<|c_f<|c_skip<|q_then<|c_seq<|c_reg<|s_y y_mv<|s_kt (y_eql (p:=0) (q:=0)) (by omega)<|s_nil<|q_then<|c_t<|c_reg<|s_y y_mv<|s_y y_mv<|s_y (y_lda (b:=b51) (cs:=#[I 0,I 3,I (pp 4 77:Nat),I (pp 4 78:Nat),I (R.length:Nat),.slice x253.aa (L.length + 1) x253.ac,.slice none 0 0]) (hl:=rfl))<|s_sta (b:=b42) (vs:=#[I 0,I 3,I (pp 4 77:Nat),I (pp 4 78:Nat),I (R.length:Nat),.slice x253.aa (L.length + 1) x253.ac,.slice none 0 0]) (cs:=#[I 0,I 3,I (pp 4 77:Nat),I (pp 4 78:Nat),I (R.length:Nat),.slice ya.1 L.length ya.2,.slice none 0 0]) (h1:=one_allA rfl) (hl:=rfl) (hs1:=rfl) ?_
              refine s_mupd (k:=((kk:Nat):Int)) (kv:=KM L) (v:=.bool true) (hne:=kvs_no (ML_no hin))<|?_
              rw [KM_snoc (z:=nAp (apl (tC n N wt k R.length) L) ((kk + 1:Nat):Int) ck (kk + 1) (hor (cof (expand k lbShs []) (dscal k lbRec) N) (kk + 1)) (101 + kk) x253.ba x253.bc) rfl]
              refine s_nil<|q_nb<|q_then<|c_reg<|s_y (y_add (p:=(i:Nat)) (q:=1))<|s_y y_mv<|s_nil<|?_
              refine q_sub (l':=.row x253.aa x253.ac 116 5 (L.length + 1) (apc (L ++ [nAp (apl (tC n N wt k R.length) L) ((kk + 1:Nat):Int) ck (kk + 1) (hor (cof (expand k lbShs []) (dscal k lbRec) N) (kk + 1)) (101 + kk) x253.ba x253.bc])) :: .row x253.ba x253.bc 5 1 ((wtx (apl (tC n N wt k R.length) L) ((kk + 1:Nat):Int) ck (kk + 1) (hor (cof (expand k lbShs []) (dscal k lbRec) N) (kk + 1))).length) (bs (wtx (apl (tC n N wt k R.length) L) ((kk + 1:Nat):Int) ck (kk + 1) (hor (cof (expand k lbShs []) (dscal k lbRec) N) (kk + 1)))) :: mblk m44 (KM (L ++ [nAp (apl (tC n N wt k R.length) L) ((kk + 1:Nat):Int) ck (kk + 1) (hor (cof (expand k lbShs []) (dscal k lbRec) N) (kk + 1)) (101 + kk) x253.ba x253.bc])) :: .blk b42 (.cells #[I 0,I 3,I (pp 4 77:Nat),I (pp 4 78:Nat),I (R.length:Nat),.slice x253.aa (L.length + 1) x253.ac,.slice none 0 0] 56 (0,0)) :: .row y.2.1 y.2.2 71 67 R.length (rtc R) :: .row y.1.1 y.1.2 49 5 ((LK R.length).length) (lsc (LK R.length)) :: .blk b25 (.cells #[I (kd:Nat),.slice y.1.1 ((LK R.length).length) y.1.2,.slice y.2.1 R.length y.2.2] 36 (0,0)) :: .row yp.1 yp.2 27 5 (n + 1) (pnc (UU (tP n N wt k) x96.1.1 x96.1.2 n)) :: .blk b19 (.cells #[I 0,I (pp 4 (dscal k lbRec):Nat),.slice x96.1.1 ((gsl n).length) x96.1.2,I ((N + 1:Nat):Int),I (wt:Nat)] 27 (0,0)) :: .row x96.2.1 x96.2.2 62 2 ((gsl n).length) (shc (sN (spl (cof (expand k lbShs []) (dscal k lbRec) N) (gsl n).length))) :: .row x96.1.1 x96.1.2 3 1 ((gsl n).length) (is (gsl n)) :: .row yg.1 yg.2 3 1 ((gsl n).length) (is (gsl n)) :: .blk b10 (.cells (bs k).toArray 23 (0,0)) :: bods 5 L) (by repeat (first | exact List.nil_sublist _ | exact List.Sublist.refl _ | apply List.Sublist.cons_cons | apply List.Sublist.cons)) ?_
              refine q_perm (l':=.row x253.aa x253.ac 116 5 (L.length + 1) (apc (L ++ [nAp (apl (tC n N wt k R.length) L) ((kk + 1:Nat):Int) ck (kk + 1) (hor (cof (expand k lbShs []) (dscal k lbRec) N) (kk + 1)) (101 + kk) x253.ba x253.bc])) :: mblk m44 (KM (L ++ [nAp (apl (tC n N wt k R.length) L) ((kk + 1:Nat):Int) ck (kk + 1) (hor (cof (expand k lbShs []) (dscal k lbRec) N) (kk + 1)) (101 + kk) x253.ba x253.bc])) :: .blk b42 (.cells #[I 0,I 3,I (pp 4 77:Nat),I (pp 4 78:Nat),I (R.length:Nat),.slice x253.aa (L.length + 1) x253.ac,.slice none 0 0] 56 (0,0)) :: .row y.2.1 y.2.2 71 67 R.length (rtc R) :: .row y.1.1 y.1.2 49 5 ((LK R.length).length) (lsc (LK R.length)) :: .blk b25 (.cells #[I (kd:Nat),.slice y.1.1 ((LK R.length).length) y.1.2,.slice y.2.1 R.length y.2.2] 36 (0,0)) :: .row yp.1 yp.2 27 5 (n + 1) (pnc (UU (tP n N wt k) x96.1.1 x96.1.2 n)) :: .blk b19 (.cells #[I 0,I (pp 4 (dscal k lbRec):Nat),.slice x96.1.1 ((gsl n).length) x96.1.2,I ((N + 1:Nat):Int),I (wt:Nat)] 27 (0,0)) :: .row x96.2.1 x96.2.2 62 2 ((gsl n).length) (shc (sN (spl (cof (expand k lbShs []) (dscal k lbRec) N) (gsl n).length))) :: .row x96.1.1 x96.1.2 3 1 ((gsl n).length) (is (gsl n)) :: .row yg.1 yg.2 3 1 ((gsl n).length) (is (gsl n)) :: .blk b10 (.cells (bs k).toArray 23 (0,0)) :: .row x253.ba x253.bc 5 1 ((wtx (apl (tC n N wt k R.length) L) ((kk + 1:Nat):Int) ck (kk + 1) (hor (cof (expand k lbShs []) (dscal k lbRec) N) (kk + 1))).length) (bs (wtx (apl (tC n N wt k R.length) L) ((kk + 1:Nat):Int) ck (kk + 1) (hor (cof (expand k lbShs []) (dscal k lbRec) N) (kk + 1)))) :: bods 5 L) (.cons _ (List.perm_middle (l₁:=([mblk m44 (KM (L ++ [nAp (apl (tC n N wt k R.length) L) ((kk + 1:Nat):Int) ck (kk + 1) (hor (cof (expand k lbShs []) (dscal k lbRec) N) (kk + 1)) (101 + kk) x253.ba x253.bc])),.blk b42 (.cells #[I 0,I 3,I (pp 4 77:Nat),I (pp 4 78:Nat),I (R.length:Nat),.slice x253.aa (L.length + 1) x253.ac,.slice none 0 0] 56 (0,0)),.row y.2.1 y.2.2 71 67 R.length (rtc R),.row y.1.1 y.1.2 49 5 ((LK R.length).length) (lsc (LK R.length)),.blk b25 (.cells #[I (kd:Nat),.slice y.1.1 ((LK R.length).length) y.1.2,.slice y.2.1 R.length y.2.2] 36 (0,0)),.row yp.1 yp.2 27 5 (n + 1) (pnc (UU (tP n N wt k) x96.1.1 x96.1.2 n)),.blk b19 (.cells #[I 0,I (pp 4 (dscal k lbRec):Nat),.slice x96.1.1 ((gsl n).length) x96.1.2,I ((N + 1:Nat):Int),I (wt:Nat)] 27 (0,0)),.row x96.2.1 x96.2.2 62 2 ((gsl n).length) (shc (sN (spl (cof (expand k lbShs []) (dscal k lbRec) N) (gsl n).length))),.row x96.1.1 x96.1.2 3 1 ((gsl n).length) (is (gsl n)),.row yg.1 yg.2 3 1 ((gsl n).length) (is (gsl n)),.blk b10 (.cells (bs k).toArray 23 (0,0))]:SH)))) ?_
              refine q_round4 (x:=i) (y:=L) (z:=ya) (u:=L.length) (i + 1) (L ++ [nAp (apl (tC n N wt k R.length) L) ((kk + 1:Nat):Int) ck (kk + 1) (hor (cof (expand k lbShs []) (dscal k lbRec) N) (kk + 1)) (101 + kk) x253.ba x253.bc]) (x253.aa,x253.ac) (L.length + 1) ⟨by omega,List.length_append,by omega,hI.snoc hps hgi hin hka hkb⟩ (by omega) ⟨rfl,rfl,rfl,rfl,rfl,rfl,rfl,rfl,rfl,rfl,rfl,rfl,rfl,rfl,rfl,rfl,rfl,trivial⟩ (show List.Sublist (.row x253.aa x253.ac 116 5 (L.length + 1) (apc (L ++ [nAp (apl (tC n N wt k R.length) L) ((kk + 1:Nat):Int) ck (kk + 1) (hor (cof (expand k lbShs []) (dscal k lbRec) N) (kk + 1)) (101 + kk) x253.ba x253.bc])) :: mblk m44 (KM (L ++ [nAp (apl (tC n N wt k R.length) L) ((kk + 1:Nat):Int) ck (kk + 1) (hor (cof (expand k lbShs []) (dscal k lbRec) N) (kk + 1)) (101 + kk) x253.ba x253.bc])) :: .blk b42 (.cells #[I 0,I 3,I (pp 4 77:Nat),I (pp 4 78:Nat),I (R.length:Nat),.slice x253.aa (L.length + 1) x253.ac,.slice none 0 0] 56 (0,0)) :: .row y.2.1 y.2.2 71 67 R.length (rtc R) :: .row y.1.1 y.1.2 49 5 ((LK R.length).length) (lsc (LK R.length)) :: .blk b25 (.cells #[I (kd:Nat),.slice y.1.1 ((LK R.length).length) y.1.2,.slice y.2.1 R.length y.2.2] 36 (0,0)) :: .row yp.1 yp.2 27 5 (n + 1) (pnc (UU (tP n N wt k) x96.1.1 x96.1.2 n)) :: .blk b19 (.cells #[I 0,I (pp 4 (dscal k lbRec):Nat),.slice x96.1.1 ((gsl n).length) x96.1.2,I ((N + 1:Nat):Int),I (wt:Nat)] 27 (0,0)) :: .row x96.2.1 x96.2.2 62 2 ((gsl n).length) (shc (sN (spl (cof (expand k lbShs []) (dscal k lbRec) N) (gsl n).length))) :: .row x96.1.1 x96.1.2 3 1 ((gsl n).length) (is (gsl n)) :: .row yg.1 yg.2 3 1 ((gsl n).length) (is (gsl n)) :: .blk b10 (.cells (bs k).toArray 23 (0,0)) :: bods 5 (L ++ [nAp (apl (tC n N wt k R.length) L) ((kk + 1:Nat):Int) ck (kk + 1) (hor (cof (expand k lbShs []) (dscal k lbRec) N) (kk + 1)) (101 + kk) x253.ba x253.bc])) _ from bods_snoc _ L _ ▸ List.Sublist.refl _)
        · cases vb
          · refine c_seq<|c_reg<|s_kf (y_lss (p:=(i:Nat)) (q:=qs.length)) (by omega)<|s_nil<|q_then<|c_seq<|c_f<|c_exit<|q_ex<|q_ex<|q_exb<|q_then<|c_seq<|c_reg<|s_y y_mv<|s_y y_mv<|s_no<|s_no<|s_no<|s_no<|s_no<|s_y y_pk<|s_y y_as<|s_nil<|q_then<|c_seq<|c_seq<|c_reg<|s_y y_mv<|s_nil<|q_then<|c_f<|c_skip<|q_then<|c_seq<|c_reg<|s_y (y_lda (b:=b19) (cs:=#[I 0,I (pp 4 (dscal k lbRec):Nat),.slice x96.1.1 ((gsl n).length) x96.1.2,I ((N + 1:Nat):Int),I (wt:Nat)]) (hl:=rfl))<|s_y (y_lda (b:=b42) (cs:=#[I 0,I 3,I (pp 4 77:Nat),I (pp 4 78:Nat),I (R.length:Nat),.slice ya.1 L.length ya.2,.slice none 0 0]) (hl:=rfl))<|s_y y_mv<|s_y y_mv<|s_y (y_add (p:=(R.length:Nat)) (q:=(wt:Nat)))<|s_y (y_sub (p:=((R.length:Nat):Int) + ((wt:Nat):Int)) (q:=1))<|s_pure (fun w' hw=>(by have hE:=tp_early hps hI; have h9:=Finish_st w' (tP n N wt k) (apl (tC n N wt k R.length) L) ((((R.length:Nat):Int) + ((wt:Nat):Int)) - 1) 1 x96.1.1 ya.1 none x96.1.2 ya.2 0 (rdR (.tail _ (.tail _ (.tail _ (.tail _ (.tail _ (.tail _ (.tail _ (.tail _ (.tail _ (.head _)))))))))) w' hw) (rdR (.head _) w' hw) (Rd.nil _ _) hgl hL8 (Nat.zero_le _) 78 (by rw [hE]; decide); rw [hE] at h9; exact h9))<|s_y y_mv<|s_y y_ext<|s_y y_ext<|s_alloc fun b56=>s_sta (b:=b56) (vs:=#[I 0,I 0,I 0,I 0,I 0,I 0,I 0,I 0]) (cs:=#[I 0,I 0,I 0,I 0,I 0,I 0,I 0,I 0]) (h1:=one_allA rfl) (hl:=(show (8:Nat) = 8 from rfl)) (hs1:=rfl) ?_
            refine s_y y_as<|s_nil<|q_then<|c_seq<|c_reg<|s_y (y_lda (b:=b19) (cs:=#[I 0,I (pp 4 (dscal k lbRec):Nat),.slice x96.1.1 ((gsl n).length) x96.1.2,I ((N + 1:Nat):Int),I (wt:Nat)]) (hl:=rfl))<|s_y (y_lda (b:=b42) (cs:=#[I 0,I 3,I (pp 4 77:Nat),I (pp 4 78:Nat),I (R.length:Nat),.slice ya.1 L.length ya.2,.slice none 0 0]) (hl:=rfl))<|s_y y_mv<|s_y y_mv<|s_y (y_add (p:=(R.length:Nat)) (q:=(wt:Nat)))<|?_
            by_cases hfew:L.length < N + 1
            · refine s_pure (fun w' hw=>(by have hE:=tp_few hps hI hfew; have h9:=Finish_st w' (tP n N wt k) (apl (tC n N wt k R.length) L) (((R.length:Nat):Int) + ((wt:Nat):Int)) 1 x96.1.1 ya.1 none x96.1.2 ya.2 0 (rdR (.tail _ (.tail _ (.tail _ (.tail _ (.tail _ (.tail _ (.tail _ (.tail _ (.tail _ (.tail _ (.head _))))))))))) w' hw) (rdR (.tail _ (.head _)) w' hw) (Rd.nil _ _) hgl hL8 (Nat.zero_le _) 78 (by rw [hE]; decide); rw [hE] at h9; exact h9))<|s_y y_mv<|s_y y_ext<|s_y y_ext<|s_alloc fun b58=>s_sta (b:=b58) (vs:=#[I 0,I 0,I 0,I 0,I 0,I 0,I 0,I 0]) (cs:=#[I 0,I 0,I 0,I 0,I 0,I 0,I 0,I 0]) (h1:=one_allA rfl) (hl:=(show (8:Nat) = 8 from rfl)) (hs1:=rfl) ?_
              refine s_y y_as<|s_nil<|q_then<|c_seq<|c_seq<|c_reg<|s_y y_mv<|s_kf (y_eql (p:=391) (q:=0)) (by omega)<|s_y y_mv<|s_y y_mv<|s_kf (y_eql (p:=390) (q:=0)) (by omega)<|s_y y_mv<|s_y (y_lenm (kv:=KM L))<|?_
              rw [KM_length]
              refine s_y y_fa<|s_y (y_ld (b:=b19) (v:=I ((N + 1:Nat):Int)))<|s_kf (y_geq (p:=(L.length:Nat)) (q:=((N + 1:Nat):Int))) (by omega)<|s_y y_mv<|s_no<|s_no<|s_y y_pk<|s_y (v:=.bool false) (y_neqb (a:=false) (b:=false))<|s_y y_pk<|s_nil<|q_then<|c_f<|c_skip<|q_then<|c_seq<|c_seq<|c_reg<|s_y y_mv<|s_nt (y_neq (p:=390) (q:=0)) (by omega)<|s_nil<|q_then<|c_t<|c_seq<|c_reg<|s_y (y_lda (b:=b58) (cs:=(List.replicate 8 (I 0)).toArray) (hl:=rfl))<|s_y (y_bcert (cs:=List.replicate 8 (I 0)))<|s_y (y_eqlCt (a:=0) (b:=0) (c:=0) (d:=0) (e:=0) (q:=0) (r:=0) (s:=0))<|s_y y_as<|s_nil<|q_then<|c_ret<|q_ret<|?_
              exact ret1 Tryz.results3 rv_t fun w' hw=>⟨rfl,hw.sub (List.nil_sublist _)⟩
            · refine s_pure (fun w' hw=>(by have hE:=tp_fin hps hI hfew; have h9:=Finish_yes w' (tP n N wt k) (apl (tC n N wt k R.length) L) (((R.length:Nat):Int) + ((wt:Nat):Int)) 1 x96.1.1 ya.1 none x96.1.2 ya.2 0 ⟨(rdR (.tail _ (.tail _ (.tail _ (.tail _ (.tail _ (.tail _ (.tail _ (.tail _ (.tail _ (.tail _ (.head _))))))))))) w' hw),(rdR (.tail _ (.head _)) w' hw),(Rd.nil _ _),hgl,hL8,(Nat.zero_le _),hI.l,(blg_r5 hps hI.b),hI.k,(fun z hz=>⟨rdR (.tail _ (.tail _ (.tail _ (.tail _ (.tail _ (.tail _ (.tail _ (.tail _ (.tail _ (.tail _ (.tail _ (.tail _ (.tail _ (mem_bods hz)))))))))))))) w' hw,hI.q z hz⟩),(hg.st hw)⟩ 78 hE.1; rw [hE.2] at h9; exact h9))<|s_y y_mv<|s_y y_ext<|s_y y_ext<|s_alloc fun b58=>s_sta (b:=b58) (vs:=#[I 3,I 3,I (pp 4 77:Nat),I (pp 4 78:Nat),I 1,I (-1),I (sgR (dscal k lbRec) (cmsg [3,3,(pp 4 77:Nat),(pp 4 78:Nat),1,-1]):Nat),I (sgS (dscal k lbRec) (cmsg [3,3,(pp 4 77:Nat),(pp 4 78:Nat),1,-1]):Nat)]) (cs:=#[I 0,I 0,I 0,I 0,I 0,I 0,I 0,I 0]) (h1:=one_allA rfl) (hl:=(show (8:Nat) = 8 from rfl)) (hs1:=rfl) ?_
              refine s_y y_as<|s_nil<|q_then<|c_seq<|c_seq<|c_reg<|s_y y_mv<|s_kf (y_eql (p:=391) (q:=0)) (by omega)<|s_y y_mv<|s_y y_mv<|s_kt (y_eql (p:=0) (q:=0)) (by omega)<|s_y y_mv<|s_y (y_lenm (kv:=KM L))<|?_
              rw [KM_length]
              refine s_y y_fa<|s_y (y_ld (b:=b19) (v:=I ((N + 1:Nat):Int)))<|s_kt (y_geq (p:=(L.length:Nat)) (q:=((N + 1:Nat):Int))) (by omega)<|s_y y_mv<|s_y y_mv<|s_y (v:=.bool true) (y_not (b:=false))<|s_y y_pk<|s_y (v:=.bool false) (y_neqb (a:=true) (b:=true))<|s_y y_pk<|s_nil<|q_then<|c_f<|c_skip<|q_then<|c_seq<|c_seq<|c_reg<|s_y y_mv<|s_nf (y_neq (p:=0) (q:=0)) (by omega)<|s_nil<|q_then<|c_f<|c_skip<|q_then<|c_seq<|c_reg<|s_y y_mv<|s_y y_fa<|s_y (y_ld (b:=b25) (v:=.slice y.1.1 ((LK R.length).length) y.1.2))<|s_y (y_lda (b:=b58) (cs:=#[I 3,I 3,I (pp 4 77:Nat),I (pp 4 78:Nat),I 1,I (-1),I (sgR (dscal k lbRec) (cmsg [3,3,(pp 4 77:Nat),(pp 4 78:Nat),1,-1]):Nat),I (sgS (dscal k lbRec) (cmsg [3,3,(pp 4 77:Nat),(pp 4 78:Nat),1,-1]):Nat)]) (hl:=rfl))<|s_pure (fun w' hw=>Accept3_ok w' 3 (pp 4 77:Nat) (pp 4 78:Nat) (sgR (dscal k lbRec) (cmsg [3,3,(pp 4 77:Nat),(pp 4 78:Nat),1,-1]):Nat) (sgS (dscal k lbRec) (cmsg [3,3,(pp 4 77:Nat),(pp 4 78:Nat),1,-1]):Nat) (UU (tP n N wt k) x96.1.1 x96.1.2 n) (LK R.length)  ⟨(tP n N wt k),x96.1.1,x96.1.2⟩ 0 yp.1 y.1.1 (n + 1) yp.2 (LK R.length).length y.1.2 (hg.st hw).1 (rdR (.tail _ (.tail _ (.tail _ (.tail _ (.tail _ (.tail _ (.tail _ (.tail _ (.head _))))))))) w' hw) (UU_rd (rdR (.tail _ (.tail _ (.tail _ (.tail _ (.tail _ (.tail _ (.tail _ (.tail _ (.tail _ (.tail _ (.tail _ (.head _)))))))))))) w' hw)) (UU_length _ _ _ _) (by omega) (UU_ok _ _ hn5 hNn hw4) (rdR (.tail _ (.tail _ (.tail _ (.tail _ (.tail _ (.tail _ (.head _))))))) w' hw) rfl (by omega) (LK_nd _) (LK_no3 _) ⟨by decide,by decide,chk_pub _,chk_pub _⟩ (UU_zero _ _ _ _) (show (0:Int) = 3 / 8 by decide) (fun w' a c hg hr=>verifyT w' a c 32 (dscal k lbRec) _ hg (cmsg_length _) (by decide) hr))<|s_y y_mv<|s_y y_ext<|s_y y_ext<|s_alloc fun b60=>s_sta (b:=b60) (vs:=#[I 3,I (pp 4 77:Nat),I (pp 4 78:Nat),I 1,.bool false]) (cs:=#[I 0,I 0,I 0,I 0,.bool false]) (h1:=one_allA rfl) (hl:=rfl) (hs1:=rfl) ?_
              refine s_y y_as<|s_nil<|q_then<|c_seq<|c_reg<|s_y (y_lda (b:=b25) (cs:=#[I (kd:Nat),.slice y.1.1 ((LK R.length).length) y.1.2,.slice y.2.1 R.length y.2.2]) (hl:=rfl))<|s_y (y_lda (b:=b60) (cs:=#[I 3,I (pp 4 77:Nat),I (pp 4 78:Nat),I 1,.bool false]) (hl:=rfl))<|s_gives (fun w' hw=>Set_ok w' kd [lkE 0] (LB n) R nwE y.1.1 y.2.1 (LK R.length).length y.1.2 y.2.2 (hg.st hw).1 (by rw [← hLK]; exact (rdR (.tail _ (.tail _ (.tail _ (.tail _ (.tail _ (.tail _ (.tail _ (.head _)))))))) w' hw)) (rdR (.tail _ (.tail _ (.tail _ (.tail _ (.tail _ (.tail _ (.head _))))))) w' hw) (by rw [hLK]) (by rw [← hLK]; exact LK_ok (by omega)) nwE_ok rfl LA_lt LB_gt hRo (by omega) (by omega) hRc hkd0 hkd1) fun (x347:(Option Addr × Nat) × (Option Addr × Nat)) hx347=>s_y y_mv<|s_y y_ext<|s_y y_ext<|s_alloc fun b62=>s_sta (b:=b62) (vs:=#[I (kd:Nat),.slice x347.1.1 ((LK R.length).length + 1) x347.1.2,.slice x347.2.1 (R.length + 1) x347.2.2]) (cs:=#[I 0,.slice none 0 0,.slice none 0 0]) (h1:=one_allA rfl) (hl:=rfl) (hs1:=rfl) ?_
              refine s_y y_as<|s_nil<|q_then<|c_seq<|c_seq<|c_reg<|s_y y_mv<|s_nf (y_neq (p:=0) (q:=0)) (by omega)<|s_y y_mv<|s_y y_mv<|s_nf (y_neq (p:=0) (q:=0)) (by omega)<|s_y y_pk<|s_y y_mv<|s_y (y_lda (b:=b60) (cs:=#[I 3,I (pp 4 77:Nat),I (pp 4 78:Nat),I 1,.bool false]) (hl:=rfl))<|s_y y_mv<|s_y y_mv<|s_y (y_blst (cs:=[I 3,I (pp 4 77:Nat),I (pp 4 78:Nat),I 1,.bool false]))<|s_y (y_neqLs (a:=3) (b:=(pp 4 77:Nat)) (c:=(pp 4 78:Nat)) (d:=1) (e:=false))<|s_y y_pk<|s_y y_mv<|s_y y_fa<|s_y (y_ld (b:=b62) (v:=.slice x347.2.1 (R.length + 1) x347.2.2))<|s_y y_len<|s_y y_mv<|s_y (y_add (p:=(R.length:Nat)) (q:=1))<|s_nf (y_neq (p:=(R.length + 1)) (q:=(R.length:Nat) + 1)) (by omega)<|s_y y_pk<|s_nil<|q_then<|c_f<|c_skip<|q_then<|c_seq<|c_reg<|s_y y_fa<|s_y (y_ld (b:=b62) (v:=.slice x347.1.1 ((LK R.length).length + 1) x347.1.2))<|s_gives (fun w' hw=>Prove_ok w' ([lkE 0] ++ nwE :: LB n) x347.1.1 ((LK R.length).length + 1) x347.1.2 3 (by decide) (hg.st hw).1 (rdR (.tail _ (.tail _ (.head _))) w' hw) (by rw [hLK,List.length_append,List.length_append,List.length_cons]; rfl) (by omega) (dir_pw (dir_ins (hLK ▸ LK_ok (by omega)) nwE_ok LA_lt LB_gt)).1) fun (x374:Option Addr × Nat) _=>s_y y_mv<|s_y y_ext<|s_y y_ext<|s_y y_as<|s_y y_as<|s_nil<|q_then<|c_seq<|c_regd<|d_y y_mv<|d_kt (y_eql (p:=0) (q:=0)) (by omega)<|d_y y_mv<|d_y y_fa<|d_y (y_ld (b:=b62) (v:=.slice x347.2.1 (R.length + 1) x347.2.2))<|d_y y_mv<|d_y (y_ixs (xs:=rtc (R ++ [(nRt kd ([lkE 0] ++ nwE :: LB n) R)])) (i:=((R.length:Nat):Int)) (hr:=rdR (.tail _ (.tail _ (.head _)))) (hl:=by rw [rtc_length (RtOk_snoc hRo (by omega)),List.length_append,List.length_singleton]; omega))<|d_y y_far<|d_y (y_ldra (i:=R.length * 67 + 1) (xs:=rtc (R ++ [(nRt kd ([lkE 0] ++ nwE :: LB n) R)])) (cs:=bs (ndD ([lkE 0] ++ nwE :: LB n) 9 1)) (rdR (.tail _ (.tail _ (.head _)))) (by rw [bs_length]; exact ndD_length _ _ _) (rt_dg hRo (nRt kd ([lkE 0] ++ nwE :: LB n) R) rfl))<|d_y (y_lda (b:=b60) (cs:=#[I 3,I (pp 4 77:Nat),I (pp 4 78:Nat),I 1,.bool false]) (hl:=rfl))<|d_y y_mv<|d_pure (fun w' hw=>Verify_ok w' (ndD ([lkE 0] ++ nwE :: LB n) 9 1) nwE (pathD ([lkE 0] ++ nwE :: LB n) (512 + 3) 9) x374.1 x374.2 3 (hg.st hw).1 (ndD_length _ _ _) nwE_ok rfl path32 (pathD_length _ _ _) (rdR (.head _) w' hw) (nw_climb n))<|d_y y_pk<|d_y y_as<|d_nil<|q_then<|c_ret<|?_
              exact ret1 Tryz.results3 rv_t fun w' hw=>⟨rfl,hw.sub (List.nil_sublist _)⟩
          · by_cases hit:ut < wt
            · refine c_seq<|c_reg<|s_kf (y_lss (p:=(i:Nat)) (q:=qs.length)) (by omega)<|s_nil<|q_then<|c_seq<|c_f<|c_exit<|q_ex<|q_ex<|q_exb<|q_then<|c_seq<|c_reg<|s_y y_mv<|s_y y_mv<|s_y y_mv<|s_y (y_rem8 (p:=m6) (q:=8))<|s_y y_cvb<|?_
              rw [hut]
              refine s_y y_mv<|s_kt (y_lss (p:=(ut:Nat)) (q:=(wt:Nat))) (by omega)<|s_y y_pk<|s_y y_as<|s_nil<|q_then<|c_seq<|c_seq<|c_reg<|s_y y_mv<|s_nil<|q_then<|c_t<|c_seq<|c_reg<|s_y (y_lda (b:=b42) (cs:=#[I 0,I 3,I (pp 4 77:Nat),I (pp 4 78:Nat),I (R.length:Nat),.slice ya.1 L.length ya.2,.slice none 0 0]) (hl:=rfl))<|s_y y_fa<|s_y (y_ld (b:=b25) (v:=.slice y.1.1 ((LK R.length).length) y.1.2))<|s_y y_mv<|s_y y_mv<|s_y (y_rem8 (p:=m6) (q:=8))<|s_y y_cvb<|?_
              rw [hut]
              refine s_y (y_add (p:=(R.length:Nat)) (q:=(ut:Nat)))<|s_gives (fun w' hw=>Object_y w' (apl (tC n N wt k R.length) L) ya.1 none y.1.1 ya.2 0 y.1.2 (LK R.length) 0 (((R.length:Nat):Int) + ((ut:Nat):Int)) 100 (hg.st hw) (rdR (.tail _ (.tail _ (.tail _ (.tail _ (.head _))))) w' hw) (by omega) (Rd.nil _ _) (Nat.le_refl _) (Nat.zero_le _) 0 (pp 4 100:Nat) (pp 4 100:Nat) 1 (LK_ok (by omega)) (by rw [hLK]; rfl) ⟨(show (0:Int) / 8 = 0 by decide),(show (0:Int) ≠ 3 by decide),(fun h=>by cases h),(show ((R.length:Nat):Int) ≤ (((R.length:Nat):Int) + ((ut:Nat):Int)) ∧ (((R.length:Nat):Int) + ((ut:Nat):Int)) ≤ 65536 by omega)⟩ (by decide) (by decide) rfl (blg_r5 hps hI.b) (by unfold R64; omega) (by unfold R64; omega)) fun (x290:Option Addr × Nat) _=>s_y y_mv<|s_y y_ext<|s_y y_ext<|s_alloc fun b54=>s_sta (b:=b54) (vs:=#[I 0,I 3,I (pp 4 77:Nat),I (pp 4 78:Nat),I (R.length:Nat),.slice ya.1 L.length ya.2,.slice x290.1 1 x290.2]) (cs:=#[I 0,I 0,I 0,I 0,I 0,.slice none 0 0,.slice none 0 0]) (h1:=one_allA rfl) (hl:=rfl) (hs1:=rfl) ?_
              refine s_y y_as<|s_nil<|q_then<|c_seq<|c_seq<|c_reg<|s_y y_mv<|s_nf (y_neq (p:=0) (q:=0)) (by omega)<|s_nil<|q_then<|c_f<|c_skip<|q_then<|c_reg<|s_y (y_lda (b:=b54) (cs:=#[I 0,I 3,I (pp 4 77:Nat),I (pp 4 78:Nat),I (R.length:Nat),.slice ya.1 L.length ya.2,.slice x290.1 1 x290.2]) (hl:=rfl))<|s_sta (b:=b42) (vs:=#[I 0,I 3,I (pp 4 77:Nat),I (pp 4 78:Nat),I (R.length:Nat),.slice ya.1 L.length ya.2,.slice x290.1 1 x290.2]) (cs:=#[I 0,I 3,I (pp 4 77:Nat),I (pp 4 78:Nat),I (R.length:Nat),.slice ya.1 L.length ya.2,.slice none 0 0]) (h1:=one_allA rfl) (hl:=rfl) (hs1:=rfl) ?_
              refine s_nil<|q_then<|c_seq<|c_reg<|s_y (y_lda (b:=b19) (cs:=#[I 0,I (pp 4 (dscal k lbRec):Nat),.slice x96.1.1 ((gsl n).length) x96.1.2,I ((N + 1:Nat):Int),I (wt:Nat)]) (hl:=rfl))<|s_y (y_lda (b:=b42) (cs:=#[I 0,I 3,I (pp 4 77:Nat),I (pp 4 78:Nat),I (R.length:Nat),.slice ya.1 L.length ya.2,.slice x290.1 1 x290.2]) (hl:=rfl))<|s_y y_mv<|s_y y_mv<|s_y (y_add (p:=(R.length:Nat)) (q:=(wt:Nat)))<|s_y (y_sub (p:=((R.length:Nat):Int) + ((wt:Nat):Int)) (q:=1))<|s_pure (fun w' hw=>(by have hE:=tp_in (v:=(nVt (apl (tC n N wt k R.length) L) 0 (((R.length:Nat):Int) + ((ut:Nat):Int)) 100)) (now:=((((R.length:Nat):Int) + ((wt:Nat):Int)) - 1)) hps hI rfl hit; have h9:=Finish_st w' (tP n N wt k) (vtd (apl (tC n N wt k R.length) L) (nVt (apl (tC n N wt k R.length) L) 0 (((R.length:Nat):Int) + ((ut:Nat):Int)) 100)) ((((R.length:Nat):Int) + ((wt:Nat):Int)) - 1) 1 x96.1.1 ya.1 x290.1 x96.1.2 ya.2 x290.2 (rdR (.tail _ (.tail _ (.tail _ (.tail _ (.tail _ (.tail _ (.tail _ (.tail _ (.tail _ (.tail _ (.tail _ (.head _)))))))))))) w' hw) (rdR (.tail _ (.tail _ (.head _))) w' hw) (rdR (.tail _ (.head _)) w' hw) hgl hL8 (show 1 ≤ 1000000 by decide) 78 (by rw [hE]; decide); rw [hE] at h9; exact h9))<|s_y y_mv<|s_y y_ext<|s_y y_ext<|s_alloc fun b56=>s_sta (b:=b56) (vs:=#[I 0,I 0,I 0,I 0,I 0,I 0,I 0,I 0]) (cs:=#[I 0,I 0,I 0,I 0,I 0,I 0,I 0,I 0]) (h1:=one_allA rfl) (hl:=(show (8:Nat) = 8 from rfl)) (hs1:=rfl) ?_
              refine s_y y_as<|s_nil<|q_then<|c_seq<|c_reg<|s_y (y_lda (b:=b19) (cs:=#[I 0,I (pp 4 (dscal k lbRec):Nat),.slice x96.1.1 ((gsl n).length) x96.1.2,I ((N + 1:Nat):Int),I (wt:Nat)]) (hl:=rfl))<|s_y (y_lda (b:=b42) (cs:=#[I 0,I 3,I (pp 4 77:Nat),I (pp 4 78:Nat),I (R.length:Nat),.slice ya.1 L.length ya.2,.slice x290.1 1 x290.2]) (hl:=rfl))<|s_y y_mv<|s_y y_mv<|s_y (y_add (p:=(R.length:Nat)) (q:=(wt:Nat)))<|s_pure (fun w' hw=>(by have hE:=tp_in (v:=(nVt (apl (tC n N wt k R.length) L) 0 (((R.length:Nat):Int) + ((ut:Nat):Int)) 100)) (now:=(((R.length:Nat):Int) + ((wt:Nat):Int))) hps hI rfl hit; have h9:=Finish_st w' (tP n N wt k) (vtd (apl (tC n N wt k R.length) L) (nVt (apl (tC n N wt k R.length) L) 0 (((R.length:Nat):Int) + ((ut:Nat):Int)) 100)) (((R.length:Nat):Int) + ((wt:Nat):Int)) 1 x96.1.1 ya.1 x290.1 x96.1.2 ya.2 x290.2 (rdR (.tail _ (.tail _ (.tail _ (.tail _ (.tail _ (.tail _ (.tail _ (.tail _ (.tail _ (.tail _ (.tail _ (.tail _ (.head _))))))))))))) w' hw) (rdR (.tail _ (.tail _ (.tail _ (.head _)))) w' hw) (rdR (.tail _ (.tail _ (.head _))) w' hw) hgl hL8 (show 1 ≤ 1000000 by decide) 78 (by rw [hE]; decide); rw [hE] at h9; exact h9))<|s_y y_mv<|s_y y_ext<|s_y y_ext<|s_alloc fun b58=>s_sta (b:=b58) (vs:=#[I 0,I 0,I 0,I 0,I 0,I 0,I 0,I 0]) (cs:=#[I 0,I 0,I 0,I 0,I 0,I 0,I 0,I 0]) (h1:=one_allA rfl) (hl:=(show (8:Nat) = 8 from rfl)) (hs1:=rfl) ?_
              refine s_y y_as<|s_nil<|q_then<|c_seq<|c_seq<|c_reg<|s_y y_mv<|s_kf (y_eql (p:=392) (q:=0)) (by omega)<|s_y y_mv<|s_y y_mv<|s_kf (y_eql (p:=392) (q:=0)) (by omega)<|s_y y_mv<|s_y (y_lenm (kv:=KM L))<|?_
              rw [KM_length]
              refine s_y y_fa<|s_y (y_ld (b:=b19) (v:=I ((N + 1:Nat):Int)))<|s_ifd (y_geq (p:=(L.length:Nat)) (q:=((N + 1:Nat):Int))) (fun h324=>?_) (fun h324=>?_)
              · refine s_y y_mv<|s_y y_mv<|s_y (v:=.bool false) (y_not (b:=true))<|s_y y_pk<|s_y (v:=.bool false) (y_neqb (a:=false) (b:=false))<|s_y y_pk<|s_nil<|q_then<|c_f<|c_skip<|q_then<|c_seq<|c_seq<|c_reg<|s_y y_mv<|s_nt (y_neq (p:=392) (q:=0)) (by omega)<|s_nil<|q_then<|c_t<|c_seq<|c_reg<|s_y (y_lda (b:=b58) (cs:=(List.replicate 8 (I 0)).toArray) (hl:=rfl))<|s_y (y_bcert (cs:=List.replicate 8 (I 0)))<|s_y (y_eqlCt (a:=0) (b:=0) (c:=0) (d:=0) (e:=0) (q:=0) (r:=0) (s:=0))<|s_y y_as<|s_nil<|q_then<|c_ret<|q_ret<|?_
                exact ret1 Tryz.results3 rv_t fun w' hw=>⟨rfl,hw.sub (List.nil_sublist _)⟩
              · refine s_y y_mv<|s_no<|s_no<|s_y y_pk<|s_y (v:=.bool false) (y_neqb (a:=false) (b:=false))<|s_y y_pk<|s_nil<|q_then<|c_f<|c_skip<|q_then<|c_seq<|c_seq<|c_reg<|s_y y_mv<|s_nt (y_neq (p:=392) (q:=0)) (by omega)<|s_nil<|q_then<|c_t<|c_seq<|c_reg<|s_y (y_lda (b:=b58) (cs:=(List.replicate 8 (I 0)).toArray) (hl:=rfl))<|s_y (y_bcert (cs:=List.replicate 8 (I 0)))<|s_y (y_eqlCt (a:=0) (b:=0) (c:=0) (d:=0) (e:=0) (q:=0) (r:=0) (s:=0))<|s_y y_as<|s_nil<|q_then<|c_ret<|q_ret<|?_
                exact ret1 Tryz.results3 rv_t fun w' hw=>⟨rfl,hw.sub (List.nil_sublist _)⟩
            · refine c_seq<|c_reg<|s_kf (y_lss (p:=(i:Nat)) (q:=qs.length)) (by omega)<|s_nil<|q_then<|c_seq<|c_f<|c_exit<|q_ex<|q_ex<|q_exb<|q_then<|c_seq<|c_reg<|s_y y_mv<|s_y y_mv<|s_y y_mv<|s_y (y_rem8 (p:=m6) (q:=8))<|s_y y_cvb<|?_
              rw [hut]
              refine s_y y_mv<|s_kf (y_lss (p:=(ut:Nat)) (q:=(wt:Nat))) (by omega)<|s_y y_pk<|s_y y_as<|s_nil<|q_then<|c_seq<|c_seq<|c_reg<|s_y y_mv<|s_nil<|q_then<|c_t<|c_seq<|c_reg<|s_y (y_lda (b:=b42) (cs:=#[I 0,I 3,I (pp 4 77:Nat),I (pp 4 78:Nat),I (R.length:Nat),.slice ya.1 L.length ya.2,.slice none 0 0]) (hl:=rfl))<|s_y y_fa<|s_y (y_ld (b:=b25) (v:=.slice y.1.1 ((LK R.length).length) y.1.2))<|s_y y_mv<|s_y y_mv<|s_y (y_rem8 (p:=m6) (q:=8))<|s_y y_cvb<|?_
              rw [hut]
              refine s_y (y_add (p:=(R.length:Nat)) (q:=(ut:Nat)))<|s_gives (fun w' hw=>Object_y w' (apl (tC n N wt k R.length) L) ya.1 none y.1.1 ya.2 0 y.1.2 (LK R.length) 0 (((R.length:Nat):Int) + ((ut:Nat):Int)) 100 (hg.st hw) (rdR (.tail _ (.tail _ (.tail _ (.tail _ (.head _))))) w' hw) (by omega) (Rd.nil _ _) (Nat.le_refl _) (Nat.zero_le _) 0 (pp 4 100:Nat) (pp 4 100:Nat) 1 (LK_ok (by omega)) (by rw [hLK]; rfl) ⟨(show (0:Int) / 8 = 0 by decide),(show (0:Int) ≠ 3 by decide),(fun h=>by cases h),(show ((R.length:Nat):Int) ≤ (((R.length:Nat):Int) + ((ut:Nat):Int)) ∧ (((R.length:Nat):Int) + ((ut:Nat):Int)) ≤ 65536 by omega)⟩ (by decide) (by decide) rfl (blg_r5 hps hI.b) (by unfold R64; omega) (by unfold R64; omega)) fun (x290:Option Addr × Nat) _=>s_y y_mv<|s_y y_ext<|s_y y_ext<|s_alloc fun b54=>s_sta (b:=b54) (vs:=#[I 0,I 3,I (pp 4 77:Nat),I (pp 4 78:Nat),I (R.length:Nat),.slice ya.1 L.length ya.2,.slice x290.1 1 x290.2]) (cs:=#[I 0,I 0,I 0,I 0,I 0,.slice none 0 0,.slice none 0 0]) (h1:=one_allA rfl) (hl:=rfl) (hs1:=rfl) ?_
              refine s_y y_as<|s_nil<|q_then<|c_seq<|c_seq<|c_reg<|s_y y_mv<|s_nf (y_neq (p:=0) (q:=0)) (by omega)<|s_nil<|q_then<|c_f<|c_skip<|q_then<|c_reg<|s_y (y_lda (b:=b54) (cs:=#[I 0,I 3,I (pp 4 77:Nat),I (pp 4 78:Nat),I (R.length:Nat),.slice ya.1 L.length ya.2,.slice x290.1 1 x290.2]) (hl:=rfl))<|s_sta (b:=b42) (vs:=#[I 0,I 3,I (pp 4 77:Nat),I (pp 4 78:Nat),I (R.length:Nat),.slice ya.1 L.length ya.2,.slice x290.1 1 x290.2]) (cs:=#[I 0,I 3,I (pp 4 77:Nat),I (pp 4 78:Nat),I (R.length:Nat),.slice ya.1 L.length ya.2,.slice none 0 0]) (h1:=one_allA rfl) (hl:=rfl) (hs1:=rfl) ?_
              refine s_nil<|q_then<|c_seq<|c_reg<|s_y (y_lda (b:=b19) (cs:=#[I 0,I (pp 4 (dscal k lbRec):Nat),.slice x96.1.1 ((gsl n).length) x96.1.2,I ((N + 1:Nat):Int),I (wt:Nat)]) (hl:=rfl))<|s_y (y_lda (b:=b42) (cs:=#[I 0,I 3,I (pp 4 77:Nat),I (pp 4 78:Nat),I (R.length:Nat),.slice ya.1 L.length ya.2,.slice x290.1 1 x290.2]) (hl:=rfl))<|s_y y_mv<|s_y y_mv<|s_y (y_add (p:=(R.length:Nat)) (q:=(wt:Nat)))<|s_y (y_sub (p:=((R.length:Nat):Int) + ((wt:Nat):Int)) (q:=1))<|s_pure (fun w' hw=>(by have hE:=tp_early2 (v:=(nVt (apl (tC n N wt k R.length) L) 0 (((R.length:Nat):Int) + ((ut:Nat):Int)) 100)) hps hI rfl hit; have h9:=Finish_st w' (tP n N wt k) (vtd (apl (tC n N wt k R.length) L) (nVt (apl (tC n N wt k R.length) L) 0 (((R.length:Nat):Int) + ((ut:Nat):Int)) 100)) ((((R.length:Nat):Int) + ((wt:Nat):Int)) - 1) 1 x96.1.1 ya.1 x290.1 x96.1.2 ya.2 x290.2 (rdR (.tail _ (.tail _ (.tail _ (.tail _ (.tail _ (.tail _ (.tail _ (.tail _ (.tail _ (.tail _ (.tail _ (.head _)))))))))))) w' hw) (rdR (.tail _ (.tail _ (.head _))) w' hw) (rdR (.tail _ (.head _)) w' hw) hgl hL8 (show 1 ≤ 1000000 by decide) 78 (by rw [hE]; decide); rw [hE] at h9; exact h9))<|s_y y_mv<|s_y y_ext<|s_y y_ext<|s_alloc fun b56=>s_sta (b:=b56) (vs:=#[I 0,I 0,I 0,I 0,I 0,I 0,I 0,I 0]) (cs:=#[I 0,I 0,I 0,I 0,I 0,I 0,I 0,I 0]) (h1:=one_allA rfl) (hl:=(show (8:Nat) = 8 from rfl)) (hs1:=rfl) ?_
              refine s_y y_as<|s_nil<|q_then<|c_seq<|c_reg<|s_y (y_lda (b:=b19) (cs:=#[I 0,I (pp 4 (dscal k lbRec):Nat),.slice x96.1.1 ((gsl n).length) x96.1.2,I ((N + 1:Nat):Int),I (wt:Nat)]) (hl:=rfl))<|s_y (y_lda (b:=b42) (cs:=#[I 0,I 3,I (pp 4 77:Nat),I (pp 4 78:Nat),I (R.length:Nat),.slice ya.1 L.length ya.2,.slice x290.1 1 x290.2]) (hl:=rfl))<|s_y y_mv<|s_y y_mv<|s_y (y_add (p:=(R.length:Nat)) (q:=(wt:Nat)))<|?_
              by_cases hfew:L.length < N + 1
              · refine s_pure (fun w' hw=>(by have hE:=tp_few2 (v:=(nVt (apl (tC n N wt k R.length) L) 0 (((R.length:Nat):Int) + ((ut:Nat):Int)) 100)) hps hI hfew rfl hit; have h9:=Finish_st w' (tP n N wt k) (vtd (apl (tC n N wt k R.length) L) (nVt (apl (tC n N wt k R.length) L) 0 (((R.length:Nat):Int) + ((ut:Nat):Int)) 100)) (((R.length:Nat):Int) + ((wt:Nat):Int)) 1 x96.1.1 ya.1 x290.1 x96.1.2 ya.2 x290.2 (rdR (.tail _ (.tail _ (.tail _ (.tail _ (.tail _ (.tail _ (.tail _ (.tail _ (.tail _ (.tail _ (.tail _ (.tail _ (.head _))))))))))))) w' hw) (rdR (.tail _ (.tail _ (.tail _ (.head _)))) w' hw) (rdR (.tail _ (.tail _ (.head _))) w' hw) hgl hL8 (show 1 ≤ 1000000 by decide) 78 (by rw [hE]; decide); rw [hE] at h9; exact h9))<|s_y y_mv<|s_y y_ext<|s_y y_ext<|s_alloc fun b58=>s_sta (b:=b58) (vs:=#[I 0,I 0,I 0,I 0,I 0,I 0,I 0,I 0]) (cs:=#[I 0,I 0,I 0,I 0,I 0,I 0,I 0,I 0]) (h1:=one_allA rfl) (hl:=(show (8:Nat) = 8 from rfl)) (hs1:=rfl) ?_
                refine s_y y_as<|s_nil<|q_then<|c_seq<|c_seq<|c_reg<|s_y y_mv<|s_kf (y_eql (p:=391) (q:=0)) (by omega)<|s_y y_mv<|s_y y_mv<|s_kf (y_eql (p:=390) (q:=0)) (by omega)<|s_y y_mv<|s_y (y_lenm (kv:=KM L))<|?_
                rw [KM_length]
                refine s_y y_fa<|s_y (y_ld (b:=b19) (v:=I ((N + 1:Nat):Int)))<|s_kf (y_geq (p:=(L.length:Nat)) (q:=((N + 1:Nat):Int))) (by omega)<|s_y y_mv<|s_no<|s_no<|s_y y_pk<|s_y (v:=.bool false) (y_neqb (a:=false) (b:=false))<|s_y y_pk<|s_nil<|q_then<|c_f<|c_skip<|q_then<|c_seq<|c_seq<|c_reg<|s_y y_mv<|s_nt (y_neq (p:=390) (q:=0)) (by omega)<|s_nil<|q_then<|c_t<|c_seq<|c_reg<|s_y (y_lda (b:=b58) (cs:=(List.replicate 8 (I 0)).toArray) (hl:=rfl))<|s_y (y_bcert (cs:=List.replicate 8 (I 0)))<|s_y (y_eqlCt (a:=0) (b:=0) (c:=0) (d:=0) (e:=0) (q:=0) (r:=0) (s:=0))<|s_y y_as<|s_nil<|q_then<|c_ret<|q_ret<|?_
                exact ret1 Tryz.results3 rv_t fun w' hw=>⟨rfl,hw.sub (List.nil_sublist _)⟩
              · refine s_pure (fun w' hw=>(by have hE:=tp_fin2 (v:=(nVt (apl (tC n N wt k R.length) L) 0 (((R.length:Nat):Int) + ((ut:Nat):Int)) 100)) hps hI hfew rfl hit; have h9:=Finish_yes w' (tP n N wt k) (vtd (apl (tC n N wt k R.length) L) (nVt (apl (tC n N wt k R.length) L) 0 (((R.length:Nat):Int) + ((ut:Nat):Int)) 100)) (((R.length:Nat):Int) + ((wt:Nat):Int)) 1 x96.1.1 ya.1 x290.1 x96.1.2 ya.2 x290.2 ⟨(rdR (.tail _ (.tail _ (.tail _ (.tail _ (.tail _ (.tail _ (.tail _ (.tail _ (.tail _ (.tail _ (.tail _ (.tail _ (.head _))))))))))))) w' hw),(rdR (.tail _ (.tail _ (.tail _ (.head _)))) w' hw),(rdR (.tail _ (.tail _ (.head _))) w' hw),hgl,hL8,(show 1 ≤ 1000000 by decide),hI.l,(blg_r5 hps (tp_blg hI)),hI.k,(fun z hz=>⟨rdR (.tail _ (.tail _ (.tail _ (.tail _ (.tail _ (.tail _ (.tail _ (.tail _ (.tail _ (.tail _ (.tail _ (.tail _ (.tail _ (.tail _ (.tail _ (mem_bods hz)))))))))))))))) w' hw,hI.q z hz⟩),(hg.st hw)⟩ 78 hE.1; rw [hE.2] at h9; exact h9))<|s_y y_mv<|s_y y_ext<|s_y y_ext<|s_alloc fun b58=>s_sta (b:=b58) (vs:=#[I 3,I 3,I (pp 4 77:Nat),I (pp 4 78:Nat),I 1,I (-1),I (sgR (dscal k lbRec) (cmsg [3,3,(pp 4 77:Nat),(pp 4 78:Nat),1,-1]):Nat),I (sgS (dscal k lbRec) (cmsg [3,3,(pp 4 77:Nat),(pp 4 78:Nat),1,-1]):Nat)]) (cs:=#[I 0,I 0,I 0,I 0,I 0,I 0,I 0,I 0]) (h1:=one_allA rfl) (hl:=(show (8:Nat) = 8 from rfl)) (hs1:=rfl) ?_
                refine s_y y_as<|s_nil<|q_then<|c_seq<|c_seq<|c_reg<|s_y y_mv<|s_kf (y_eql (p:=391) (q:=0)) (by omega)<|s_y y_mv<|s_y y_mv<|s_kt (y_eql (p:=0) (q:=0)) (by omega)<|s_y y_mv<|s_y (y_lenm (kv:=KM L))<|?_
                rw [KM_length]
                refine s_y y_fa<|s_y (y_ld (b:=b19) (v:=I ((N + 1:Nat):Int)))<|s_kt (y_geq (p:=(L.length:Nat)) (q:=((N + 1:Nat):Int))) (by omega)<|s_y y_mv<|s_y y_mv<|s_y (v:=.bool true) (y_not (b:=false))<|s_y y_pk<|s_y (v:=.bool false) (y_neqb (a:=true) (b:=true))<|s_y y_pk<|s_nil<|q_then<|c_f<|c_skip<|q_then<|c_seq<|c_seq<|c_reg<|s_y y_mv<|s_nf (y_neq (p:=0) (q:=0)) (by omega)<|s_nil<|q_then<|c_f<|c_skip<|q_then<|c_seq<|c_reg<|s_y y_mv<|s_y y_fa<|s_y (y_ld (b:=b25) (v:=.slice y.1.1 ((LK R.length).length) y.1.2))<|s_y (y_lda (b:=b58) (cs:=#[I 3,I 3,I (pp 4 77:Nat),I (pp 4 78:Nat),I 1,I (-1),I (sgR (dscal k lbRec) (cmsg [3,3,(pp 4 77:Nat),(pp 4 78:Nat),1,-1]):Nat),I (sgS (dscal k lbRec) (cmsg [3,3,(pp 4 77:Nat),(pp 4 78:Nat),1,-1]):Nat)]) (hl:=rfl))<|s_pure (fun w' hw=>Accept3_ok w' 3 (pp 4 77:Nat) (pp 4 78:Nat) (sgR (dscal k lbRec) (cmsg [3,3,(pp 4 77:Nat),(pp 4 78:Nat),1,-1]):Nat) (sgS (dscal k lbRec) (cmsg [3,3,(pp 4 77:Nat),(pp 4 78:Nat),1,-1]):Nat) (UU (tP n N wt k) x96.1.1 x96.1.2 n) (LK R.length)  ⟨(tP n N wt k),x96.1.1,x96.1.2⟩ 0 yp.1 y.1.1 (n + 1) yp.2 (LK R.length).length y.1.2 (hg.st hw).1 (rdR (.tail _ (.tail _ (.tail _ (.tail _ (.tail _ (.tail _ (.tail _ (.tail _ (.tail _ (.tail _ (.head _))))))))))) w' hw) (UU_rd (rdR (.tail _ (.tail _ (.tail _ (.tail _ (.tail _ (.tail _ (.tail _ (.tail _ (.tail _ (.tail _ (.tail _ (.tail _ (.tail _ (.head _)))))))))))))) w' hw)) (UU_length _ _ _ _) (by omega) (UU_ok _ _ hn5 hNn hw4) (rdR (.tail _ (.tail _ (.tail _ (.tail _ (.tail _ (.tail _ (.tail _ (.tail _ (.head _))))))))) w' hw) rfl (by omega) (LK_nd _) (LK_no3 _) ⟨by decide,by decide,chk_pub _,chk_pub _⟩ (UU_zero _ _ _ _) (show (0:Int) = 3 / 8 by decide) (fun w' a c hg hr=>verifyT w' a c 32 (dscal k lbRec) _ hg (cmsg_length _) (by decide) hr))<|s_y y_mv<|s_y y_ext<|s_y y_ext<|s_alloc fun b60=>s_sta (b:=b60) (vs:=#[I 3,I (pp 4 77:Nat),I (pp 4 78:Nat),I 1,.bool false]) (cs:=#[I 0,I 0,I 0,I 0,.bool false]) (h1:=one_allA rfl) (hl:=rfl) (hs1:=rfl) ?_
                refine s_y y_as<|s_nil<|q_then<|c_seq<|c_reg<|s_y (y_lda (b:=b25) (cs:=#[I (kd:Nat),.slice y.1.1 ((LK R.length).length) y.1.2,.slice y.2.1 R.length y.2.2]) (hl:=rfl))<|s_y (y_lda (b:=b60) (cs:=#[I 3,I (pp 4 77:Nat),I (pp 4 78:Nat),I 1,.bool false]) (hl:=rfl))<|s_gives (fun w' hw=>Set_ok w' kd [lkE 0] (LB n) R nwE y.1.1 y.2.1 (LK R.length).length y.1.2 y.2.2 (hg.st hw).1 (by rw [← hLK]; exact (rdR (.tail _ (.tail _ (.tail _ (.tail _ (.tail _ (.tail _ (.tail _ (.tail _ (.tail _ (.head _)))))))))) w' hw)) (rdR (.tail _ (.tail _ (.tail _ (.tail _ (.tail _ (.tail _ (.tail _ (.tail _ (.head _))))))))) w' hw) (by rw [hLK]) (by rw [← hLK]; exact LK_ok (by omega)) nwE_ok rfl LA_lt LB_gt hRo (by omega) (by omega) hRc hkd0 hkd1) fun (x347:(Option Addr × Nat) × (Option Addr × Nat)) hx347=>s_y y_mv<|s_y y_ext<|s_y y_ext<|s_alloc fun b62=>s_sta (b:=b62) (vs:=#[I (kd:Nat),.slice x347.1.1 ((LK R.length).length + 1) x347.1.2,.slice x347.2.1 (R.length + 1) x347.2.2]) (cs:=#[I 0,.slice none 0 0,.slice none 0 0]) (h1:=one_allA rfl) (hl:=rfl) (hs1:=rfl) ?_
                refine s_y y_as<|s_nil<|q_then<|c_seq<|c_seq<|c_reg<|s_y y_mv<|s_nf (y_neq (p:=0) (q:=0)) (by omega)<|s_y y_mv<|s_y y_mv<|s_nf (y_neq (p:=0) (q:=0)) (by omega)<|s_y y_pk<|s_y y_mv<|s_y (y_lda (b:=b60) (cs:=#[I 3,I (pp 4 77:Nat),I (pp 4 78:Nat),I 1,.bool false]) (hl:=rfl))<|s_y y_mv<|s_y y_mv<|s_y (y_blst (cs:=[I 3,I (pp 4 77:Nat),I (pp 4 78:Nat),I 1,.bool false]))<|s_y (y_neqLs (a:=3) (b:=(pp 4 77:Nat)) (c:=(pp 4 78:Nat)) (d:=1) (e:=false))<|s_y y_pk<|s_y y_mv<|s_y y_fa<|s_y (y_ld (b:=b62) (v:=.slice x347.2.1 (R.length + 1) x347.2.2))<|s_y y_len<|s_y y_mv<|s_y (y_add (p:=(R.length:Nat)) (q:=1))<|s_nf (y_neq (p:=(R.length + 1)) (q:=(R.length:Nat) + 1)) (by omega)<|s_y y_pk<|s_nil<|q_then<|c_f<|c_skip<|q_then<|c_seq<|c_reg<|s_y y_fa<|s_y (y_ld (b:=b62) (v:=.slice x347.1.1 ((LK R.length).length + 1) x347.1.2))<|s_gives (fun w' hw=>Prove_ok w' ([lkE 0] ++ nwE :: LB n) x347.1.1 ((LK R.length).length + 1) x347.1.2 3 (by decide) (hg.st hw).1 (rdR (.tail _ (.tail _ (.head _))) w' hw) (by rw [hLK,List.length_append,List.length_append,List.length_cons]; rfl) (by omega) (dir_pw (dir_ins (hLK ▸ LK_ok (by omega)) nwE_ok LA_lt LB_gt)).1) fun (x374:Option Addr × Nat) _=>s_y y_mv<|s_y y_ext<|s_y y_ext<|s_y y_as<|s_y y_as<|s_nil<|q_then<|c_seq<|c_regd<|d_y y_mv<|d_kt (y_eql (p:=0) (q:=0)) (by omega)<|d_y y_mv<|d_y y_fa<|d_y (y_ld (b:=b62) (v:=.slice x347.2.1 (R.length + 1) x347.2.2))<|d_y y_mv<|d_y (y_ixs (xs:=rtc (R ++ [(nRt kd ([lkE 0] ++ nwE :: LB n) R)])) (i:=((R.length:Nat):Int)) (hr:=rdR (.tail _ (.tail _ (.head _)))) (hl:=by rw [rtc_length (RtOk_snoc hRo (by omega)),List.length_append,List.length_singleton]; omega))<|d_y y_far<|d_y (y_ldra (i:=R.length * 67 + 1) (xs:=rtc (R ++ [(nRt kd ([lkE 0] ++ nwE :: LB n) R)])) (cs:=bs (ndD ([lkE 0] ++ nwE :: LB n) 9 1)) (rdR (.tail _ (.tail _ (.head _)))) (by rw [bs_length]; exact ndD_length _ _ _) (rt_dg hRo (nRt kd ([lkE 0] ++ nwE :: LB n) R) rfl))<|d_y (y_lda (b:=b60) (cs:=#[I 3,I (pp 4 77:Nat),I (pp 4 78:Nat),I 1,.bool false]) (hl:=rfl))<|d_y y_mv<|d_pure (fun w' hw=>Verify_ok w' (ndD ([lkE 0] ++ nwE :: LB n) 9 1) nwE (pathD ([lkE 0] ++ nwE :: LB n) (512 + 3) 9) x374.1 x374.2 3 (hg.st hw).1 (ndD_length _ _ _) nwE_ok rfl path32 (pathD_length _ _ _) (rdR (.head _) w' hw) (nw_climb n))<|d_y y_pk<|d_y y_as<|d_nil<|q_then<|c_ret<|?_
                exact ret1 Tryz.results3 rv_t fun w' hw=>⟨rfl,hw.sub (List.nil_sublist _)⟩
theorem top_ok (w:World) (m0 m1 m2 m6:UInt8) (k:List UInt8) (qs:List UInt8) (qa:Option Addr) (qc:Nat) (vb:Bool) (hg:LC w) (hk:k.length = 32) (hrq:Rd w qa (bs qs)):Pure Tryz.prog 3 [B m0,B m1,B m2,.agg (bs k).toArray,.slice qa qs.length qc,.bool vb,B m6] w (.bool true):=by
  by_cases h:qs.length ≤ 8
  · exact top_short w m0 m1 m2 m6 k qs qa qc vb hg hk hrq h
  · exact top_long w m0 m1 m2 m6 k qs qa qc vb hg hk hrq h
end Go.Proofs.YtegfmbefhpagmaaGreatDoor
end
