/- Joined texts: AppN WrD Fld ShA ShB ShC ShD ShE ShF ShG Poly ShK EqS ShH ShI ShJ ShL VFlat RegG IntL RsP MapE MapL Rec Mask RsA Slices RsB. -/
import Derived.WalkKit
import Derived.TacticsInMore
import Derived.OrdersIn
import Derived.RangeFuncCalls
import Derived.Deep.LoopGhost
import Derived.Deep.Quiet
import Derived.KernelRfl
import Derived.Laws.BytesString
import Derived.Laws.StructEq
import Derived.MapKept
import Derived.Laws.IdiomStrings
import Derived.Recover
import Derived.RangeFuncLeaves
import Derived.ChangeKeysEq
import Derived.Maps.RangeRun
import Derived.Laws.Build
import Derived.Lib.Overlaps
import Derived.ProofKit
import Derived.LaidMore
import Derived.LaidHandle
import Derived.OpenShut
import Derived.FnData
import Derived.SizedLaws
import Derived.ChangeMaps5
import Derived.Deep.Slices
import Derived.JoinedOf
import Derived.SevenTiedAt
import Derived.Test.YtegfmbefhpagmaaGreatDoorChecked
import Derived.Test.YtegfmbefhpagmaaGreatDoorRows
import Derived.Test.YtegfmbefhpagmaaGreatDoorCards
import Derived.Test.YtegfmbefhpagmaaGreatDoorTie
import Derived.Test.YtegfmbefhpagmaaGreatDoorTo3
set_option linter.all false
section
namespace Eng
open Go Go.RowKit
theorem run_apzN {P:Program} {t u ty e:TypeId} {kd ku:IntKind} {s by':Nat} {z:Value} {w:World} (ht:P.underlying t = some (.slice e)) (hu:P.underlying u = some (.int kd))
    (hs:HS P e s by') (hz:HZ P e z) (hzs:z.cells.size = s) {a:Option Addr} {n c m:Nat} {xs:List Value}
    (hrd:Rd w a xs) (hxl:xs.length = n * s) (hc:c ≤ maxLen) (hroom:¬ n + m ≤ c) (hfit:n + m ≤ maxLen) (hby:(n + m) * by' ≤ 140737488355328) :
    ∃ cc cur,(Builtin.append_ #[t,u] ty #[.slice a n c,.int ku (m:Int)]).run P w = .ok (.slice (some ⟨w.heap.size,0,none⟩) (n + m) cc) (w.drew.alloc (.cells cur e)) ∧
      (Res.row (some ⟨w.heap.size,0,none⟩) cc e s (n + m) (xs ++ repL m z.cells.toList)).holds (w.drew.alloc (.cells cur e)):=by
  obtain ⟨i,hi,hsz,hbz⟩:=hs.h
  have hyl:(repL m z.cells.toList).length = m * s:=by rw [repL_length,Array.length_toList,hzs]
  have hw:IntKind.i64.wrap (m:Int) = m:=wrap_i64 (by simp only [maxLen] at hfit; unfold R64; omega)
  have hm0:¬ ((m:Int) < 0):=by omega
  have hmb:¬ (281474976710656 < (m:Int) * (i.bytes:Int)):=by
    have h3:m * by' ≤ (n + m) * by':=Nat.mul_le_mul_right _ (by omega)
    have h4:((m * by':Nat):Int) ≤ 140737488355328:=by omega
    rw [hbz]
    rw [Int.natCast_mul] at h4
    omega
  have hzz:=fun w=>hz.h w
  have has:∀ w,(asInt (.int ku (m:Int))).run P w = .ok (m:Int) w:=fun _=>rfl
  have hz1:m * s = 0 → repL m z.cells.toList = []:=fun h0=>List.eq_nil_of_length_eq_zero (by rw [hyl,h0])
  have hz2:¬ (m * s = 0) → Builtin.zeroCells z.cells m = (repL m z.cells.toList).toArray:=fun h0=>by
    have:=zeros_eq z.cells s m hzs
    rwa [if_neg h0] at this
  generalize hys:repL m z.cells.toList = ys at *
  have h63':¬ (9223372036854775807 < ((n:Int) + (m:Int))):=by simp only [maxLen] at hfit; omega
  have hns:Builtin.nextslicecap (n + m) c * i.bytes ≤ 281474976710656:=growslice_fits (by omega) (by rw [hbz]; exact hby)
  have h48':¬ (281474976710656 < Builtin.nextslicecap (n + m) c * i.bytes):=by omega
  have hold:(Builtin.firstCells s n (.slice a n c)).run P w.drew = .ok xs.toArray w.drew :=
    (Src.slice (Rd.congr (w:=w) (w':=w.drew) hrd (fun b _=>rfl)) hxl).2.1
  have hge:=grownCap_ge w (n + m) c e
  have hcm:grownCap w (n + m) c e ≤ maxLen:=grownCap_le_maxLen w (n + m) c e hfit
  refine ⟨grownCap w (n + m) c e,xs.toArray ++ ys.toArray ++ Builtin.zeroCells z.cells (grownCap w (n + m) c e - (n + m)),?_,⟨by simp [hxl,hyl,Nat.add_mul],hge,.inr ⟨w.heap.size,_,rfl,heap_alloc_new w.drew _,hcm,?_,?_⟩⟩⟩
  · have hni:¬ (n + m ≤ c):=hroom
    by_cases h0:m * s = 0
    · have e0:=hz1 h0
      subst e0
      simp [Builtin.append_,run_underlying ht,run_underlying hu,Go.sizeOf,typeInfo,hi,hsz,hni,h63',h48',Question.forced,hold,hzz,newRow,grownCap,hw,hm0,hmb,has,h0] <;> (congr 2; apply Array.ext'; simp)
    · have e0:=hz2 h0
      simp [Builtin.append_,run_underlying ht,run_underlying hu,Go.sizeOf,typeInfo,hi,hsz,hni,h63',h48',Question.forced,hold,hzz,newRow,grownCap,hw,hm0,hmb,has,h0,e0] <;> (congr 2; apply Array.ext'; simp)
  · simp only [Array.size_append,List.size_toArray,size_zeroCells,hzs,hxl,hyl,← Nat.add_mul]
    congr 1; omega
  · simp only [Array.toList_append]
    rw [List.take_append_of_le_length (by simp [hxl,hyl,Nat.add_mul]),List.take_of_length_le (by simp [hxl,hyl,Nat.add_mul])]
theorem run_appN {P:Program} {t u ty e:TypeId} {ud:TypeDesc} {s by':Nat} {z:Value} {w:World} (ht:P.underlying t = some (.slice e)) (hu:P.underlying u = some ud) (hud:(∃ e',ud = .slice e') ∨ ud = .string)
    (hs:HS P e s by') (hz:HZ P e z) (hzs:z.cells.size = s) {a:Option Addr} {n c m:Nat} {xs ys:List Value} {x:Value}
    (hrd:Rd w a xs) (hxl:xs.length = n * s) (hc:c ≤ maxLen) (hroom:¬ n + m ≤ c) (hx:Src P w s x m ys) (hxd:Src P w.drew s x m ys) (hfit:n + m ≤ maxLen) (hby:(n + m) * by' ≤ 140737488355328) :
    ∃ cc cur,(Builtin.append_ #[t,u] ty #[.slice a n c,x]).run P w = .ok (.slice (some ⟨w.heap.size,0,none⟩) (n + m) cc) (w.drew.alloc (.cells cur e)) ∧
      (Res.row (some ⟨w.heap.size,0,none⟩) cc e s (n + m) (xs ++ ys)).holds (w.drew.alloc (.cells cur e)):=by
  obtain ⟨i,hi,hsz,hbz⟩:=hs.h
  have hsrcl:=hx.2.2
  have h63':¬ (9223372036854775807 < ((n:Int) + (m:Int))):=by simp only [maxLen] at hfit; omega
  have hns:Builtin.nextslicecap (n + m) c * i.bytes ≤ 281474976710656:=growslice_fits (by omega) (by rw [hbz]; exact hby)
  have h48':¬ (281474976710656 < Builtin.nextslicecap (n + m) c * i.bytes):=by omega
  have hold:(Builtin.firstCells s n (.slice a n c)).run P w.drew = .ok xs.toArray w.drew :=
    (Src.slice (Rd.congr (w:=w) (w':=w.drew) hrd (fun b _=>rfl)) hxl).2.1
  have hge:=grownCap_ge w (n + m) c e
  have hcm:grownCap w (n + m) c e ≤ maxLen:=grownCap_le_maxLen w (n + m) c e hfit
  refine ⟨grownCap w (n + m) c e,xs.toArray ++ ys.toArray ++ Builtin.zeroCells z.cells (grownCap w (n + m) c e - (n + m)),?_,⟨by simp [hxl,hsrcl,Nat.add_mul],hge,.inr ⟨w.heap.size,_,rfl,heap_alloc_new w.drew _,hcm,?_,?_⟩⟩⟩
  · have hzz:=hz.h w.drew
    have hni:¬ (n + m ≤ c):=hroom
    rcases hud with ⟨e',rfl⟩ | rfl <;> simp [Builtin.append_,run_underlying ht,run_underlying hu,Go.sizeOf,typeInfo,hi,hx.1,hsz,hni,h63',h48',Question.forced,hold,hxd.2.1,hzz,newRow,grownCap] <;> (congr 2; apply Array.ext'; simp)
  · simp only [Array.size_append,List.size_toArray,size_zeroCells,hzs,hxl,hsrcl,← Nat.add_mul]
    congr 1; omega
  · simp only [Array.toList_append]
    rw [List.take_append_of_le_length (by simp [hxl,hsrcl,Nat.add_mul]),List.take_of_length_le (by simp [hxl,hsrcl,Nat.add_mul])]
section
variable {r:Option Nat} {P:Program} {n:Nat} {D:List Deferred} {W:World} {Bo:List Nat} {F:List (Nat × Value)} {l l':SH}
  {d:Option Tmp} {dd:Nat} {ty:TypeId} {ps:String} {af:Array Edge} {g:Option (Nat × Bool)} {x y z:Operand} {v u:Value} {ta tb t e:TypeId}
  {Q:Exit → Act → World → Prop} {ops:Array Oper} {rest:List Oper} {td:TypeDesc} {c:Code}
theorem s_apzN [ht:HU P ta (.slice e)] {kd:IntKind} [hu:HU P tb (.int kd)] {s by':Nat} [hs:HS P e s by'] {zz:Value} [hz:HZ P e zz] {a:Option Addr} {k cc m:Nat} {xs:List Value} {ku:IntKind}
    (hr:RdS W Bo l a xs)
    (h:∀ b c',LP r P n D W Bo ops Q rest ((dd,.slice (some ⟨b,0,none⟩) (k + m) c') :: F) (.row (some ⟨b,0,none⟩) c' e s (k + m) (xs ++ repL m zz.cells.toList) :: l))
    (hx:evO F x = some (.slice a k cc):=by rfl) (hy:evO F y = some (.int ku (m:Int)):=by rfl)
    (hl:xs.length = k * s:=by first | rfl | simp [bs_length]) (hc:cc ≤ maxLen:=by (unfold maxLen; omega)) (hroom:¬ k + m ≤ cc:=by omega) (hfit:k + m ≤ maxLen:=by (unfold maxLen; omega)) (hby:(k + m) * by' ≤ 140737488355328:=by omega)
    (hzs:zz.cells.size = s:=by rfl) (hn:Nat.blt dd n = true:=by rfl) (hg:Wn ops F g:=by first | exact .none | exact .some rfl rfl) :
    LP r P n D W Bo ops Q (⟨some dd,.call ⟨.builtin .append,#[x,y],#[ta,tb]⟩,ty,ps,af,g⟩ :: rest) F l:=by
  refine s_new (σ:=Nat × Nat) (fun p=>.slice (some ⟨p.1,0,none⟩) (k + m) p.2) (fun p=>.row (some ⟨p.1,0,none⟩) p.2 e s (k + m) (xs ++ repL m zz.cells.toList) :: l) (fun _=>True) (by simp) ?_ (hn:=hn) (hg:=hg) (h:=fun p _=>h p.1 p.2)
  intro ac w ha hw
  obtain ⟨c',cur,hrun,hrow⟩:=run_apzN (ty:=ty) (ku:=ku) (m:=m) ht.h hu.h hs hz hzs (hr w hw) hl hc hroom hfit hby
  refine ⟨(w.heap.size,c'),w.drew.alloc (.cells cur e),trivial,?_,hw.drew.add ((Below.refl _ _).alloc (Nat.le_refl _) _) hrow (fun j hj=>by cases hj; exact Nat.le_refl _)⟩
  have e1:#[x,y].map ac.eval = #[.slice a k cc,.int ku (m:Int)]:=by simp [ha.eval hx,ha.eval hy]
  simp only [execOp,resolve,e1,Sem.run_bind,Sem.run_pure,Result.andThen_ok,invoke,builtin,hrun]
theorem s_appN [ht:HU P ta (.slice e)] [hu:HU P tb td] {s by':Nat} [hs:HS P e s by'] {zz:Value} [hz:HZ P e zz] {a:Option Addr} {k cc m:Nat} {xs ys:List Value} {sv:Value}
    (hr:RdS W Bo l a xs) (hsrc:∀ w,St W Bo w l → Src P w s sv m ys)
    (h:∀ b c',LP r P n D W Bo ops Q rest ((dd,.slice (some ⟨b,0,none⟩) (k + m) c') :: F) (.row (some ⟨b,0,none⟩) c' e s (k + m) (xs ++ ys) :: l))
    (hx:evO F x = some (.slice a k cc):=by rfl) (hy:evO F y = some sv:=by rfl)
    (hl:xs.length = k * s:=by first | rfl | simp [bs_length]) (hc:cc ≤ maxLen:=by (unfold maxLen; omega)) (hroom:¬ k + m ≤ cc:=by omega) (hfit:k + m ≤ maxLen:=by (unfold maxLen; omega)) (hby:(k + m) * by' ≤ 140737488355328:=by omega)
    (hud:(∃ e',td = .slice e') ∨ td = .string:=by first | exact .inl ⟨_,rfl⟩ | exact .inr rfl) (hzs:zz.cells.size = s:=by rfl) (hn:Nat.blt dd n = true:=by rfl) (hg:Wn ops F g:=by first | exact .none | exact .some rfl rfl) :
    LP r P n D W Bo ops Q (⟨some dd,.call ⟨.builtin .append,#[x,y],#[ta,tb]⟩,ty,ps,af,g⟩ :: rest) F l:=by
  refine s_new (σ:=Nat × Nat) (fun p=>.slice (some ⟨p.1,0,none⟩) (k + m) p.2) (fun p=>.row (some ⟨p.1,0,none⟩) p.2 e s (k + m) (xs ++ ys) :: l) (fun _=>True) (by simp) ?_ (hn:=hn) (hg:=hg) (h:=fun p _=>h p.1 p.2)
  intro ac w ha hw
  obtain ⟨c',cur,hrun,hrow⟩:=run_appN (ty:=ty) (m:=m) ht.h hu.h hud hs hz hzs (hr w hw) hl hc hroom (hsrc w hw) (hsrc w.drew hw.drew) hfit hby
  refine ⟨(w.heap.size,c'),w.drew.alloc (.cells cur e),trivial,?_,hw.drew.add ((Below.refl _ _).alloc (Nat.le_refl _) _) hrow (fun j hj=>by cases hj; exact Nat.le_refl _)⟩
  have e1:#[x,y].map ac.eval = #[.slice a k cc,sv]:=by simp [ha.eval hx,ha.eval hy]
  simp only [execOp,resolve,e1,Sem.run_bind,Sem.run_pure,Result.andThen_ok,invoke,builtin,hrun]
end
end Eng
end
section
namespace Wr
open Go Eng Sha Cha Gf Cod Go.Proofs.YtegfmbefhpagmaaGreatDoor
theorem key_eq (x:Nat) (s:List UInt8):pp (wU s) x = pp (pp 4 x) (wr s):=by unfold wU; rw [pp_pp,pp_pp,Nat.mul_comm]
theorem uK_wK (x:Nat) (s:List UInt8):uK x (wU s) = wK (pp 4 x) s:=by unfold uK wK; rw [key_eq]
theorem w_open (x:Nat) (s h:List UInt8) {b:List UInt8} (hb:b.length ≤ 65536):opOk (uK x (wU s)) z12 h (wB (pp 4 x) s h b) = true ∧ opB (uK x (wU s)) z12 h (wB (pp 4 x) s h b) = b:=by
  rw [uK_wK]; exact sealB_open hb
theorem elU (s:List UInt8):El (wU s):=El.four.pow _
theorem wchk_ok (s:List UInt8) {n:Nat} (h1:16 ≤ n) (h2:n ≤ 65552):wchk (wU s:Nat) n = 0:=by
  unfold wchk; rw [if_pos ⟨(elU s).el,h1,h2⟩]
end Wr
namespace Go.Proofs.YtegfmbefhpagmaaGreatDoor
open Go Eng Gf Sha Cha Wr Cod
set_option maxRecDepth 100000
section
variable (w:World) (ha ca:Option Addr) (hc cc:Nat) (s h b:List UInt8) (x:Nat) (hx0:1 ≤ x) (hx:x < 2305843009213688669) (hrh:Rd w ha (bs h)) (hlh:h.length ≤ 100000) (hg:LC w)
include hx0 hx hrh hlh hg
end
end Go.Proofs.YtegfmbefhpagmaaGreatDoor
end
section
namespace Go.Proofs.YtegfmbefhpagmaaGreatDoor
open Go Eng Gf Dv
theorem Qmod (a b:Nat):a * b % 2305843009213688669 < 2305843009213688669:=Nat.mod_lt _ (by decide)
theorem f_product_ok (w:World) (x y:Nat) (hx:x < 2305843009213688669) (hy:y < 2305843009213688669) :
    Pure Tryz.prog 142 [I x,I y] w (I (x * y % 2305843009213688669:Nat)):=by
  have hd:=Nat.div_add_mod (x * y) 18446744073709551616
  have hp:=prod_lt hx hy (by decide)
  have hml:=Qmod x y
  refine enter Tryz.func142 Tryz.ntmps142 ?_
  refine c_seq<|c_reg<|s_y y_as<|s_nil<|q_then<|c_seq<|c_reg<|s_y y_mv<|s_y (y_cvn (k:=.u64) (p:=(x:Int)) (hw:=wrap_u64 (by omega) (by omega)))<|s_y y_mv<|s_y (y_cvn (k:=.u64) (p:=(y:Int)) (hw:=wrap_u64 (by omega) (by omega)))<|s_pure (fun w' hw=>bits_Mul64_ok w' x y (Nat.lt_trans hx (by decide)) (Nat.lt_trans hy (by decide)))<|s_y y_mv<|s_y y_ext<|s_y y_ext<|s_y y_as<|s_y y_as<|s_nil<|q_then<|c_seq<|c_reg<|s_y y_mv<|s_y y_mv<|s_pure (fun w' hw=>bits_Div64_ok w' (x * y / 18446744073709551616) (x * y % 18446744073709551616) 2305843009213688669 hp (Nat.mod_lt _ (by decide)) (by decide))<|?_
  rw [Nat.mul_comm (x * y / 18446744073709551616),hd]
  refine s_y y_mv<|s_y y_ext<|s_y y_ext<|s_y y_as<|s_y y_as<|s_nil<|q_then<|c_seq<|c_reg<|s_y y_mv<|s_y (y_cvn (k:=.i64) (p:=((x * y % 2305843009213688669:Nat):Int)) (hw:=wrap_i64 (by unfold R64; omega)))<|s_y y_as<|s_nil<|q_then<|c_ret<|?_
  exact ret1 Tryz.results142 rv_t fun w' hw=>⟨rfl,hw⟩
theorem bits_Len_ok (p:Nat) (hp:p < 18446744073709551616):∃ len:Nat,len ≤ 64 ∧ p < 2 ^ len ∧ ∀ w:World,Pure Tryz.prog 210 [U p] w (I len):=by
  obtain ⟨len,h1,h2,_,hu⟩:=bits_Len64_ok p hp
  refine ⟨len,h1,h2,fun w=>?_⟩
  refine enter Tryz.func210 Tryz.ntmps210 ?_
  refine c_seq<|c_reg<|s_y y_as<|s_nil<|q_then<|c_seq<|c_f<|c_skip<|q_then<|c_seq<|c_reg<|s_y y_mv<|s_pure (fun w' _=>hu w')<|s_y y_as<|s_nil<|q_then<|c_ret<|?_
  exact ret1 Tryz.results210 rv_t fun w' hw=>⟨rfl,hw⟩
theorem f_binary_ok (w:World) (e:Nat):Gives Tryz.prog 208 [I e] w [] (fun b:Nat=>.func (.func 209) #[] #[.pointer (some ⟨b,0,none⟩)]) (fun b=>[.blk b (.cells #[I e] 3 (0,0))]) (fun _=>True):=by
  refine enter Tryz.func208 Tryz.ntmps208 ?_
  refine c_seq<|c_reg<|s_box rfl fun b1=>s_y y_as<|s_nil<|q_then<|c_seq<|c_reg<|s_y y_func<|s_y y_as<|s_nil<|q_then<|c_ret<|?_
  exact ret1 Tryz.results208 rv_t fun w' hw=>⟨b1,trivial,rfl,hw⟩
theorem f_power1_ok (w:World) (b5 acc z:Nat) (hp:(Res.blk b5 (.cells #[I acc] 3 (0,0))).holds w) (ha:acc < 2305843009213688669) (hz:z < 2305843009213688669) :
    Gives Tryz.prog 207 [I z,.pointer (some ⟨b5,0,none⟩)] w (keys [.blk b5 (.cells #[I acc] 3 (0,0))]) (fun _:Unit=>.tuple #[]) (fun _=>[.blk b5 (.cells #[I (acc * z % 2305843009213688669:Nat)] 3 (0,0))]) (fun _=>True):=by
  refine enterR Tryz.func207 Tryz.ntmps207 hp ?_
  refine c_reg<|s_y (y_ld (v:=I acc))<|s_y y_mv<|s_pure (fun w' hw=>f_product_ok w' acc z ha hz)<|s_st (v:=I (acc * z % 2305843009213688669:Nat)) (cs:=#[I acc]) (hl:=Nat.zero_lt_one) ?_
  refine s_nil<|?_
  exact ret0 Tryz.results207 (fun w' hw=>⟨(),trivial,rfl,hw⟩) _ (.inr rfl)
abbrev fpF (b5:Nat):Value:=.func (.func 207) #[] #[.pointer (some ⟨b5,0,none⟩)]
def fpM (L Dk:Nat) (rc:Loop) (b6 b5 b2 b1 e b acc:Nat):SH :=
  [.blk L (.loop rc),.blk Dk (.deferred (some [])),.blk b1 (.cells #[I e] 3 (0,0)),.blk b6 (.cells #[fpF b5] 297 (0,0)),.blk b5 (.cells #[I acc] 3 (0,0)),.blk b2 (.cells #[I b] 3 (0,0))]
theorem binary1_ok (w':World) (rc:Loop) (L Dk b6 b5 b2 b1 e b p:Nat) (he:e < 9223372036854775808) (hp:1 < p)
    (hs:∀ q ∈ fpM L Dk rc b6 b5 b2 b1 e b 1,q.holds w') (hnd:(keys (fpM L Dk rc b6 b5 b2 b1 e b 1)).Nodup) (hpz:rc.params.size = 1)
    (hround:∀ (i:Nat) (w2:World),St w' (keys (fpM L Dk rc b6 b5 b2 b1 e b 1)) w2 (fpM L Dk rc b6 b5 b2 b1 e b (b ^ (e / 2 ^ (i + 1)) % p)) →
      RoundIn (Fw none) 0 Tryz.prog L rc.fn ((rc.params.zip #[.bool (decide (e / 2 ^ i % 2 = 1))]).foldl (fun tmps (t,a)=>tmps.setIfInBounds t a) rc.tmps) rc.assign rc.body w2 fun e' w3=>∃ _:Unit,True ∧ e' = .returned (.bool true) ∧ St w' (keys (fpM L Dk rc b6 b5 b2 b1 e b 1)) w3 (fpM L Dk { rc with state:=.ready,pending:=none } b6 b5 b2 b1 e b (b ^ (e / 2 ^ i) % p)))
    (hrdy:rc = { rc with state:=.ready,pending:=none }:=by rfl) :
    Calls Tryz.prog 209 #[.func (.yield L) #[] #[],.pointer (some ⟨b1,0,none⟩)] w' fun e' w2=>(∃ v,e' = .returned v) ∧ St w' (keys (fpM L Dk rc b6 b5 b2 b1 e b 1)) w2 (fpM L Dk rc b6 b5 b2 b1 e b (b ^ e % p)):=by
  obtain ⟨len,hlen,hl1,hlz⟩:=bits_Len_ok e (by omega)
  refine enterL (args:=[.func (.yield L) #[] #[],.pointer (some ⟨b1,0,none⟩)]) Tryz.func209 Tryz.ntmps209 hs hnd ?_
  obtain ⟨bo,hbo⟩:∃ bo,bo = keys (fpM L Dk rc b6 b5 b2 b1 e b 1):=⟨_,rfl⟩
  rw [← hbo] at hround ⊢
  have h1p:b ^ (e / 2 ^ len) % p = 1:=by rw [Nat.div_eq_of_lt hl1,Nat.pow_zero,Nat.mod_eq_of_lt hp]
  refine c_seq<|c_reg<|s_y (y_ld (b:=b1) (v:=I e))<|s_y (y_cvn (k:=.u64) (p:=(e:Int)) (hw:=wrap_u64 (by omega) (by omega)))<|s_pure (fun w2 _=>hlz w2)<|s_y (y_sub (p:=len) (q:=1))<|s_y y_as<|s_nil<|q_then<|c_block<|?_
  refine c_loop (fun j:Nat=>[(0,.func (.yield L) #[] #[]),(1,.pointer (some ⟨b1,0,none⟩)),(3,I ((j:Int) - 1))]) (fun j=>fpM L Dk rc b6 b5 b2 b1 e b (b ^ (e / 2 ^ j) % p)) (fun j=>j ≤ 64) (fun j=>j) len hlen ⟨rfl,rfl,rfl,trivial⟩ (by rw [h1p]; exact .refl _) ?_
  intro j hj
  refine c_seq<|c_seq<|c_reg<|s_y y_mv<|s_y (y_geq (p:=(j:Int) - 1) (q:=0))<|s_nil<|q_then<|c_ifd (fun h8=>?_) (fun h8=>?_)
  · obtain ⟨i,rfl⟩:∃ i,j = i + 1:=⟨j - 1,by omega⟩
    rw [show ((i + 1:Nat):Int) - 1 = (i:Int) by omega]
    refine c_skip<|q_then<|c_seq<|c_block<|c_seq<|c_reg<|s_y y_mv<|s_y (y_ld (b:=b1) (v:=I e))<|s_y y_mv<|s_y (y_shr (p:=e) (q:=(i:Int)))<|?_
    rw [Int.toNat_natCast]
    have hdl:e / 2 ^ i < 9223372036854775808:=Nat.lt_of_le_of_lt (Nat.div_le_self _ _) he
    refine s_y (y_mask (p:=e / 2 ^ i) 1)<|s_y (y_eql (p:=((e / 2 ^ i % 2 ^ 1:Nat):Int)) (q:=1))<|?_
    rw [show decide (((e / 2 ^ i % 2 ^ 1:Nat):Int) = 1) = decide (e / 2 ^ i % 2 = 1) from decide_eq_decide.2 ⟨fun h=>by omega,fun h=>by omega⟩]
    refine s_yield (L:=L) (rc:=rc) (σ:=Unit) (fun _=>.bool true) (fun _=>fpM L Dk { rc with state:=.ready,pending:=none } b6 b5 b2 b1 e b (b ^ (e / 2 ^ i) % p)) (fun _=>True) (.head _) hpz (fun w2 h2=>hround i w2 h2) (fun _ _=>?_)
    rw [← hrdy]
    refine s_y (v:=.bool false) (y_not (b:=true))<|s_nil<|q_then<|c_f<|c_skip<|q_nb<|q_then<|c_reg<|s_y y_mv<|s_y (y_sub (p:=(i:Int)) (q:=1))<|s_y y_as<|s_nil<|q_round i (by omega) (by omega) ⟨rfl,rfl,rfl,trivial⟩ (.refl _)
  · obtain rfl:j = 0:=by omega
    rw [Nat.pow_zero,Nat.div_one]
    refine c_exit<|q_ex<|q_ex<|q_exb<|?_
    exact ret0 Tryz.results209 (fun w2 h2=>⟨⟨_,rfl⟩,h2⟩) _ (.inr rfl)
theorem f_power_ok (w:World) (b e:Nat) (hb:b < 2305843009213688669) (he:e < 9223372036854775808) :
    Pure Tryz.prog 205 [I b,I e] w (I (qq b e:Nat)):=by
  rw [qq_def]
  refine enterM Tryz.func205 Tryz.ntmps205 ?_
  refine c_seq<|c_reg<|s_box rfl fun b2=>s_y y_as<|s_nil<|q_then<|c_seq<|c_reg<|s_alloc fun b5=>s_st (b:=b5) (v:=I 1) (cs:=#[I 0]) (hl:=Nat.zero_lt_one) ?_
  refine s_nil<|q_then<|c_seq<|c_reg<|s_y y_func<|s_alloc fun b6=>s_st (b:=b6) (v:=fpF b5) (cs:=#[.nilFunc]) (hl:=Nat.zero_lt_one) ?_
  refine s_nil<|q_then<|c_seq<|c_seq<|c_reg<|s_y y_mv<|s_gives (fun w' hw=>f_binary_ok w' e) fun b1 _=>s_nil<|q_then<|c_block<|?_
  refine c_rangeN (σ:=Unit) (fun _=>[.blk b1 (.cells #[I e] 3 (0,0)),.blk b6 (.cells #[fpF b5] 297 (0,0)),.blk b5 (.cells #[I (b ^ e % 2305843009213688669:Nat)] 3 (0,0)),.blk b2 (.cells #[I b] 3 (0,0))]) (fun _=>True) (fun fn tm Dk L hfr w' hw'=>?_) (fun Dk _ _=>?_)
  rotate_left
  · refine q_nb<|q_then<|c_seq<|c_reg<|s_y (y_ld (b:=b5) (v:=I (b ^ e % 2305843009213688669:Nat)))<|s_y y_as<|s_nil<|q_then<|c_ret<|?_
    exact ret1E Tryz.results205 (.head _) rv_t fun w' hw=>⟨rfl,hw.sub (List.nil_sublist _)⟩
  · have hps:=(show St w [] w' (fpM L Dk _ b6 b5 b2 b1 e b 1 ++ []) by rw [List.append_nil]; exact hw').has
    refine (binary1_ok w' _ L Dk b6 b5 b2 b1 e b 2305843009213688669 he (by decide) hps.1 hps.2 rfl (fun i w2 h2=>?_)).mono fun e' w2 ⟨hv,h2⟩=>⟨hv,(),trivial,by have h9:=hw'.transL (l2:=[]) (by rw [List.append_nil]; exact .refl _) h2; rw [List.append_nil] at h9; exact h9⟩
    have hf9:=(hfr []).put 11 (.bool (decide (e / 2 ^ i % 2 = 1))) rfl
    have hst:=pow_step b e i 2305843009213688669
    dsimp only at hst
    obtain ⟨a,ha⟩:∃ a,b ^ (e / 2 ^ (i + 1)) % 2305843009213688669 = a:=⟨_,rfl⟩
    have hal:a < 2305843009213688669:=by rw [← ha]; exact Nat.mod_lt _ (by decide)
    rw [ha] at hst h2
    refine round_ok (F1:=[(2,.pointer (some ⟨b2,0,none⟩)),(5,.pointer (some ⟨b5,0,none⟩)),(6,.pointer (some ⟨b6,0,none⟩)),(7,.bool (decide (e / 2 ^ i % 2 = 1)))]) h2 hf9 (by simp [Act.put]) (by rfl) (.head _) (l1:=fpM L Dk _ b6 b5 b2 b1 e b a) ?_ ?_
    · refine c_reg<|s_y y_as<|s_nil<|q_join ⟨rfl,rfl,rfl,rfl,trivial⟩ (List.Sublist.refl _)
    · refine c_block<|c_seq<|c_reg<|s_y (y_ld (b:=b6) (v:=fpF b5))<|s_y (y_ld (b:=b5) (v:=I a))<|s_upd (fs:=[]) (cs:=[.pointer (some ⟨b5,0,none⟩)]) (lx:=fun _=>[]) (fun w3 h3=>f_power1_ok w3 b5 a a (h3.own _ (.tail _ (.tail _ (.tail _ (.tail _ (.head _)))))).1 hal hal) (fun _=>.tail _ (.tail _ (.tail _ (.tail _ (.head _))))) (fun _ _=>?_)
      refine s_nil<|q_then<|c_seq<|c_reg<|s_y y_mv<|s_nil<|q_then<|c_ifd (fun h13=>?_) (fun h13=>?_)
      · rw [if_pos h13] at hst
        refine c_reg<|s_y (y_ld (b:=b6) (v:=fpF b5))<|s_y (y_ld (b:=b2) (v:=I b))<|s_upd (fs:=[]) (cs:=[.pointer (some ⟨b5,0,none⟩)]) (lx:=fun _=>[]) (fun w3 h3=>f_power1_ok w3 b5 (a * a % 2305843009213688669) b (h3.own _ (.tail _ (.tail _ (.tail _ (.tail _ (.head _)))))).1 (Nat.mod_lt _ (by decide)) hb) (fun _=>.tail _ (.tail _ (.tail _ (.tail _ (.head _))))) (fun _ _=>?_)
        refine s_nil<|q_nb<|q_rn (.head _) fun w3 h3=>⟨(),trivial,rfl,?_⟩
        rw [hst]; exact h3
      · rw [if_neg h13] at hst
        refine c_skip<|q_nb<|q_rn (.head _) fun w3 h3=>⟨(),trivial,rfl,?_⟩
        rw [hst]; exact h3
theorem f_outside1_lo (w:World) (a:Int) (h:a < 0):Pure Tryz.prog 168 [I a] w (.bool true):=by
  refine enter Tryz.func168 Tryz.ntmps168 ?_
  refine c_seq<|c_reg<|s_y y_as<|s_nil<|q_then<|c_seq<|c_reg<|s_y y_mv<|s_kt (y_lss (p:=a) (q:=0)) h<|s_y y_mv<|s_no<|s_no<|s_y y_pk<|s_y y_as<|s_nil<|q_then<|c_ret<|?_
  exact ret1 Tryz.results168 rv_t fun w' hw=>⟨rfl,hw.sub (List.nil_sublist _)⟩
theorem f_outside1_hi (w:World) (a:Int) (h:2305843009213688669 ≤ a):Pure Tryz.prog 168 [I a] w (.bool true):=by
  refine enter Tryz.func168 Tryz.ntmps168 ?_
  refine c_seq<|c_reg<|s_y y_as<|s_nil<|q_then<|c_seq<|c_reg<|s_y y_mv<|s_kf (y_lss (p:=a) (q:=0)) (by omega)<|s_y y_mv<|s_y y_mv<|s_kt (y_geq (p:=a) (q:=2305843009213688669)) h<|s_y y_pk<|s_y y_as<|s_nil<|q_then<|c_ret<|?_
  exact ret1 Tryz.results168 rv_t fun w' hw=>⟨rfl,hw.sub (List.nil_sublist _)⟩
theorem f_outside1_in (w:World) (x:Nat) (h:x < 2305843009213688669):Pure Tryz.prog 168 [I x] w (.bool false):=by
  refine enter Tryz.func168 Tryz.ntmps168 ?_
  refine c_seq<|c_reg<|s_y y_as<|s_nil<|q_then<|c_seq<|c_reg<|s_y y_mv<|s_kf (y_lss (p:=(x:Int)) (q:=0)) (by omega)<|s_y y_mv<|s_y y_mv<|s_kf (y_geq (p:=(x:Int)) (q:=2305843009213688669)) (by omega)<|s_y y_pk<|s_y y_as<|s_nil<|q_then<|c_ret<|?_
  exact ret1 Tryz.results168 rv_t fun w' hw=>⟨rfl,hw.sub (List.nil_sublist _)⟩
theorem f_outside1_ok (w:World) (a:Int):Pure Tryz.prog 168 [I a] w (.bool (!sc a)):=by
  by_cases h1:a < 0
  · rw [sc_lo h1]; exact f_outside1_lo w a h1
  by_cases h2:2305843009213688669 ≤ a
  · rw [sc_hi h2]; exact f_outside1_hi w a h2
  obtain ⟨x,rfl⟩:∃ x:Nat,a = (x:Int):=⟨a.toNat,by omega⟩
  rw [sc_of (by omega)]
  exact f_outside1_in w x (by omega)
theorem IndexFunc_sc_ok (w:World) (a:Option Addr) (c:Nat) (q:List Int) (hr:Rd w a (is q)) (hl:q.length ≤ 1000000000000000000) :
    Pure Tryz.prog 138 [.slice a q.length c,.func (.func 168) #[] #[]] w (I (fidx (fun n=>!sc n) q)):=by
  refine enter Tryz.func138 Tryz.ntmps138 ?_
  refine c_seq<|c_reg<|s_y y_as<|s_nil<|q_then<|c_seq<|c_seq<|c_reg<|s_y y_mv<|s_y y_len<|s_y y_mv<|s_nil<|q_then<|c_block<|?_
  refine c_loop (fun i:Nat=>[(0,.slice a q.length c),(1,.func (.func 168) #[] #[]),(7,I q.length),(8,I i)]) (fun _=>[]) (fun i=>i ≤ q.length ∧ ∀ j,j < i → (!sc (q.getD j 0)) = false) (fun i=>q.length - i) 0 ⟨by omega,fun _ h=>by omega⟩ ⟨rfl,rfl,rfl,rfl,trivial⟩ (List.Sublist.refl _) ?_
  intro i ⟨hi,hj⟩
  refine c_seq<|c_reg<|s_y (y_lss (p:=i) (q:=q.length))<|s_nil<|q_then<|c_seq<|c_ifd (fun h9=>?_) (fun h9=>?_)
  · have hiq:i < q.length:=by omega
    refine c_skip<|q_then<|c_seq<|c_block<|c_seq<|c_reg<|s_y y_mv<|s_y y_as<|s_nil<|q_then<|c_seq<|c_reg<|s_y y_mv<|s_y y_mv<|s_y y_mv<|s_y (y_ixs1 (i:=i) (xs:=is q))<|s_y (y_ldi (i:=i) (q:=q))<|s_pure (fun w' hw=>f_outside1_ok w' (q.getD i 0))<|s_nil<|q_then<|c_if rfl (fun h16=>?_) (fun h16=>?_)
    · rw [fidx_hit (d:=0) hiq hj h16]
      refine c_seq<|c_reg<|s_y y_mv<|s_y y_as<|s_nil<|q_then<|c_ret<|q_retb<|q_ret<|q_ret<|q_retb<|q_ret<|?_
      exact ret1 Tryz.results138 rv_t fun w' hw=>⟨rfl,hw⟩
    · refine c_skip<|q_nb<|q_then<|c_reg<|s_y (y_add (p:=i) (q:=1))<|s_y y_mv<|s_nil<|q_round (i + 1) ⟨by omega,fun j h=>(Nat.lt_or_ge j i).elim (hj j) fun h8=>by obtain rfl:j = i:=(by omega); exact h16⟩ (by omega) ⟨rfl,rfl,rfl,rfl,trivial⟩ (List.Sublist.refl _)
  · rw [fidx_none (d:=0) (p:=fun n=>!sc n) (l:=q) fun j h=>hj j (by omega)]
    refine c_exit<|q_ex<|q_ex<|q_exb<|q_then<|c_seq<|c_reg<|s_y y_as<|s_nil<|q_then<|c_ret<|?_
    exact ret1 Tryz.results138 rv_t fun w' hw=>⟨rfl,hw⟩
theorem ContainsFunc_sc_ok (w:World) (a:Option Addr) (c:Nat) (q:List Int) (hr:Rd w a (is q)) (hl:q.length ≤ 1000000000000000000) :
    Pure Tryz.prog 81 [.slice a q.length c,.func (.func 168) #[] #[]] w (.bool (q.any fun n=>!sc n)):=by
  rw [← fidx_any]
  refine enter Tryz.func81 Tryz.ntmps81 ?_
  refine c_seq<|c_reg<|s_y y_as<|s_nil<|q_then<|c_seq<|c_reg<|s_y y_mv<|s_y y_mv<|s_pure (fun w' hw=>IndexFunc_sc_ok w' a c q (hr.st hw) hl)<|s_y (y_geq (p:=fidx (fun n=>!sc n) q) (q:=0))<|s_y y_as<|s_nil<|q_then<|c_ret<|?_
  exact ret1 Tryz.results81 rv_t fun w' hw=>⟨rfl,hw⟩
theorem f_outside_ok (w:World) (a:Option Addr) (c:Nat) (q:List Int) (hr:Rd w a (is q)) (hl:q.length ≤ 1000000000000000000) :
    Pure Tryz.prog 140 [.slice a q.length c] w (.bool (q.any fun n=>!sc n)):=by
  refine enter Tryz.func140 Tryz.ntmps140 ?_
  refine c_seq<|c_reg<|s_y y_as<|s_nil<|q_then<|c_seq<|c_reg<|s_y y_mv<|s_pure (fun w' hw=>ContainsFunc_sc_ok w' a c q (hr.st hw) hl)<|s_y y_as<|s_nil<|q_then<|c_ret<|?_
  exact ret1 Tryz.results140 rv_t fun w' hw=>⟨rfl,hw⟩
theorem f_Mul_yes (w:World) (x y:Nat) (hx:x < 2305843009213688669) (hy:y < 2305843009213688669):Pure Tryz.prog 91 [I x,I y] w (.tuple #[I (x * y % 2305843009213688669:Nat),I 0]):=by
  refine enter Tryz.func91 Tryz.ntmps91 ?_
  refine c_seq<|c_reg<|s_y y_as<|s_y y_as<|s_nil<|q_then<|c_seq<|c_seq<|c_reg<|s_y y_mv<|s_y y_mv<|s_bslr (cs:=is [(x:Int),(y:Int)]) fun b8=>s_pure (fun w' hw=>(by have h9:=f_outside_ok w' (some ⟨b8,0,none⟩) 2 [(x:Int),(y:Int)] (rdR (.head _) w' hw) (by simp); rw [show ([(x:Int),(y:Int)].any fun n=>!sc n) = false by simp [sc_of hx,sc_of hy]] at h9; exact h9))<|s_nil<|q_then<|c_f<|c_skip<|q_then<|c_seq<|c_reg<|s_y y_mv<|s_y y_mv<|s_pure (fun w' hw=>f_product_ok w' x y (by omega) (by omega))<|s_y y_as<|s_y y_as<|s_nil<|q_then<|c_ret<|?_
  exact ret2 Tryz.results91 rv_t rv_t fun w' hw=>⟨rfl,hw.sub (List.nil_sublist _)⟩
theorem f_Inv_yes (w:World) (x:Nat) (h0:0 < x) (hx:x < 2305843009213688669):Pure Tryz.prog 191 [I x] w (.tuple #[I (qq x 2305843009213688667:Nat),I 0]):=by
  refine enter Tryz.func191 Tryz.ntmps191 ?_
  refine c_seq<|c_reg<|s_y y_as<|s_y y_as<|s_nil<|q_then<|c_seq<|c_block<|c_seq<|c_reg<|s_y y_mv<|s_bslr (cs:=is [(x:Int)]) fun b6=>s_pure (fun w' hw=>(by have h9:=f_outside_ok w' (some ⟨b6,0,none⟩) 1 [(x:Int)] (rdR (.head _) w' hw) (by simp); rw [show ([(x:Int)].any fun n=>!sc n) = false by simp [sc_of hx]] at h9; exact h9))<|s_y y_as<|s_nil<|q_then<|c_f<|c_seq<|c_reg<|s_y y_mv<|s_kf (y_eql (p:=(x:Int)) (q:=0)) (by omega)<|s_y y_as<|s_nil<|q_then<|c_f<|c_skip<|q_nb<|q_then<|c_seq<|c_reg<|s_y y_mv<|s_pure (fun w' hw=>f_power_ok w' x 2305843009213688667 (by omega) (by decide))<|s_y y_as<|s_y y_as<|s_nil<|q_then<|c_ret<|?_
  exact ret2 Tryz.results191 rv_t rv_t fun w' hw=>⟨rfl,hw.sub (List.nil_sublist _)⟩
end Go.Proofs.YtegfmbefhpagmaaGreatDoor
end
section
namespace Gf
open Go Eng
theorem sub_lt {x y:Nat} (hx:x < 2305843009213688669) (hy:y < 2305843009213688669) (h:y ≤ x):(x + (2305843009213688669 - y)) % 2305843009213688669 = x - y:=by omega
theorem sub_ge {x y:Nat} (hx:x < 2305843009213688669) (hy:y < 2305843009213688669) (h:x < y):(x + (2305843009213688669 - y)) % 2305843009213688669 = x + 2305843009213688669 - y:=by omega
def shc (l:List (Int × Int)):List Value:=l.flatMap fun s=>[I s.1,I s.2]
theorem shc_length (l:List (Int × Int)):(shc l).length = l.length * 2:=by
  induction l with
  | nil=>rfl
  | cons s l ih=>rw [shc,List.flatMap_cons,List.length_append,List.length_cons,← shc,ih]; simp only [List.length_cons,List.length_nil]; omega
theorem shc_append (a b:List (Int × Int)):shc (a ++ b) = shc a ++ shc b:=List.flatMap_append
theorem shc_mid (d:List (Int × Int)) (s:Int × Int) (r:List (Int × Int)) (j:Nat) (v:Value) (h:[I s.1,I s.2][j]? = some v):(shc (d ++ s :: r))[d.length * 2 + j]? = some v:=by
  have hj:j < 2:=(List.getElem?_eq_some_iff.1 h).1
  rw [shc_append,List.getElem?_append_right (by rw [shc_length]; omega),shc_length,Nat.add_sub_cancel_left,shc,List.flatMap_cons,List.getElem?_append_left (by simpa using hj)]
  exact h
def okS:Int → List (Int × Int) → Bool
  | _,[]=>true
  | last,s :: l=>decide (last < s.1) && (decide (s.1 ≤ 64) && (sc s.2 && okS s.1 l))
def chS (l:List (Int × Int)):Int:=if 1 ≤ l.length ∧ l.length ≤ 64 ∧ okS 0 l = true then 0 else 80
end Gf
namespace Go.Proofs.YtegfmbefhpagmaaGreatDoor
open Go Eng Gf
theorem f_Add_yes (w:World) (x y:Nat) (hx:x < 2305843009213688669) (hy:y < 2305843009213688669):Pure Tryz.prog 92 [I x,I y] w (.tuple #[I ((x + y) % 2305843009213688669:Nat),I 0]):=by
  refine enter Tryz.func92 Tryz.ntmps92 ?_
  refine c_seq<|c_reg<|s_y y_as<|s_y y_as<|s_nil<|q_then<|c_seq<|c_seq<|c_reg<|s_y y_mv<|s_y y_mv<|s_bslr (cs:=is [(x:Int),(y:Int)]) fun b8=>s_pure (fun w' hw=>(by have h9:=f_outside_ok w' (some ⟨b8,0,none⟩) 2 [(x:Int),(y:Int)] (rdR (.head _) w' hw) (by simp); rw [show ([(x:Int),(y:Int)].any fun n=>!sc n) = false by simp [sc_of hx,sc_of hy]] at h9; exact h9))<|s_nil<|q_then<|c_f<|c_skip<|q_then<|c_seq<|c_reg<|s_y y_mv<|s_y y_mv<|s_y (y_add (p:=(x:Int)) (q:=(y:Int)))<|s_y (y_rem (p:=(x:Int) + y) (q:=2305843009213688669))<|?_
  rw [show ((x:Int) + y) % 2305843009213688669 = (((x + y) % 2305843009213688669:Nat):Int) by omega]
  refine s_y y_as<|s_y y_as<|s_nil<|q_then<|c_ret<|?_
  exact ret2 Tryz.results92 rv_t rv_t fun w' hw=>⟨rfl,hw.sub (List.nil_sublist _)⟩
theorem f_Sub_yes (w:World) (x y:Nat) (hx:x < 2305843009213688669) (hy:y < 2305843009213688669):Pure Tryz.prog 190 [I x,I y] w (.tuple #[I ((x + (2305843009213688669 - y)) % 2305843009213688669:Nat),I 0]):=by
  refine enter Tryz.func190 Tryz.ntmps190 ?_
  refine c_seq<|c_reg<|s_y y_as<|s_y y_as<|s_nil<|q_then<|c_seq<|c_seq<|c_reg<|s_y y_mv<|s_y y_mv<|s_bslr (cs:=is [(x:Int),(y:Int)]) fun b8=>s_pure (fun w' hw=>(by have h9:=f_outside_ok w' (some ⟨b8,0,none⟩) 2 [(x:Int),(y:Int)] (rdR (.head _) w' hw) (by simp); rw [show ([(x:Int),(y:Int)].any fun n=>!sc n) = false by simp [sc_of hx,sc_of hy]] at h9; exact h9))<|s_nil<|q_then<|c_f<|c_skip<|q_then<|c_seq<|c_seq<|c_reg<|s_y y_mv<|s_y y_mv<|?_
  by_cases h:x < y
  · rw [sub_ge hx hy h]
    refine s_kt (y_lss (p:=(x:Int)) (q:=(y:Int))) (by omega)<|s_nil<|q_then<|c_t<|c_reg<|s_y y_mv<|s_y (y_add (p:=(x:Int)) (q:=2305843009213688669))<|s_y y_as<|s_nil<|q_then<|c_seq<|c_reg<|s_y y_mv<|s_y y_mv<|s_y (y_sub (p:=(x:Int) + 2305843009213688669) (q:=(y:Int)))<|?_
    rw [show (x:Int) + 2305843009213688669 - y = ((x + 2305843009213688669 - y:Nat):Int) by omega]
    refine s_y y_as<|s_y y_as<|s_nil<|q_then<|c_ret<|?_
    exact ret2 Tryz.results190 rv_t rv_t fun w' hw=>⟨rfl,hw.sub (List.nil_sublist _)⟩
  · rw [sub_lt hx hy (by omega)]
    refine s_kf (y_lss (p:=(x:Int)) (q:=(y:Int))) (by omega)<|s_nil<|q_then<|c_f<|c_skip<|q_then<|c_seq<|c_reg<|s_y y_mv<|s_y y_mv<|s_y (y_sub (p:=(x:Int)) (q:=(y:Int)))<|?_
    rw [show (x:Int) - y = ((x - y:Nat):Int) by omega]
    refine s_y y_as<|s_y y_as<|s_nil<|q_then<|c_ret<|?_
    exact ret2 Tryz.results190 rv_t rv_t fun w' hw=>⟨rfl,hw.sub (List.nil_sublist _)⟩
theorem f_Check_ok (w:World) (a:Int):Pure Tryz.prog 139 [I a] w (I (bif sc a then 0 else 1)):=by
  refine enter Tryz.func139 Tryz.ntmps139 ?_
  refine c_seq<|c_reg<|s_y y_as<|s_nil<|q_then<|c_seq<|c_seq<|c_reg<|s_y y_mv<|s_bslr (cs:=is [a]) fun b8=>s_pure (fun w' hw=>f_outside_ok w' (some ⟨b8,0,none⟩) 1 [a] (rdR (.head _) w' hw) (by simp))<|?_
  rw [show ([a].any fun n=>!sc n) = !sc a by simp]
  cases h:sc a with
  | true =>
    refine s_nil<|q_then<|c_f<|c_skip<|q_then<|c_seq<|c_reg<|s_y y_as<|s_nil<|q_then<|c_ret<|?_
    exact ret1 Tryz.results139 rv_t fun w' hw=>⟨rfl,hw.sub (List.nil_sublist _)⟩
  | false =>
    refine s_nil<|q_then<|c_t<|c_seq<|c_reg<|s_y y_as<|s_nil<|q_then<|c_ret<|q_ret<|?_
    exact ret1 Tryz.results139 rv_t fun w' hw=>⟨rfl,hw.sub (List.nil_sublist _)⟩
theorem isScalar_ok (w:World) (a:Int):Pure Tryz.prog 83 [I a] w (.bool (sc a)):=by
  refine enter Tryz.func83 Tryz.ntmps83 ?_
  refine c_seq<|c_reg<|s_y y_as<|s_nil<|q_then<|c_seq<|c_reg<|s_y y_mv<|s_pure (fun w' hw=>f_Check_ok w' a)<|?_
  cases h:sc a with
  | true =>
    refine s_kt (y_eql (p:=0) (q:=0)) rfl<|s_y y_as<|s_nil<|q_then<|c_ret<|?_
    exact ret1 Tryz.results83 rv_t fun w' hw=>⟨rfl,hw.sub (List.nil_sublist _)⟩
  | false =>
    refine s_kf (y_eql (p:=1) (q:=0)) (by decide)<|s_y y_as<|s_nil<|q_then<|c_ret<|?_
    exact ret1 Tryz.results83 rv_t fun w' hw=>⟨rfl,hw.sub (List.nil_sublist _)⟩
theorem s_Check_ok (w:World) (a:Option Addr) (c:Nat) (l:List (Int × Int)) (hr:Rd w a (shc l)) (hl:l.length < 1000000000000000000):Pure Tryz.prog 126 [.slice a l.length c] w (I (chS l)):=by
  refine enter Tryz.func126 Tryz.ntmps126 ?_
  refine c_seq<|c_reg<|s_y y_as<|s_nil<|q_then<|c_seq<|c_seq<|c_reg<|s_y y_mv<|s_y y_len<|?_
  by_cases h1:l.length < 1
  · rw [chS,if_neg (by omega)]
    refine s_kt (y_lss (p:=((l.length:Nat):Int)) (q:=1)) (by omega)<|s_y y_mv<|s_no<|s_no<|s_no<|s_y y_pk<|s_nil<|q_then<|c_t<|c_seq<|c_reg<|s_y y_as<|s_nil<|q_then<|c_ret<|q_ret<|?_
    exact ret1 Tryz.results126 rv_t fun w' hw=>⟨rfl,hw⟩
  by_cases h2:64 < l.length
  · rw [chS,if_neg (by omega)]
    refine s_kf (y_lss (p:=((l.length:Nat):Int)) (q:=1)) (by omega)<|s_y y_mv<|s_y y_mv<|s_y y_len<|s_kt (y_gtr (p:=((l.length:Nat):Int)) (q:=64)) (by omega)<|s_y y_pk<|s_nil<|q_then<|c_t<|c_seq<|c_reg<|s_y y_as<|s_nil<|q_then<|c_ret<|q_ret<|?_
    exact ret1 Tryz.results126 rv_t fun w' hw=>⟨rfl,hw⟩
  have hch:∀ b:Bool,okS 0 l = b → chS l = bif b then 0 else 80:=fun b hb=>by
    unfold chS; rw [hb]; cases b
    · rw [if_neg (by simp)]; rfl
    · rw [if_pos ⟨by omega,by omega,rfl⟩]; rfl
  refine s_kf (y_lss (p:=((l.length:Nat):Int)) (q:=1)) (by omega)<|s_y y_mv<|s_y y_mv<|s_y y_len<|s_kf (y_gtr (p:=((l.length:Nat):Int)) (q:=64)) (by omega)<|s_y y_pk<|s_nil<|q_then<|c_f<|c_skip<|q_then<|c_seq<|c_reg<|s_y y_as<|s_nil<|q_then<|c_seq<|c_seq<|c_reg<|s_y y_mv<|s_y y_len<|s_y y_mv<|s_nil<|q_then<|c_block<|?_
  refine c_loop3 (fun (d r:List (Int × Int)) (last:Int)=>[(3,I last),(14,.slice a l.length c),(15,I l.length),(16,I d.length)]) (fun _ _ _=>[]) (fun d r last=>l = d ++ r ∧ okS last r = okS 0 l) (fun d r _=>r.length) [] l 0 ⟨rfl,rfl⟩ ⟨rfl,rfl,rfl,rfl,trivial⟩ (List.nil_sublist _) ?_
  rintro d r last ⟨e1,e2⟩
  have hlen:l.length = d.length + r.length:=by rw [e1,List.length_append]
  cases r with
  | nil =>
    rw [List.length_nil,Nat.add_zero] at hlen
    rw [hch true (by rw [← e2]; rfl)]
    refine c_seq<|c_reg<|s_kf (y_lss (p:=((d.length:Nat):Int)) (q:=((l.length:Nat):Int))) (by omega)<|s_nil<|q_then<|c_seq<|c_f<|c_exit<|q_ex<|q_ex<|q_exb<|q_then<|c_seq<|c_reg<|s_y y_as<|s_nil<|q_then<|c_ret<|?_
    exact ret1 Tryz.results126 rv_t fun w' hw=>⟨rfl,hw.sub (List.nil_sublist _)⟩
  | cons s r =>
    rw [List.length_cons] at hlen
    refine c_seq<|c_reg<|s_kt (y_lss (p:=((d.length:Nat):Int)) (q:=((l.length:Nat):Int))) (by omega)<|s_nil<|q_then<|c_seq<|c_t<|c_skip<|q_then<|c_seq<|c_block<|c_seq<|c_reg<|s_y (y_ixs (xs:=shc l) (i:=((d.length:Nat):Int)) (hl:=by rw [shc_length]; omega))<|s_y (y_ldra (i:=d.length * 2) (cs:=[I s.1,I s.2]) (rdW0 hr) rfl (by rw [e1]; exact shc_mid d s r))<|s_alloc fun b5=>s_sta (b:=b5) (vs:=#[I s.1,I s.2]) (cs:=#[I 0,I 0]) (h1:=by intro u hu; simp at hu; rcases hu with rfl | rfl <;> rfl) (hl:=rfl) (hs1:=rfl) ?_
    have bad:∀ {F:List (Nat × Value)} {l2:SH} {Q:Exit → Act → World → Prop},okS last (s :: r) = false → lkO F 2 = some (I 80) → QP 38 [] w [] (bodyPost Tryz.prog Tryz.f126 fun e w'=>e = .returned (I (chS l)) ∧ St w [] w' []) .ret F l2:=by
      intro F l2 Q h9 h10
      exact ret1 Tryz.results126 (rv_t h10) fun w' hw=>⟨by rw [hch false (by rw [← e2,h9])]; rfl,hw.sub (List.nil_sublist _)⟩
    refine s_nil<|q_then<|c_seq<|c_seq<|c_reg<|s_y y_fa<|s_y (y_ld (v:=I s.1))<|s_y y_mv<|?_
    by_cases g1:s.1 ≤ last
    · refine s_kt (y_leq (p:=s.1) (q:=last)) g1<|s_y y_mv<|s_no<|s_no<|s_no<|s_y y_pk<|s_y y_mv<|s_no<|s_no<|s_no<|s_no<|s_y y_pk<|s_nil<|q_then<|c_t<|c_seq<|c_reg<|s_y y_as<|s_nil<|q_then<|c_ret<|q_ret<|q_retb<|q_ret<|q_ret<|q_retb<|q_ret<|?_
      exact bad (Q:=fun _ _ _=>True) (by rw [okS,decide_eq_false (by omega)]; rfl) rfl
    by_cases g2:64 < s.1
    · refine s_kf (y_leq (p:=s.1) (q:=last)) g1<|s_y y_mv<|s_y y_fa<|s_y (y_ld (v:=I s.1))<|s_kt (y_gtr (p:=s.1) (q:=64)) g2<|s_y y_pk<|s_y y_mv<|s_no<|s_no<|s_no<|s_no<|s_y y_pk<|s_nil<|q_then<|c_t<|c_seq<|c_reg<|s_y y_as<|s_nil<|q_then<|c_ret<|q_ret<|q_retb<|q_ret<|q_ret<|q_retb<|q_ret<|?_
      exact bad (Q:=fun _ _ _=>True) (by rw [okS,decide_eq_false (show ¬ s.1 ≤ 64 by omega)]; simp) rfl
    refine s_kf (y_leq (p:=s.1) (q:=last)) g1<|s_y y_mv<|s_y y_fa<|s_y (y_ld (v:=I s.1))<|s_kf (y_gtr (p:=s.1) (q:=64)) g2<|s_y y_pk<|s_y y_mv<|s_y y_fa<|s_y (y_ld (v:=I s.2))<|s_pure (fun w' hw=>isScalar_ok w' s.2)<|?_
    cases g3:sc s.2 with
    | false =>
      refine s_y (v:=.bool true) (y_not (b:=false))<|s_y y_pk<|s_nil<|q_then<|c_t<|c_seq<|c_reg<|s_y y_as<|s_nil<|q_then<|c_ret<|q_ret<|q_retb<|q_ret<|q_ret<|q_retb<|q_ret<|?_
      exact bad (Q:=fun _ _ _=>True) (by rw [okS,g3]; simp) rfl
    | true =>
      refine s_y (v:=.bool false) (y_not (b:=true))<|s_y y_pk<|s_nil<|q_then<|c_f<|c_skip<|q_then<|c_reg<|s_y y_fa<|s_y (y_ld (v:=I s.1))<|s_y y_as<|s_nil<|q_nb<|q_then<|c_reg<|s_y (y_add (p:=((d.length:Nat):Int)) (q:=1))<|s_y y_mv<|s_nil<|?_
      rw [show ((d.length:Nat):Int) + 1 = (((d ++ [s]).length:Nat):Int) by simp]
      refine q_round3 (x:=d) (y:=s :: r) (z:=last) (d ++ [s]) r s.1 ⟨by rw [e1,List.append_assoc]; rfl,by rw [← e2,okS,decide_eq_true (show last < s.1 by omega),decide_eq_true (show s.1 ≤ 64 by omega),g3]; rfl⟩ (Nat.lt_succ_self _) ⟨rfl,rfl,rfl,rfl,trivial⟩ (List.nil_sublist _)
end Go.Proofs.YtegfmbefhpagmaaGreatDoor
end
section
namespace Eng
open Go Go.RowKit
section
variable {r:Option Nat} {P:Program} {n:Nat} {D:List Deferred} {W:World} {Bo:List Nat} {F F0 F1:List (Nat × Value)} {l l' l1 l2 l3:SH} {e:TypeId}
  {dd:Nat} {ty:TypeId} {ps:String} {af:Array Edge} {g:Option (Nat × Bool)} {Q:Exit → Act → World → Prop} {ops:Array Oper} {rest:List Oper} {c:Code}
theorem s_yield2 {fo:Operand} {ao:Array Operand} {ts:Array TypeId} {L:Nat} {rc:Loop} {v v':Value} {σ:Type} (val:σ → Value) (lx:σ → SH) (φ:σ → Prop)
    (hm:Res.blk L (.loop rc) ∈ l) (hpz:rc.params.size = 2)
    (hr:∀ w,St W Bo w l → RoundIn (Fw none) 0 P L rc.fn ((rc.params.zip #[v,v']).foldl (fun tmps (t,a)=>tmps.setIfInBounds t a) rc.tmps) rc.assign rc.body w fun e w'=>∃ x,φ x ∧ e = .returned (val x) ∧ St W Bo w' (lx x))
    (h:∀ x,φ x → LP none P n D W Bo ops Q rest ((dd,val x) :: F) (lx x))
    (hfo:evO F fo = some (.func (.yield L) #[] #[]):=by rfl) (hargs:evL F ao.toList = some [v,v']:=by rfl) (hn:Nat.blt dd n = true:=by rfl) (hg:Wn ops F g:=by first | exact .none | exact .some rfl rfl) :
    LP none P n D W Bo ops Q (⟨some dd,.call ⟨.value fo,ao,ts⟩,ty,ps,af,g⟩ :: rest) F l:=by
  intro a w ha hw
  refine wpListIn_of (hg.wanted rfl ha) ?_
  refine ⟨fun f _=>trivial,?_⟩
  have hy:=run_yield (P:=P) (args:=#[v,v']) (hw.own _ hm).1 (by simp [hpz])
  have hrun:(execOp a.eval ⟨some dd,.call ⟨.value fo,ao,ts⟩,ty,ps,af,g⟩).run P w = .ok (.round L rc.fn ((rc.params.zip #[v,v']).foldl (fun tmps (t,a)=>tmps.setIfInBounds t a) rc.tmps) rc.assign rc.body) w:=by
    simp only [execOp,resolve,ha.eval hfo,evs ha hargs,Deferred.ofValue,Sem.run_bind,Sem.run_pure,Result.andThen_ok,invoke]
    simpa using hy
  rw [semAt_eq _ (by simp),hrun]
  refine ⟨by simp [Fw,Fence.wide],(hr w hw).mono ?_⟩
  rintro e w' ⟨x,hx,rfl,hw'⟩
  exact h x hx _ _ (ha.put dd _ hn) hw'
end
end Eng
namespace Gf
open Go Eng
def subQ (x b:Nat):Nat:=(x + (2305843009213688669 - b)) % 2305843009213688669
def upQ (os:List Nat) (x:Nat):Nat:=os.foldl (fun u b=>u * subQ x b % 2305843009213688669) 1
noncomputable def basQ (ot:List Nat) (a x:Nat):Nat:=upQ ot x * qq (upQ ot a) 2305843009213688667 % 2305843009213688669
theorem subQ_lt (x b:Nat):subQ x b < 2305843009213688669:=Nat.mod_lt _ (by decide)
theorem upQ_snoc (os:List Nat) (b x:Nat):upQ (os ++ [b]) x = upQ os x * subQ x b % 2305843009213688669:=by unfold upQ; rw [List.foldl_append]; rfl
theorem upQ_lt (os:List Nat) (x:Nat):upQ os x < 2305843009213688669:=by
  rcases List.eq_nil_or_concat os with rfl | ⟨d,b,rfl⟩
  · show (1:Nat) < 2305843009213688669
    decide
  · rw [List.concat_eq_append,upQ_snoc]; exact Nat.mod_lt _ (by decide)
theorem basQ_lt (ot:List Nat) (a x:Nat):basQ ot a x < 2305843009213688669:=Nat.mod_lt _ (by decide)
def ni (ps:List Nat):List Int:=ps.map fun (p:Nat)=>(p:Int)
theorem ni_length (ps:List Nat):(ni ps).length = ps.length:=by unfold ni; exact List.length_map _
theorem ni_get (ps:List Nat) (i:Nat):(ni ps).getD i 0 = ((ps.getD i 0:Nat):Int):=by
  unfold ni
  rw [List.getD_eq_getElem?_getD,List.getD_eq_getElem?_getD,List.getElem?_map]
  cases ps[i]? <;> rfl
theorem take_snoc (ps:List Nat) (k:Nat) (h:k < ps.length):ps.take (k + 1) = ps.take k ++ [ps.getD k 0]:=by
  rw [List.take_add_one,List.getElem?_eq_getElem h,List.getD_eq_getElem?_getD,List.getElem?_eq_getElem h]; rfl
theorem er_ne (d:List Nat) (b i:Nat) (h:d.length ≠ i):(d ++ [b]).eraseIdx i = d.eraseIdx i ++ [b]:=by
  rcases Nat.lt_or_ge i d.length with h1 | h1
  · rw [List.eraseIdx_append_of_lt_length h1]
  · rw [List.eraseIdx_of_length_le (by rw [List.length_append,List.length_singleton]; omega),List.eraseIdx_of_length_le h1]
theorem er_eq (d:List Nat) (b:Nat):(d ++ [b]).eraseIdx d.length = d.eraseIdx d.length:=by
  rw [List.eraseIdx_append_of_length_le (Nat.le_refl _),Nat.sub_self,List.eraseIdx_of_length_le (Nat.le_refl _)]; simp
end Gf
namespace Go.Proofs.YtegfmbefhpagmaaGreatDoor
open Go Eng Gf
theorem basis1_ok (w':World) (rc:Loop) (Lp b1 b2:Nat) (pa:Option Addr) (pc:Nat) (ps:List Nat) (x:Nat) (M:Nat → SH) (hs:∀ q ∈ M 0,q.holds w') (hnd:(keys (M 0)).Nodup) (hpz:rc.params.size = 2)
    (hL:∀ i,Res.blk Lp (.loop rc) ∈ M i) (h1:∀ i,Res.blk b1 (.cells #[.slice pa ps.length pc] 25 (0,0)) ∈ M i) (h2:∀ i,Res.blk b2 (.cells #[I x] 3 (0,0)) ∈ M i)
    (hrd:∀ i,RdS w' (keys (M 0)) (M i) pa (is (ni ps))) (hl:ps.length ≤ 1000000) (hx:x < 2305843009213688669) (hps:∀ i,ps.getD i 0 < 2305843009213688669) (hpos:∀ i,i < ps.length → 0 < upQ (ps.eraseIdx i) (ps.getD i 0))
    (hround:∀ (i:Nat) (_:i < ps.length) (w2:World),St w' (keys (M 0)) w2 (M i) →
      RoundIn (Fw none) 0 Tryz.prog Lp rc.fn ((rc.params.zip #[I i,I (basQ (ps.eraseIdx i) (ps.getD i 0) x:Nat)]).foldl (fun tmps (t,a)=>tmps.setIfInBounds t a) rc.tmps) rc.assign rc.body w2 fun e' w3=>∃ _:Unit,True ∧ e' = .returned (.bool true) ∧ St w' (keys (M 0)) w3 (M (i + 1))) :
    Calls Tryz.prog 189 #[.func (.yield Lp) #[] #[],.pointer (some ⟨b1,0,none⟩),.pointer (some ⟨b2,0,none⟩)] w' fun e' w2=>(∃ v,e' = .returned v) ∧ St w' (keys (M 0)) w2 (M ps.length):=by
  refine enterL (args:=[.func (.yield Lp) #[] #[],.pointer (some ⟨b1,0,none⟩),.pointer (some ⟨b2,0,none⟩)]) Tryz.func189 Tryz.ntmps189 hs hnd ?_
  refine c_seq<|c_reg<|s_y (y_ld (b:=b1) (hm:=h1 0) (v:=.slice pa ps.length pc))<|s_y y_len<|s_y y_mv<|s_nil<|q_then<|c_block<|?_
  refine c_loop (fun i:Nat=>[(0,.func (.yield Lp) #[] #[]),(1,.pointer (some ⟨b1,0,none⟩)),(2,.pointer (some ⟨b2,0,none⟩)),(18,.slice pa ps.length pc),(19,I ps.length),(20,I i)]) M (fun i=>i ≤ ps.length) (fun i=>ps.length - i) 0 (Nat.zero_le _) ⟨rfl,rfl,rfl,rfl,rfl,rfl,trivial⟩ (.refl _) ?_
  intro i hi
  by_cases hil:i < ps.length
  · obtain ⟨a,ha⟩:∃ a,ps.getD i 0 = a:=⟨_,rfl⟩
    have haq:a < 2305843009213688669:=by rw [← ha]; exact hps i
    have hpi:=hpos i hil
    refine c_seq<|c_reg<|s_kt (y_lss (p:=((i:Nat):Int)) (q:=((ps.length:Nat):Int))) (by omega)<|s_nil<|q_then<|c_seq<|c_t<|c_skip<|q_then<|c_seq<|c_block<|c_seq<|c_reg<|s_y y_mv<|s_y (y_ixs1 (xs:=is (ni ps)) (hr:=hrd i) (hl:=by rw [is_length,ni_length]; omega))<|s_y (y_ldi (i:=i) (q:=ni ps) (hr:=hrd i) (hi:=by rw [ni_length]; omega))<|?_
    rw [ni_get,ha]
    refine s_y y_as<|s_y y_as<|s_nil<|q_then<|c_seq<|c_reg<|s_y y_as<|s_y y_as<|s_nil<|q_then<|c_seq<|c_seq<|c_reg<|s_y (y_ld (b:=b1) (hm:=h1 i) (v:=.slice pa ps.length pc))<|s_y y_len<|s_y y_mv<|s_nil<|q_then<|c_block<|?_
    refine c_loop (fun k:Nat=>[(0,.func (.yield Lp) #[] #[]),(1,.pointer (some ⟨b1,0,none⟩)),(2,.pointer (some ⟨b2,0,none⟩)),(18,.slice pa ps.length pc),(19,I ps.length),(20,I i),(4,I i),(5,I a),(6,I (upQ ((ps.take k).eraseIdx i) x:Nat)),(7,I (upQ ((ps.take k).eraseIdx i) a:Nat)),(25,.slice pa ps.length pc),(26,I ps.length),(27,I k)]) (fun _=>M i) (fun k=>k ≤ ps.length) (fun k=>ps.length - k) 0 (Nat.zero_le _) ⟨rfl,rfl,rfl,rfl,rfl,rfl,rfl,rfl,rfl,rfl,rfl,rfl,rfl,trivial⟩ (.refl _) ?_
    intro k hk
    by_cases hkl:k < ps.length
    · have htk:(ps.take k).length = k:=by rw [List.length_take]; omega
      refine c_seq<|c_reg<|s_kt (y_lss (p:=((k:Nat):Int)) (q:=((ps.length:Nat):Int))) (by omega)<|s_nil<|q_then<|c_seq<|c_t<|c_skip<|q_then<|c_seq<|c_block<|c_seq<|c_reg<|s_y y_mv<|s_y (y_ixs1 (xs:=is (ni ps)) (hr:=hrd i) (hl:=by rw [is_length,ni_length]; omega))<|s_y (y_ldi (i:=k) (q:=ni ps) (hr:=hrd i) (hi:=by rw [ni_length]; omega))<|?_
      rw [ni_get]
      obtain ⟨b,hb⟩:∃ b,ps.getD k 0 = b:=⟨_,rfl⟩
      have hbq:b < 2305843009213688669:=by rw [← hb]; exact hps k
      rw [hb]
      refine s_y y_as<|s_y y_as<|s_nil<|q_then<|c_seq<|c_seq<|c_reg<|s_y y_mv<|s_y y_mv<|?_
      by_cases hki:k = i
      · subst hki
        refine s_kt (y_eql (p:=((k:Nat):Int)) (q:=((k:Nat):Int))) rfl<|s_nil<|q_then<|c_t<|c_exit<|q_ex<|q_exb<|q_then<|c_reg<|s_y (y_add (p:=((k:Nat):Int)) (q:=1))<|s_y y_mv<|s_nil<|?_
        rw [show ((k:Nat):Int) + 1 = ((k + 1:Nat):Int) by omega]
        have e:(ps.take (k + 1)).eraseIdx k = (ps.take k).eraseIdx k:=by
          rw [take_snoc ps k hkl]
          have:=er_eq (ps.take k) (ps.getD k 0)
          rwa [htk] at this
        rw [← e]
        exact q_round (k + 1) hkl (by omega) ⟨rfl,rfl,rfl,rfl,rfl,rfl,rfl,rfl,rfl,rfl,rfl,rfl,rfl,trivial⟩ (.refl _)
      · obtain ⟨u,hu⟩:∃ u,upQ ((ps.take k).eraseIdx i) x = u:=⟨_,rfl⟩
        obtain ⟨v,hv⟩:∃ v,upQ ((ps.take k).eraseIdx i) a = v:=⟨_,rfl⟩
        have huq:u < 2305843009213688669:=by rw [← hu]; exact upQ_lt _ _
        have hvq:v < 2305843009213688669:=by rw [← hv]; exact upQ_lt _ _
        have e:∀ z,upQ ((ps.take (k + 1)).eraseIdx i) z = upQ ((ps.take k).eraseIdx i) z * subQ z b % 2305843009213688669:=fun z=>by
          rw [take_snoc ps k hkl,er_ne _ _ _ (by rw [htk]; exact hki),upQ_snoc,hb]
        have ex:=e x
        have ea:=e a
        rw [hu] at ex ⊢
        rw [hv] at ea ⊢
        have hsx:=subQ_lt x b
        have hsa:=subQ_lt a b
        refine s_kf (y_eql (p:=((k:Nat):Int)) (q:=((i:Nat):Int))) (by omega)<|s_nil<|q_then<|c_f<|c_skip<|q_then<|?_
        refine c_seq<|c_reg<|s_y (y_ld (b:=b2) (hm:=h2 i) (v:=I x))<|s_y y_mv<|s_pure (fun w' hw=>f_Sub_yes w' x b hx hbq)<|s_y y_mv<|s_y y_ext<|s_y y_ext<|s_y y_as<|s_y y_as<|s_nil<|q_then<|?_
        refine c_seq<|c_reg<|s_y y_mv<|s_y y_mv<|s_pure (fun w' hw=>f_Sub_yes w' a b haq hbq)<|s_y y_mv<|s_y y_ext<|s_y y_ext<|s_y y_as<|s_y y_as<|s_nil<|q_then<|?_
        refine c_seq<|c_reg<|s_y y_mv<|s_y y_mv<|s_pure (fun w' hw=>f_Mul_yes w' u (subQ x b) huq hsx)<|s_y y_mv<|s_y y_ext<|s_y y_ext<|s_y y_as<|s_nil<|q_then<|?_
        refine c_reg<|s_y y_mv<|s_y y_mv<|s_pure (fun w' hw=>f_Mul_yes w' v (subQ a b) hvq hsa)<|s_y y_mv<|s_y y_ext<|s_y y_ext<|s_y y_as<|s_nil<|q_nb<|q_then<|?_
        refine c_reg<|s_y (y_add (p:=((k:Nat):Int)) (q:=1))<|s_y y_mv<|s_nil<|?_
        rw [show ((k:Nat):Int) + 1 = ((k + 1:Nat):Int) by omega,← ex,← ea]
        exact q_round (k + 1) hkl (by omega) ⟨rfl,rfl,rfl,rfl,rfl,rfl,rfl,rfl,rfl,rfl,rfl,rfl,rfl,trivial⟩ (.refl _)
    · obtain rfl:k = ps.length:=by omega
      rw [List.take_length]
      obtain ⟨u,hu⟩:∃ u,upQ (ps.eraseIdx i) x = u:=⟨_,rfl⟩
      obtain ⟨v,hv⟩:∃ v,upQ (ps.eraseIdx i) a = v:=⟨_,rfl⟩
      have huq:u < 2305843009213688669:=by rw [← hu]; exact upQ_lt _ _
      have hvq:v < 2305843009213688669:=by rw [← hv]; exact upQ_lt _ _
      have hbas:basQ (ps.eraseIdx i) a x = u * qq v 2305843009213688667 % 2305843009213688669:=by rw [basQ,hu,hv]
      have hr:=hround i hil
      rw [ha] at hpi
      rw [ha,hbas] at hr
      rw [hv] at hpi
      rw [hu,hv]
      refine c_seq<|c_reg<|s_kf (y_lss (p:=((ps.length:Nat):Int)) (q:=((ps.length:Nat):Int))) (by omega)<|s_nil<|q_then<|c_seq<|c_f<|c_exit<|q_ex<|q_ex<|q_exb<|q_then<|?_
      refine c_seq<|c_reg<|s_y y_mv<|s_pure (fun w' hw=>f_Inv_yes w' v hpi hvq)<|s_y y_mv<|s_y y_ext<|s_y y_ext<|s_y y_as<|s_y y_as<|s_nil<|q_then<|?_
      refine c_seq<|c_reg<|s_y y_mv<|s_y y_mv<|s_pure (fun w' hw=>f_Mul_yes w' u (qq v 2305843009213688667) huq (qq_lt _ _))<|s_y y_mv<|s_y y_ext<|s_y y_ext<|s_y y_as<|s_y y_as<|s_nil<|q_then<|?_
      refine c_seq<|c_reg<|s_y y_mv<|s_y y_mv<|s_y y_mv<|?_
      refine s_yield2 (L:=Lp) (rc:=rc) (σ:=Unit) (fun _=>.bool true) (fun _=>M (i + 1)) (fun _=>True) (hL i) hpz (fun w2 h2=>hr w2 h2) (fun _ _=>?_)
      refine s_y (v:=.bool false) (y_not (b:=true))<|s_nil<|q_then<|c_f<|c_skip<|q_nb<|q_then<|c_reg<|s_y (y_add (p:=((i:Nat):Int)) (q:=1))<|s_y y_mv<|s_nil<|?_
      rw [show ((i:Nat):Int) + 1 = ((i + 1:Nat):Int) by omega]
      exact q_round (i + 1) hil (by omega) ⟨rfl,rfl,rfl,rfl,rfl,rfl,trivial⟩ (.refl _)
  · obtain rfl:i = ps.length:=by omega
    refine c_seq<|c_reg<|s_kf (y_lss (p:=((ps.length:Nat):Int)) (q:=((ps.length:Nat):Int))) (by omega)<|s_nil<|q_then<|c_seq<|c_f<|c_exit<|q_ex<|q_ex<|q_exb<|?_
    exact ret0 Tryz.results189 (fun w2 h2=>⟨⟨_,rfl⟩,h2⟩) _ (.inr rfl)
end Go.Proofs.YtegfmbefhpagmaaGreatDoor
end
section
namespace Eng
open Go
theorem rdOL {W0 w:World} {l0 l:SH} (hs:St W0 [] w l0) {a:Option Addr} {xs:List Value} (h:Rd W0 a xs):RdS w (keys l0) l a xs:=fun w' hw=>by
  by_cases hne:xs = []
  · rw [hne]; exact Rd.nil _ _
  · refine Rd.congr h fun b hb=>?_
    have h1:b < W0.heap.size:=h.lt hne hb
    rw [hw.old b (Nat.lt_of_lt_of_le h1 hs.size) ?_,hs.old b h1 (by simp)]
    intro hm
    obtain ⟨q,hq,hk⟩:=mem_keys.1 hm
    rcases (hs.own q hq).2 b hk with h2 | h2
    · omega
    · simp at h2
end Eng
namespace Gf
open Go Eng
def sN (l:List (Nat × Nat)):List (Int × Int):=l.map fun s=>((s.1:Int),(s.2:Int))
theorem sN_length (l:List (Nat × Nat)):(sN l).length = l.length:=by unfold sN; exact List.length_map _
def pl (l:List (Nat × Nat)):List Nat:=l.map (·.1)
theorem pl_length (l:List (Nat × Nat)):(pl l).length = l.length:=by unfold pl; exact List.length_map _
theorem sN_pl (l:List (Nat × Nat)):(sN l).map (·.1) = ni (pl l):=by unfold sN ni pl; rw [List.map_map,List.map_map]; rfl
theorem shc_y (l:List (Nat × Nat)) (i:Nat) (h:i < l.length):(shc (sN l))[i * 2 + 1]? = some (I ((l.getD i (0,0)).2:Nat)):=by
  have e:l = l.take i ++ l.getD i (0,0) :: l.drop (i + 1):=by
    rw [List.getD_eq_getElem?_getD,List.getElem?_eq_getElem h]
    simp
  have e2:sN l = sN (l.take i) ++ (((l.getD i (0,0)).1:Int),((l.getD i (0,0)).2:Int)) :: sN (l.drop (i + 1)):=by
    conv=>lhs; rw [e]
    unfold sN; rw [List.map_append,List.map_cons]
  have hl:(sN (l.take i)).length = i:=by rw [sN_length,List.length_take]; omega
  have:=shc_mid (sN (l.take i)) (((l.getD i (0,0)).1:Int),((l.getD i (0,0)).2:Int)) (sN (l.drop (i + 1))) 1 _ rfl
  rw [hl,← e2] at this
  exact this
noncomputable def accQ (l:List (Nat × Nat)) (x:Nat):Nat → Nat
  | 0=>0
  | i + 1=>(accQ l x i + basQ ((pl l).eraseIdx i) ((pl l).getD i 0) x * (l.getD i (0,0)).2 % 2305843009213688669) % 2305843009213688669
noncomputable def valQ (l:List (Nat × Nat)) (x:Nat):Nat:=accQ l x l.length
theorem accQ_lt (l:List (Nat × Nat)) (x i:Nat):accQ l x i < 2305843009213688669:=by
  cases i with
  | zero=>exact Nat.zero_lt_succ _
  | succ i=>exact Nat.mod_lt _ (by decide)
end Gf
namespace Go.Proofs.YtegfmbefhpagmaaGreatDoor
open Go Eng Gf
set_option maxRecDepth 100000
theorem placeOf_ok (w:World) (s:Int × Int):Pure Tryz.prog 161 [.agg #[I s.1,I s.2]] w (I s.1):=by
  refine enter Tryz.func161 Tryz.ntmps161 ?_
  refine c_seq<|c_reg<|s_box rfl fun b1=>s_y y_as<|s_nil<|q_then<|c_seq<|c_reg<|s_y y_fa<|s_y (y_ld (v:=I s.1))<|s_y y_as<|s_nil<|q_then<|c_ret<|?_
  exact ret1 Tryz.results161 rv_t fun w' hw=>⟨rfl,hw.sub (List.nil_sublist _)⟩
theorem collect_ok (w:World) (a:Option Addr) (c:Nat) (l:List (Int × Int)) (hr:Rd w a (shc l)) (hl:l.length ≤ 1000000) :
    Gives Tryz.prog 160 [.slice a l.length c,.func (.func 161) #[] #[]] w [] (fun x:Option Addr × Nat=>.slice x.1 l.length x.2) (fun x=>[.row x.1 x.2 3 1 l.length (is (l.map (·.1)))]) (fun _=>True):=by
  refine enter Tryz.func160 Tryz.ntmps160 ?_
  refine c_seq<|c_reg<|s_y y_as<|s_nil<|q_then<|c_seq<|c_seq<|c_reg<|s_y y_mv<|s_y y_len<|s_y y_mv<|s_nil<|q_then<|c_nilrow 3 1<|c_block<|?_
  refine c_loop4 (fun (d r:List (Int × Int)) (a':Option Addr) (c':Nat)=>[(1,.func (.func 161) #[] #[]),(4,.slice a' d.length c'),(7,.slice a l.length c),(8,I l.length),(9,I d.length)]) (fun d _ a' c'=>[.row a' c' 3 1 d.length (is (d.map (·.1)))]) (fun d r _ _=>l = d ++ r) (fun _ r _ _=>r.length) [] l none 0 rfl ⟨rfl,rfl,rfl,rfl,rfl,trivial⟩ (.refl _) ?_
  intro d r a' c' e1
  have hlen:l.length = d.length + r.length:=by rw [e1,List.length_append]
  cases r with
  | nil =>
    rw [List.append_nil] at e1
    subst e1
    refine c_seq<|c_reg<|s_kf (y_lss (p:=((l.length:Nat):Int)) (q:=((l.length:Nat):Int))) (by omega)<|s_nil<|q_then<|c_seq<|c_f<|c_exit<|q_ex<|q_ex<|q_exb<|q_then<|c_seq<|c_reg<|s_y y_mv<|s_y y_as<|s_nil<|q_then<|c_ret<|?_
    exact ret1 Tryz.results160 rv_t fun w' hw=>⟨(a',c'),trivial,rfl,hw⟩
  | cons s r =>
    rw [List.length_cons] at hlen
    refine c_seq<|c_reg<|s_kt (y_lss (p:=((d.length:Nat):Int)) (q:=((l.length:Nat):Int))) (by omega)<|s_nil<|q_then<|c_seq<|c_t<|c_skip<|q_then<|c_seq<|c_block<|c_seq<|c_reg<|s_y (y_ixs (xs:=shc l) (i:=((d.length:Nat):Int)) (hl:=by rw [shc_length]; omega))<|s_y (y_ldra (i:=d.length * 2) (cs:=[I s.1,I s.2]) (rdW0 hr) rfl (by rw [e1]; exact shc_mid d s r))<|s_alloc fun b6=>s_sta (b:=b6) (vs:=#[I s.1,I s.2]) (cs:=#[I 0,I 0]) (h1:=by intro u hu; simp at hu; rcases hu with rfl | rfl <;> rfl) (hl:=rfl) (hs1:=rfl) ?_
    refine s_nil<|q_then<|c_reg<|s_y y_mv<|s_y y_mv<|s_y (y_lda (b:=b6) (cs:=#[I s.1,I s.2]) (hl:=rfl))<|s_pure (fun w' hw=>placeOf_ok w' s)<|s_bslr (cs:=is [s.1]) fun b17=>s_app (m:=1) (fun w' hw=>Src.slice (rdR (.head _) w' hw) rfl) (h1:=fun v hv=>by simp [is] at hv; subst hv; rfl) (hm:=.tail _ (.tail _ (.head _))) (hrep:=fun _ _=>.tail _ (.tail _ (.head _))) fun a18 c18 h18=>?_
    have e2:is (d.map (·.1)) ++ is [s.1] = is ((d ++ [s]).map (·.1)):=by simp [is]
    rw [e2]
    refine s_y y_as<|s_nil<|q_nb<|q_then<|c_reg<|s_y (y_add (p:=((d.length:Nat):Int)) (q:=1))<|s_y y_mv<|s_nil<|?_
    have e3:(d ++ [s]).length = d.length + 1:=by simp
    rw [show ((d.length:Nat):Int) + 1 = (((d ++ [s]).length:Nat):Int) by rw [e3]; omega,← e3]
    exact q_round4 (x:=d) (y:=s :: r) (z:=a') (u:=c') (d ++ [s]) r a18 c18 (by rw [e1,List.append_assoc]; rfl) (Nat.lt_succ_self _) ⟨rfl,rfl,rfl,rfl,rfl,trivial⟩ (.cons _ (.cons _ (.refl _)))
theorem basis_ok (w:World) (pa:Option Addr) (n pc x:Nat):Gives Tryz.prog 159 [.slice pa n pc,I x] w [] (fun y:Nat × Nat=>.func (.func 189) #[] #[.pointer (some ⟨y.1,0,none⟩),.pointer (some ⟨y.2,0,none⟩)]) (fun y=>[.blk y.2 (.cells #[I x] 3 (0,0)),.blk y.1 (.cells #[.slice pa n pc] 25 (0,0))]) (fun _=>True):=by
  refine enter Tryz.func159 Tryz.ntmps159 ?_
  refine c_seq<|c_reg<|s_box rfl fun b2=>s_box rfl fun b3=>s_y y_as<|s_nil<|q_then<|c_seq<|c_reg<|s_y y_func<|s_y y_as<|s_nil<|q_then<|c_ret<|?_
  exact ret1 Tryz.results159 rv_t fun w' hw=>⟨(b2,b3),trivial,rfl,hw⟩
end Go.Proofs.YtegfmbefhpagmaaGreatDoor
end
section
namespace Go.Proofs.YtegfmbefhpagmaaGreatDoor
open Go Eng Gf
set_option maxRecDepth 100000
theorem s_value_ok (w:World) (a:Option Addr) (c:Nat) (l:List (Nat × Nat)) (x:Nat) (hr:Rd w a (shc (sN l))) (hl:l.length ≤ 1000000) (hx:x < 2305843009213688669) (hps:∀ i,(pl l).getD i 0 < 2305843009213688669) (hys:∀ i,(l.getD i (0,0)).2 < 2305843009213688669)
    (hpos:∀ i,i < (pl l).length → 0 < upQ ((pl l).eraseIdx i) ((pl l).getD i 0)) :
    Pure Tryz.prog 127 [.slice a l.length c,I x] w (I (valQ l x:Nat)):=by
  refine enterM Tryz.func127 Tryz.ntmps127 ?_
  refine c_seq<|c_reg<|s_box rfl fun b2=>s_alloc fun b4=>s_nil<|q_then<|c_seq<|c_seq<|c_reg<|s_y (y_ld (b:=b2) (v:=.slice a l.length c))<|s_gives (fun w' hw=>by
    have h9:=collect_ok w' a c (sN l) (hr.st hw) (by rw [sN_length]; exact hl)
    rw [sN_length,sN_pl] at h9
    exact h9) (fun y _=>?_)
  obtain ⟨pa,pc⟩:=y
  refine s_y y_mv<|s_gives (fun w' hw=>basis_ok w' pa l.length pc x) (fun y _=>?_)
  obtain ⟨b11,b12⟩:=y
  refine s_nil<|q_then<|c_block<|?_
  let M:Nat → Loop → Nat → Nat → SH:=fun i rc L Dk=>[.blk L (.loop rc),.blk Dk (.deferred (some [])),.blk b12 (.cells #[I x] 3 (0,0)),.blk b11 (.cells #[.slice pa l.length pc] 25 (0,0)),.row pa pc 3 1 l.length (is (ni (pl l))),.blk b4 (.cells #[I (accQ l x i:Nat)] 3 (0,0)),.blk b2 (.cells #[.slice a l.length c] 28 (0,0))]
  refine c_rangeN (σ:=Unit) (fun _=>[.blk b12 (.cells #[I x] 3 (0,0)),.blk b11 (.cells #[.slice pa l.length pc] 25 (0,0)),.row pa pc 3 1 l.length (is (ni (pl l))),.blk b4 (.cells #[I (valQ l x:Nat)] 3 (0,0)),.blk b2 (.cells #[.slice a l.length c] 28 (0,0))]) (fun _=>True) (fun fn tm Dk L hfr w' hw'=>?_) (fun Dk _ _=>?_)
  rotate_left
  · refine q_nb<|q_then<|c_seq<|c_reg<|s_y (y_ld (b:=b4) (v:=I (valQ l x:Nat)))<|s_st (b:=b4) (v:=I (valQ l x:Nat)) (cs:=#[I (valQ l x:Nat)]) (hl:=Nat.zero_lt_one) ?_
    refine s_nil<|q_then<|c_ret<|?_
    exact ret1E Tryz.results127 (.head _) (rv_cf (b:=b4) (v:=I (valQ l x:Nat))) fun w' hw=>⟨rfl,hw.sub (List.nil_sublist _)⟩
  · have hps0:=(show St w [] w' (M 0 _ L Dk ++ []) by rw [List.append_nil]; exact hw').has
    have hpl:=pl_length l
    have hb:=basis1_ok w' _ L b11 b12 pa pc (pl l) x (fun i=>M i _ L Dk) hps0.1 hps0.2 rfl (fun i=>.head _) (fun i=>by rw [hpl]; exact .tail _ (.tail _ (.tail _ (.head _)))) (fun i=>.tail _ (.tail _ (.head _))) (fun i=>rdR (.tail _ (.tail _ (.tail _ (.tail _ (.head _)))))) (by rw [hpl]; exact hl) hx hps hpos (fun i hi w2 h2=>?_)
    · rw [hpl] at hb
      refine hb.mono fun e' w2 ⟨hv,h2⟩=>⟨hv,(),trivial,by have h9:=hw'.transL (l2:=[]) (by rw [List.append_nil]; exact .refl _) h2; rw [List.append_nil] at h9; exact h9⟩
    · rw [hpl] at hi
      obtain ⟨v,hv⟩:∃ v,basQ ((pl l).eraseIdx i) ((pl l).getD i 0) x = v:=⟨_,rfl⟩
      have hvq:v < 2305843009213688669:=by rw [← hv]; exact basQ_lt _ _ _
      have hacc:accQ l x (i + 1) = (accQ l x i + v * (l.getD i (0,0)).2 % 2305843009213688669) % 2305843009213688669:=by rw [accQ,hv]
      rw [hv]
      have hy:=shc_y l i hi
      have hyq:=hys i
      obtain ⟨y,hyy⟩:∃ y,(l.getD i (0,0)).2 = y:=⟨_,rfl⟩
      rw [hyy] at hy hyq hacc
      have haq:=accQ_lt l x i
      obtain ⟨acc,hac⟩:∃ acc,accQ l x i = acc:=⟨_,rfl⟩
      have hf9:=((hfr []).put 13 (I (i:Int)) rfl).put 14 (I (v:Int)) rfl
      refine round_ok (F1:=[(2,.pointer (some ⟨b2,0,none⟩)),(4,.pointer (some ⟨b4,0,none⟩)),(5,I i),(6,I v)]) h2 hf9 (by simp [Act.put]) (by rfl) (.head _) (l1:=M i _ L Dk) ?_ ?_
      · refine c_seq<|c_reg<|s_y y_as<|s_nil<|q_then<|c_reg<|s_y y_as<|s_nil<|q_join ⟨rfl,rfl,rfl,rfl,trivial⟩ (List.Sublist.refl _)
      · refine c_block<|c_seq<|c_reg<|s_y y_mv<|s_y (y_ld (b:=b2) (v:=.slice a l.length c))<|s_y y_mv<|s_y (y_ixs (xs:=shc (sN l)) (hr:=rdOL hw' hr) (hl:=by rw [shc_length,sN_length]; omega))<|s_y y_far<|s_y (y_ldr (i:=i * 2 + 1) hy rfl (rdOL hw' hr))<|s_pure (fun w3 h3=>f_Mul_yes w3 v y hvq hyq)<|s_y y_mv<|s_y y_ext<|s_y y_ext<|s_y y_as<|s_y y_as<|s_nil<|q_then<|?_
        refine c_reg<|s_y (y_ld (b:=b4) (v:=I (accQ l x i:Nat)))<|s_y y_mv<|s_pure (fun w3 h3=>f_Add_yes w3 (accQ l x i) (v * y % 2305843009213688669) haq (Nat.mod_lt _ (by decide)))<|s_y y_mv<|s_y y_ext<|s_y y_ext<|?_
        rw [← hacc]
        refine s_st (b:=b4) (v:=I (accQ l x (i + 1):Nat)) (cs:=#[I (accQ l x i:Nat)]) (hl:=Nat.zero_lt_one) ?_
        exact s_nil<|q_nb<|q_rn (.head _) fun w3 h3=>⟨(),trivial,rfl,h3⟩
end Go.Proofs.YtegfmbefhpagmaaGreatDoor
end
section
namespace Gf
open Go Eng
theorem rev_ind {P:List Nat → Prop} (h0:P []) (h1:∀ d b,P d → P (d ++ [b])):∀ l,P l:=by
  intro l
  have key:∀ n (l:List Nat),l.length = n → P l:=by
    intro n
    induction n with
    | zero=>intro l h; rw [List.length_eq_zero_iff.1 h]; exact h0
    | succ n ih =>
      intro l h
      rcases List.eq_nil_or_concat l with rfl | ⟨d,b,rfl⟩
      · cases h
      · rw [List.concat_eq_append] at h ⊢
        exact h1 d b (ih d (by simpa using h))
  exact key _ l rfl
end Gf
namespace Go.Proofs.YtegfmbefhpagmaaGreatDoor
open Go Eng Gf
end Go.Proofs.YtegfmbefhpagmaaGreatDoor
end
section
namespace Gf
open Go Eng
end Gf
namespace Go.Proofs.YtegfmbefhpagmaaGreatDoor
open Go Eng Gf
end Go.Proofs.YtegfmbefhpagmaaGreatDoor
end
section
namespace Gf
open Go Eng
theorem mul_pos {x y:Nat} (hx0:0 < x) (hx:x < 2305843009213688669) (hy0:0 < y) (hy:y < 2305843009213688669):0 < x * y % 2305843009213688669:=by
  have hq:Num.Q = 2305843009213688669:=Qeq
  have nd:∀ {a:Nat},0 < a → a < 2305843009213688669 → ¬ Num.Q ∣ a:=fun h0 h hd=>by
    have:=Nat.le_of_dvd h0 hd
    rw [hq] at this; omega
  rcases Nat.eq_zero_or_pos (x * y % 2305843009213688669) with h | h
  · have hd:Num.Q ∣ x * y:=Nat.dvd_of_mod_eq_zero (by rw [hq]; exact h)
    rcases Num.prime_Q.dvd_mul hd with h1 | h1
    · exact absurd h1 (nd hx0 hx)
    · exact absurd h1 (nd hy0 hy)
  · exact h
theorem upQ_pos (a:Nat):∀ ot:List Nat,(∀ b ∈ ot,0 < subQ a b) → 0 < upQ ot a:=by
  refine rev_ind (fun _=>Nat.zero_lt_one) fun d b ih h=>?_
  rw [upQ_snoc]
  exact mul_pos (ih fun c hc=>h c (List.mem_append_left _ hc)) (upQ_lt _ _) (h b (List.mem_append_right _ (.head _))) (subQ_lt _ _)
theorem subQ_pos {a b:Nat} (ha:a ≤ 64) (hb:b ≤ 64) (h:a ≠ b):0 < subQ a b:=by unfold subQ; omega
/-- valid shares -/
structure Vld (l:List (Nat × Nat)):Prop where
  le:l.length ≤ 64
  pos:1 ≤ l.length
  at':∀ s ∈ l,1 ≤ s.1 ∧ s.1 ≤ 64 ∧ s.2 < 2305843009213688669
  up:l.Pairwise fun s t=>s.1 < t.1
def toN (l:List (Int × Int)):List (Nat × Nat):=l.map fun s=>(s.1.toNat,s.2.toNat)
theorem toN_length (l:List (Int × Int)):(toN l).length = l.length:=by unfold toN; exact List.length_map _
theorem okS_nat:∀ (l:List (Int × Int)) (last:Int),0 ≤ last → okS last l = true → sN (toN l) = l ∧ (∀ s ∈ toN l,last < s.1 ∧ s.1 ≤ 64 ∧ s.2 < 2305843009213688669) ∧ (toN l).Pairwise fun s t=>s.1 < t.1
  | [],_,_,_=>⟨rfl,fun s hs=>by simp [toN] at hs,List.Pairwise.nil⟩
  | s :: l,last,h0,h=>by
    rw [okS] at h
    simp only [Bool.and_eq_true,decide_eq_true_eq] at h
    obtain ⟨h1,h2,h3,h4⟩:=h
    obtain ⟨y,hy,hyq⟩:=sc_nat h3
    obtain ⟨i1,i2,i3⟩:=okS_nat l s.1 (by omega) h4
    have e1:((s.1.toNat:Nat):Int) = s.1:=Int.toNat_of_nonneg (by omega)
    have e2:((s.2.toNat:Nat):Int) = s.2:=Int.toNat_of_nonneg (by omega)
    refine ⟨?_,fun t ht=>?_,List.pairwise_cons.2 ⟨fun t ht=>?_,i3⟩⟩
    · unfold sN toN at i1 ⊢
      rw [List.map_cons,List.map_cons,i1]
      show (((s.1.toNat:Nat):Int),((s.2.toNat:Nat):Int)) :: l = s :: l
      rw [e1,e2]
    · rcases List.mem_cons.1 ht with rfl | ht
      · exact ⟨by show last < ((s.1.toNat:Nat):Int); omega,by show s.1.toNat ≤ 64; omega,by show s.2.toNat < _; omega⟩
      · have:=i2 t ht; exact ⟨by omega,this.2⟩
    · have:=(i2 t ht).1
      show s.1.toNat < t.1
      omega
theorem chS_vld {l:List (Int × Int)} (h:chS l = 0):sN (toN l) = l ∧ Vld (toN l):=by
  unfold chS at h
  by_cases h1:1 ≤ l.length ∧ l.length ≤ 64 ∧ okS 0 l = true
  · obtain ⟨i1,i2,i3⟩:=okS_nat l 0 (Int.le_refl _) h1.2.2
    exact ⟨i1,by rw [toN_length]; exact h1.2.1,by rw [toN_length]; exact h1.1,fun s hs=>⟨by have:=(i2 s hs).1; omega,(i2 s hs).2⟩,i3⟩
  · rw [if_neg h1] at h; cases h
theorem Vld.ps {l:List (Nat × Nat)} (h:Vld l) (i:Nat):(pl l).getD i 0 ≤ 64:=by
  unfold pl
  rw [List.getD_eq_getElem?_getD,List.getElem?_map]
  rcases Nat.lt_or_ge i l.length with hi | hi
  · rw [List.getElem?_eq_getElem hi]; exact (h.at' _ (List.getElem_mem hi)).2.1
  · rw [List.getElem?_eq_none hi]; exact Nat.zero_le _
theorem Vld.ys {l:List (Nat × Nat)} (h:Vld l) (i:Nat):(l.getD i (0,0)).2 < 2305843009213688669:=by
  rw [List.getD_eq_getElem?_getD]
  rcases Nat.lt_or_ge i l.length with hi | hi
  · rw [List.getElem?_eq_getElem hi]; exact (h.at' _ (List.getElem_mem hi)).2.2
  · rw [List.getElem?_eq_none hi]; exact Nat.zero_lt_succ _
theorem Vld.ne {l:List (Nat × Nat)} (h:Vld l) {i k:Nat} (hi:i < l.length) (hk:k < l.length) (hne:k ≠ i):(pl l).getD i 0 ≠ (pl l).getD k 0:=by
  have hp:(pl l).Pairwise (· < ·):=List.pairwise_map.2 h.up
  have hi':i < (pl l).length:=by rw [pl_length]; exact hi
  have hk':k < (pl l).length:=by rw [pl_length]; exact hk
  rw [List.getD_eq_getElem?_getD,List.getD_eq_getElem?_getD,List.getElem?_eq_getElem hi',List.getElem?_eq_getElem hk']
  show (pl l)[i] ≠ (pl l)[k]
  rcases Nat.lt_or_gt_of_ne hne with h1 | h1
  · have:=List.pairwise_iff_getElem.1 hp k i hk' hi' h1; omega
  · have:=List.pairwise_iff_getElem.1 hp i k hi' hk' h1; omega
theorem Vld.up_pos {l:List (Nat × Nat)} (h:Vld l) (i:Nat) (hi:i < (pl l).length):0 < upQ ((pl l).eraseIdx i) ((pl l).getD i 0):=by
  refine upQ_pos _ _ fun b hb=>?_
  obtain ⟨k,hk,hbk⟩:∃ k,k ≠ i ∧ (pl l)[k]? = some b:=by
    obtain ⟨j,hj⟩:=List.mem_iff_getElem?.1 hb
    rw [List.getElem?_eraseIdx] at hj
    split at hj
    · exact ⟨j,by omega,hj⟩
    · exact ⟨j + 1,by omega,hj⟩
  have hkl:k < (pl l).length:=(List.getElem?_eq_some_iff.1 hbk).1
  have e:(pl l).getD k 0 = b:=by rw [List.getD_eq_getElem?_getD,hbk]; rfl
  rw [← e]
  rw [pl_length] at hi hkl
  exact subQ_pos (h.ps i) (h.ps k) (h.ne hi hkl hk)
noncomputable def jnV (l:List (Int × Int)):Int:=if chS l = 0 then ((valQ (toN l) 0:Nat):Int) else 0
end Gf
namespace Go.Proofs.YtegfmbefhpagmaaGreatDoor
open Go Eng Gf
set_option maxRecDepth 100000
theorem s_valueV (w:World) (a:Option Addr) (c:Nat) (l:List (Nat × Nat)) (x:Nat) (hv:Vld l) (hr:Rd w a (shc (sN l))) (hx:x < 2305843009213688669):Pure Tryz.prog 127 [.slice a l.length c,I x] w (I (valQ l x:Nat)) :=
  s_value_ok w a c l x hr (by have:=hv.le; omega) hx (fun i=>by have:=hv.ps i; omega) hv.ys hv.up_pos
theorem s_Join_ok (w:World) (a:Option Addr) (c:Nat) (l:List (Int × Int)) (hr:Rd w a (shc l)) (hl:l.length < 1000000000000000000):Pure Tryz.prog 71 [.slice a l.length c] w (.tuple #[I (jnV l),I (chS l)]):=by
  refine enter Tryz.func71 Tryz.ntmps71 ?_
  refine c_seq<|c_reg<|s_y y_as<|s_y y_as<|s_nil<|q_then<|c_seq<|c_seq<|c_reg<|s_y y_mv<|s_pure (fun w' hw=>s_Check_ok w' a c l (hr.st hw) hl)<|s_y y_as<|s_nil<|q_then<|c_seq<|c_reg<|s_y y_mv<|?_
  by_cases h:chS l = 0
  · obtain ⟨e,hv⟩:=chS_vld h
    rw [jnV,if_pos h,h]
    refine s_nf (y_neq (p:=0) (q:=0)) rfl<|s_nil<|q_then<|c_f<|c_skip<|q_then<|c_seq<|c_reg<|s_y y_mv<|s_pure (fun w' hw=>by
      have h9:=s_valueV w' a c (toN l) 0 hv (by rw [e]; exact hr.st hw) (by decide)
      rw [toN_length] at h9
      exact h9)<|s_y y_as<|s_y y_as<|s_nil<|q_then<|c_ret<|?_
    exact ret2 Tryz.results71 rv_t rv_t fun w' hw=>⟨rfl,hw⟩
  · rw [jnV,if_neg h]
    refine s_nt (y_neq (p:=chS l) (q:=0)) h<|s_nil<|q_then<|c_t<|c_seq<|c_reg<|s_y y_mv<|s_y y_as<|s_y y_as<|s_nil<|q_then<|c_ret<|q_ret<|?_
    exact ret2 Tryz.results71 rv_t rv_t fun w' hw=>⟨rfl,hw⟩
end Go.Proofs.YtegfmbefhpagmaaGreatDoor
end
section
namespace Poly
/-- what is needed of a prime -/
structure Prm (p:Int):Prop where
  mul:∀ a b:Int,p ∣ a * b → p ∣ a ∨ p ∣ b
  one:¬ p ∣ 1
def ev:List Int → Int → Int
  | [],_=>0
  | a :: c,x=>a + x * ev c x
def qt:List Int → Int → List Int
  | [],_=>[]
  | [_],_=>[]
  | _ :: b :: c,r=>ev (b :: c) r :: qt (b :: c) r
theorem qt_length:∀ (c:List Int) (r:Int),(qt c r).length = c.length - 1
  | [],_=>rfl
  | [_],_=>rfl
  | _ :: b :: c,r=>by rw [qt,List.length_cons,qt_length (b :: c) r]; simp
theorem ev_qt:∀ (c:List Int) (r x:Int),ev c x = ev c r + (x - r) * ev (qt c r) x
  | [],r,x=>by simp [ev,qt]
  | [a],r,x=>by simp [ev,qt]
  | a :: b :: c,r,x=>by
    have h:=ev_qt (b :: c) r x
    rw [qt]
    show a + x * ev (b :: c) x = a + r * ev (b :: c) r + (x - r) * (ev (b :: c) r + x * ev (qt (b :: c) r) x)
    rw [h]
    grind
theorem roots {p:Int} (hp:Prm p):∀ (rs:List Int) (c:List Int),c.length ≤ rs.length → rs.Pairwise (fun a b=>¬ p ∣ b - a) → (∀ r ∈ rs,p ∣ ev c r) → ∀ x,p ∣ ev c x
  | [],c,hl,_,_,x=>by
    obtain rfl:c = []:=List.length_eq_zero_iff.1 (Nat.le_zero.1 hl)
    exact ⟨0,by simp [ev]⟩
  | r :: rs,c,hl,hd,hr,x=>by
    have h1:∀ y,p ∣ ev (qt c r) y:=by
      refine roots hp rs (qt c r) (by rw [qt_length]; rw [List.length_cons] at hl; omega) (List.pairwise_cons.1 hd).2 fun s hs=>?_
      have h2:=ev_qt c r s
      have h3:p ∣ (s - r) * ev (qt c r) s:=by
        have h4:=Int.dvd_sub (hr s (.tail _ hs)) (hr r (.head _))
        have e:ev c s - ev c r = (s - r) * ev (qt c r) s:=by rw [h2]; grind
        rwa [e] at h4
      exact (hp.mul _ _ h3).resolve_left ((List.pairwise_cons.1 hd).1 s hs)
    rw [ev_qt c r x]
    exact Int.dvd_add (hr r (.head _)) (Int.dvd_trans (h1 x) (Int.dvd_mul_left _ _))
def addp:List Int → List Int → List Int
  | [],d=>d
  | c,[]=>c
  | a :: c,b :: d=>(a + b) :: addp c d
def scp (k:Int) (c:List Int):List Int:=c.map (k * ·)
def mlp (a:Int) (c:List Int):List Int:=addp (0 :: c) (scp (-a) c)
theorem ev_addp:∀ (c d:List Int) (x:Int),ev (addp c d) x = ev c x + ev d x
  | [],d,x=>by simp [addp,ev]
  | a :: c,[],x=>by simp [addp,ev]
  | a :: c,b :: d,x=>by
    rw [addp,ev,ev,ev,ev_addp c d x]; grind
theorem ev_scp (k:Int):∀ (c:List Int) (x:Int),ev (scp k c) x = k * ev c x
  | [],x=>by simp [scp,ev]
  | a :: c,x=>by
    have:=ev_scp k c x
    simp only [scp,List.map_cons] at this ⊢
    rw [ev,ev,this]; grind
theorem ev_mlp (a:Int) (c:List Int) (x:Int):ev (mlp a c) x = (x - a) * ev c x:=by
  rw [mlp,ev_addp,ev_scp,ev]; grind
theorem addp_length:∀ (c d:List Int),(addp c d).length = max c.length d.length
  | [],d=>by simp [addp]
  | a :: c,[]=>by simp [addp]
  | a :: c,b :: d=>by rw [addp,List.length_cons,addp_length c d,List.length_cons,List.length_cons]; omega
theorem scp_length (k:Int) (c:List Int):(scp k c).length = c.length:=List.length_map _
theorem mlp_length (a:Int) (c:List Int):(mlp a c).length = c.length + 1:=by rw [mlp,addp_length,scp_length,List.length_cons]; omega
def prods:List Int → Int → Int
  | [],_=>1
  | a :: as9,x=>(x - a) * prods as9 x
def prodP:List Int → List Int
  | []=>[1]
  | a :: as9=>mlp a (prodP as9)
theorem ev_prodP:∀ (as9:List Int) (x:Int),ev (prodP as9) x = prods as9 x
  | [],x=>by simp [prodP,prods,ev]
  | a :: as9,x=>by rw [prodP,prods,ev_mlp,ev_prodP as9 x]
theorem prodP_length:∀ as9:List Int,(prodP as9).length = as9.length + 1
  | []=>rfl
  | a :: as9=>by rw [prodP,mlp_length,prodP_length as9,List.length_cons]
theorem prods_zero:∀ {as9:List Int} {x:Int},x ∈ as9 → prods as9 x = 0
  | a :: as9,x,h=>by
    rw [prods]
    rcases List.mem_cons.1 h with rfl | h
    · grind
    · rw [prods_zero h]; grind
theorem prods_ne {p:Int} (hp:Prm p):∀ {as9:List Int} {x:Int},(∀ a ∈ as9,¬ p ∣ x - a) → ¬ p ∣ prods as9 x
  | [],x,_=>hp.one
  | a :: as9,x,h=>fun hd=>by
    rw [prods] at hd
    rcases hp.mul _ _ hd with h1 | h1
    · exact h a (.head _) h1
    · exact prods_ne hp (fun b hb=>h b (.tail _ hb)) h1
def lagP (w:Int → Int) (bef:List Int):List (Int × Int) → List Int
  | []=>[]
  | (a,y) :: l=>addp (scp (y * w (prods (bef ++ l.map (·.1)) a)) (prodP (bef ++ l.map (·.1)))) (lagP w (bef ++ [a]) l)
def lag (w:Int → Int) (l:List (Int × Int)) (x:Int):Int:=ev (lagP w [] l) x
theorem lagP_length (w:Int → Int):∀ (l:List (Int × Int)) (bef:List Int),(lagP w bef l).length ≤ bef.length + l.length
  | [],bef=>by simp [lagP]
  | (a,y) :: l,bef=>by
    have h:=lagP_length w l (bef ++ [a])
    rw [lagP,addp_length,scp_length,prodP_length]
    rw [List.length_append,List.length_singleton] at h
    rw [List.length_append,List.length_map,List.length_cons]
    omega
theorem lagP_bef (w:Int → Int):∀ (l:List (Int × Int)) (bef:List Int) (x:Int),x ∈ bef → ev (lagP w bef l) x = 0
  | [],bef,x,_=>by simp [lagP,ev]
  | (a,y) :: l,bef,x,h=>by
    rw [lagP,ev_addp,ev_scp,ev_prodP,prods_zero (List.mem_append_left _ h),lagP_bef w l _ x (List.mem_append_left _ h)]
    grind
theorem lagP_at {p:Int} (hp:Prm p) (w:Int → Int) (hw:∀ d,¬ p ∣ d → p ∣ d * w d - 1):∀ (l:List (Int × Int)) (bef:List Int),(∀ b ∈ bef,∀ s ∈ l,¬ p ∣ s.1 - b) → l.Pairwise (fun s t=>¬ p ∣ t.1 - s.1) → ∀ s ∈ l,p ∣ ev (lagP w bef l) s.1 - s.2
  | (a, y) :: l, bef, hb, hd, s, hs => by
    rw [lagP,ev_addp,ev_scp,ev_prodP]
    rcases List.mem_cons.1 hs with rfl | hs
    · rw [lagP_bef w l (bef ++ [a]) a (List.mem_append_right _ (.head _))]
      have h1:¬ p ∣ prods (bef ++ l.map (·.1)) a:=prods_ne hp fun b hbm=>by
        rcases List.mem_append.1 hbm with h | h
        · exact hb b h (a,y) (.head _)
        · obtain ⟨t,ht,rfl⟩:=List.mem_map.1 h
          intro h2
          have h3:=(List.pairwise_cons.1 hd).1 t ht
          exact h3 (by have:=Int.dvd_neg.2 h2; rwa [Int.neg_sub] at this)
      obtain ⟨k,hk⟩:=hw _ h1
      exact ⟨y * k,by show y * w _ * prods _ a + 0 - y = p * (y * k); grind⟩
    · rw [prods_zero (List.mem_append_right _ (List.mem_map.2 ⟨s,hs,rfl⟩))]
      have h2:=lagP_at hp w hw l (bef ++ [a]) (fun b hbm t ht=>by
        rcases List.mem_append.1 hbm with h | h
        · exact hb b h t (.tail _ ht)
        · rw [List.mem_singleton.1 h]; exact (List.pairwise_cons.1 hd).1 t ht) (List.pairwise_cons.1 hd).2 s hs
      rw [Int.mul_zero,Int.zero_add]
      exact h2
theorem lag_of {p:Int} (hp:Prm p) (w:Int → Int) (hw:∀ d,¬ p ∣ d → p ∣ d * w d - 1) (l:List (Int × Int)) (hd:l.Pairwise (fun s t=>¬ p ∣ t.1 - s.1)) (c:List Int) (hc:c.length ≤ l.length) (hl:∀ s ∈ l,p ∣ ev c s.1 - s.2) (x:Int):p ∣ lag w l x - ev c x:=by
  have h1:∀ x,ev (addp (lagP w [] l) (scp (-1) c)) x = lag w l x - ev c x:=fun x=>by rw [ev_addp,ev_scp,lag]; grind
  have h2:=roots hp (l.map (·.1)) (addp (lagP w [] l) (scp (-1) c)) (by
    have:=lagP_length w l []
    rw [addp_length,scp_length,List.length_map]
    simp only [List.length_nil,Nat.zero_add] at this
    omega) (List.pairwise_map.2 hd) (fun r hr=>by
    obtain ⟨s,hs,rfl⟩:=List.mem_map.1 hr
    rw [h1]
    have h3:=lagP_at hp w hw l [] (fun b hb=>by cases hb) hd s hs
    have h4:=Int.dvd_sub h3 (hl s hs)
    have e:lag w l s.1 - ev c s.1 = ev (lagP w [] l) s.1 - s.2 - (ev c s.1 - s.2):=by rw [lag]; grind
    rw [e]; exact h4)
  rw [← h1]
  exact h2 x
end Poly
end
section
namespace Gf
open Go Eng Poly
abbrev Qi:Int:=2305843009213688669
theorem prmQ:Prm Qi where
  mul a b h:=by
    have hq:(Num.Q:Int) = Qi:=by rw [Qeq]; rfl
    have h1:Num.Q ∣ a.natAbs * b.natAbs:=by
      rw [← Int.natAbs_mul]
      exact Int.ofNat_dvd_left.1 (by rw [hq]; exact h)
    rcases Num.prime_Q.dvd_mul h1 with h2 | h2
    · exact .inl (by rw [← hq]; exact Int.ofNat_dvd_left.2 h2)
    · exact .inr (by rw [← hq]; exact Int.ofNat_dvd_left.2 h2)
  one h:=by have:=Int.le_of_dvd (by decide) h; exact absurd this (by decide)
noncomputable def wQ (d:Int):Int:=((qq (d % Qi).toNat 2305843009213688667:Nat):Int)
theorem wQ_inv (d:Int) (h:¬ Qi ∣ d):Qi ∣ d * wQ d - 1:=by
  have h0:=Int.emod_nonneg d (show Qi ≠ 0 by decide)
  have h1:=Int.emod_lt_of_pos d (show (0:Int) < Qi by decide)
  have hne:d % Qi ≠ 0:=fun e=>h (Int.dvd_of_emod_eq_zero e)
  obtain ⟨r,hr⟩:∃ r:Nat,d % Qi = (r:Int):=⟨(d % Qi).toNat,(Int.toNat_of_nonneg h0).symm⟩
  rw [wQ,hr,Int.toNat_natCast]
  rw [hr] at h0 h1 hne
  have h3:=qq_inv (x:=r) (by omega) (by have:Qi = 2305843009213688669:=rfl; omega)
  obtain ⟨z,hz⟩:∃ z,qq r 2305843009213688667 = z:=⟨_,rfl⟩
  rw [hz] at h3 ⊢
  have h4:=Nat.mod_add_div (r * z) 2305843009213688669
  rw [h3] at h4
  have h5:=Int.mul_ediv_add_emod d Qi
  rw [hr] at h5
  have h6:((r * z:Nat):Int) = 1 + Qi * ((r * z / 2305843009213688669:Nat):Int):=by
    rw [show Qi = 2305843009213688669 from rfl]
    omega
  rw [Int.natCast_mul] at h6
  exact ⟨d / Qi * z + ((r * z / 2305843009213688669:Nat):Int),by
    generalize ((r * z / 2305843009213688669:Nat):Int) = t at h6 ⊢
    generalize d / Qi = u at h5 ⊢
    generalize Qi = q at *
    grind⟩
theorem prods_snoc:∀ (os:List Int) (b x:Int),prods (os ++ [b]) x = prods os x * (x - b)
  | [],b,x=>by show (x - b) * 1 = 1 * (x - b); grind
  | a :: os,b,x=>by
    show (x - a) * prods (os ++ [b]) x = (x - a) * prods os x * (x - b)
    rw [prods_snoc os b x]; grind
theorem ni_snoc (d:List Nat) (b:Nat):ni (d ++ [b]) = ni d ++ [(b:Int)]:=by unfold ni; rw [List.map_append]; rfl
theorem mod_dvd (a:Nat):Qi ∣ ((a % 2305843009213688669:Nat):Int) - (a:Int):=by
  refine ⟨-((a / 2305843009213688669:Nat):Int),?_⟩
  rw [show Qi = 2305843009213688669 from rfl]
  omega
theorem subQ_dvd {x b:Nat} (hb:b < 2305843009213688669):Qi ∣ ((subQ x b:Nat):Int) - ((x:Int) - (b:Int)):=by
  have h:=mod_dvd (x + (2305843009213688669 - b))
  have h2:((x + (2305843009213688669 - b):Nat):Int) = (x:Int) - b + Qi:=by
    have:Qi = 2305843009213688669:=rfl
    omega
  rw [h2] at h
  have h3:=Int.dvd_add h (Int.dvd_refl Qi)
  unfold subQ
  generalize (((x + (2305843009213688669 - b)) % 2305843009213688669:Nat):Int) = s at *
  have e:s - ((x:Int) - b) = s - ((x:Int) - b + Qi) + Qi:=by generalize Qi = q; grind
  rw [e]; exact h3
theorem mul_dvd {a a' b b':Int} (h:Qi ∣ a - a') (h':Qi ∣ b - b'):Qi ∣ a * b - a' * b':=by
  obtain ⟨k,hk⟩:=h
  obtain ⟨m,hm⟩:=h'
  generalize Qi = q at *
  exact ⟨k * b + a' * m,by grind⟩
theorem upQ_dvd (x:Nat):∀ os:List Nat,(∀ b ∈ os,b < 2305843009213688669) → Qi ∣ ((upQ os x:Nat):Int) - prods (ni os) x:=by
  refine rev_ind (fun _=>⟨0,by show ((1:Nat):Int) - 1 = Qi * 0; rfl⟩) fun d b ih h=>?_
  rw [upQ_snoc,ni_snoc,prods_snoc]
  have h1:=mod_dvd (upQ d x * subQ x b)
  rw [Int.natCast_mul] at h1
  have h2:=mul_dvd (ih fun c hc=>h c (List.mem_append_left _ hc)) (subQ_dvd (x:=x) (h b (List.mem_append_right _ (.head _))))
  have h3:=Int.dvd_add h1 h2
  generalize ((upQ d x * subQ x b % 2305843009213688669:Nat):Int) = u at *
  generalize ((upQ d x:Nat):Int) = v at *
  generalize ((subQ x b:Nat):Int) = s at *
  have e:u - prods (ni d) x * ((x:Int) - b) = u - v * s + (v * s - prods (ni d) x * ((x:Int) - b)):=by grind
  rw [e]; exact h3
theorem wQ_up (a:Nat) (ot:List Nat) (h:∀ b ∈ ot,b < 2305843009213688669):wQ (prods (ni ot) a) = ((qq (upQ ot a) 2305843009213688667:Nat):Int):=by
  have h1:=upQ_dvd a ot h
  have h2:=upQ_lt ot a
  obtain ⟨k,hk⟩:=h1
  rw [wQ]
  have e:prods (ni ot) a % Qi = ((upQ ot a:Nat):Int):=by
    rw [show Qi = 2305843009213688669 from rfl] at hk ⊢
    omega
  rw [e,Int.toNat_natCast]
theorem basQ_dvd (a x:Nat) (ot:List Nat) (h:∀ b ∈ ot,b < 2305843009213688669):Qi ∣ ((basQ ot a x:Nat):Int) - wQ (prods (ni ot) a) * prods (ni ot) x:=by
  rw [wQ_up a ot h,basQ]
  have h1:=mod_dvd (upQ ot x * qq (upQ ot a) 2305843009213688667)
  rw [Int.natCast_mul] at h1
  have h2:=mul_dvd (upQ_dvd x ot h) (show Qi ∣ ((qq (upQ ot a) 2305843009213688667:Nat):Int) - ((qq (upQ ot a) 2305843009213688667:Nat):Int) from ⟨0,by rw [Int.sub_self]; rfl⟩)
  have h3:=Int.dvd_add h1 h2
  generalize ((upQ ot x * qq (upQ ot a) 2305843009213688667 % 2305843009213688669:Nat):Int) = u at *
  generalize ((upQ ot x:Nat):Int) = v at *
  generalize ((qq (upQ ot a) 2305843009213688667:Nat):Int) = z at *
  have e:u - z * prods (ni ot) x = u - v * z + (v * z - prods (ni ot) x * z):=by grind
  rw [e]; exact h3
theorem acc_lag (L:List (Nat × Nat)) (x:Nat) (hb:∀ b ∈ pl L,b < 2305843009213688669):∀ (r d:List (Nat × Nat)),L = d ++ r → Qi ∣ ((accQ L x L.length:Nat):Int) - (((accQ L x d.length:Nat):Int) + ev (lagP wQ (ni (pl d)) (sN r)) x)
  | [],d,e=>by
    rw [List.append_nil] at e
    subst e
    exact ⟨0,by show _ - (_ + 0) = _; omega⟩
  | (a,y) :: r,d,e=>by
    have ih:=acc_lag L x hb r (d ++ [(a,y)]) (by rw [e,List.append_assoc]; rfl)
    have hlen:(d ++ [(a,y)]).length = d.length + 1:=by simp
    have e1:(pl L).eraseIdx d.length = pl d ++ pl r:=by
      rw [e]; unfold pl
      rw [List.map_append,List.map_cons,List.eraseIdx_append_of_length_le (by rw [List.length_map]; exact Nat.le_refl _),List.length_map,Nat.sub_self]; rfl
    have e2:(pl L).getD d.length 0 = a:=by
      rw [e]; unfold pl
      rw [List.getD_eq_getElem?_getD,List.map_append,List.getElem?_append_right (by rw [List.length_map]; exact Nat.le_refl _),List.length_map,Nat.sub_self]; rfl
    have e3:(L.getD d.length (0,0)).2 = y:=by
      rw [e,List.getD_eq_getElem?_getD,List.getElem?_append_right (Nat.le_refl _),Nat.sub_self]; rfl
    have hot:∀ b ∈ pl d ++ pl r,b < 2305843009213688669:=fun b hbm=>hb b (by rw [← e1] at hbm; exact List.mem_of_mem_eraseIdx hbm)
    have h1:=basQ_dvd a x (pl d ++ pl r) hot
    have e4:ni (pl d ++ pl r) = ni (pl d) ++ ni (pl r):=by unfold ni; rw [List.map_append]
    have e5:ni (pl (d ++ [(a,y)])) = ni (pl d) ++ [(a:Int)]:=by unfold ni pl; rw [List.map_append,List.map_append]; rfl
    have hacc:accQ L x (d.length + 1) = (accQ L x d.length + basQ (pl d ++ pl r) a x * y % 2305843009213688669) % 2305843009213688669:=by rw [accQ,e1,e2,e3]
    have hlp:ev (lagP wQ (ni (pl d)) (sN ((a,y) :: r))) x = (y:Int) * wQ (prods (ni (pl d ++ pl r)) a) * prods (ni (pl d ++ pl r)) x + ev (lagP wQ (ni (pl d) ++ [(a:Int)]) (sN r)) x:=by
      show ev (lagP wQ (ni (pl d)) (((a:Int),(y:Int)) :: sN r)) x = _
      rw [lagP,ev_addp,ev_scp,ev_prodP,sN_pl,e4]
    rw [hlen,e5,hacc] at ih
    rw [hlp]
    have m1:=mod_dvd (accQ L x d.length + basQ (pl d ++ pl r) a x * y % 2305843009213688669)
    have m2:=mod_dvd (basQ (pl d ++ pl r) a x * y)
    rw [Int.natCast_mul] at m2
    rw [Int.natCast_add] at m1
    obtain ⟨k0,h0⟩:=ih
    obtain ⟨k1,h1⟩:=h1
    obtain ⟨k2,h2⟩:=m1
    obtain ⟨k3,h3⟩:=m2
    generalize (((accQ L x d.length + basQ (pl d ++ pl r) a x * y % 2305843009213688669) % 2305843009213688669:Nat):Int) = A1 at *
    generalize ((basQ (pl d ++ pl r) a x * y % 2305843009213688669:Nat):Int) = B1 at *
    generalize ((basQ (pl d ++ pl r) a x:Nat):Int) = B at *
    generalize ((accQ L x d.length:Nat):Int) = A at *
    generalize ((accQ L x L.length:Nat):Int) = Z at *
    generalize wQ (prods (ni (pl d ++ pl r)) a) = w at *
    generalize prods (ni (pl d ++ pl r)) x = p at *
    generalize ev (lagP wQ (ni (pl d) ++ [(a:Int)]) (sN r)) x = E at *
    generalize (y:Int) = Y at *
    generalize Qi = q at *
    exact ⟨k0 + k2 + k3 + k1 * Y,by grind⟩
theorem valQ_lag (L:List (Nat × Nat)) (x:Nat) (hb:∀ b ∈ pl L,b < 2305843009213688669):Qi ∣ ((valQ L x:Nat):Int) - lag wQ (sN L) x:=by
  have h:=acc_lag L x hb L [] rfl
  have e:(((accQ L x ([]:List (Nat × Nat)).length:Nat):Int) + ev (lagP wQ (ni (pl [])) (sN L)) x) = lag wQ (sN L) x:=by
    show ((0:Nat):Int) + ev (lagP wQ [] (sN L)) x = ev (lagP wQ [] (sN L)) x
    omega
  rw [e] at h
  exact h
end Gf
end
section
namespace Eng
open Go Go.RowKit
section
variable {P:Program} {n:Nat} {D:List Deferred} {W:World} {Bo:List Nat} {F:List (Nat × Value)} {l:SH}
  {d:Option Tmp} {ty:TypeId} {ps:String} {af:Array Edge} {g:Option (Nat × Bool)} {x y:Operand} {ta tb e:TypeId}
theorem run_partA {t:TypeId} [hf:HT P t false] {s by':Nat} [hs:HS P t s by'] {cs:Array Value} {off:Nat} {ys:List Value} (h:(cs.extract off (off + s)).toList = ys) (w:World):(part t cs off).run P w = .ok (.agg ys.toArray) w:=by
  have h':cs.extract off (off + s) = ys.toArray:=by rw [← h,Array.toArray_toList]
  simp [part,run_isAgg hf,run_sizeOf' hs,h']
theorem run_eqI {t:TypeId} [hi:HU P t (.int .i64)] (k:Nat) (z:Int) (w:World):(Op.equalIn (k + 1) t (I z) (I z)).run P w = .ok true w:=by
  have:=run_equalIn_int w k t .i64 .i64 z z hi.h
  simpa using this
end
end Eng
end
section
namespace Eng
open Go Go.RowKit
section
variable {P:Program}
end
end Eng
namespace Go.Proofs.YtegfmbefhpagmaaGreatDoor
open Go Eng Gf
set_option maxRecDepth 100000
end Go.Proofs.YtegfmbefhpagmaaGreatDoor
end
section
namespace Gf
open Go Eng
def hor (cs:List Nat) (x:Nat):Nat:=cs.foldr (fun a y=>(y * x % 2305843009213688669 + a) % 2305843009213688669) 0
theorem hor_lt (cs:List Nat) (x:Nat):hor cs x < 2305843009213688669:=by
  cases cs with
  | nil=>exact Nat.zero_lt_succ _
  | cons a cs=>exact Nat.mod_lt _ (by decide)
theorem hor_drop (cs:List Nat) (x i:Nat) (h:i < cs.length):hor (cs.drop i) x = (hor (cs.drop (i + 1)) x * x % 2305843009213688669 + cs.getD i 0) % 2305843009213688669:=by
  rw [List.drop_eq_getElem_cons h,List.getD_eq_getElem?_getD,List.getElem?_eq_getElem h]; rfl
theorem any_sc (cs:List Nat) (h:∀ a ∈ cs,a < 2305843009213688669):((ni cs).any fun n=>!sc n) = false:=by
  rw [List.any_eq_false]
  intro n hn
  obtain ⟨a,ha,rfl⟩:=List.mem_map.1 hn
  rw [sc_of (h a ha)]; decide
end Gf
namespace Go.Proofs.YtegfmbefhpagmaaGreatDoor
open Go Eng Gf
set_option maxRecDepth 100000
theorem Backward_ok (w:World) (pa:Option Addr) (n pc:Nat):Gives Tryz.prog 141 [.slice pa n pc] w [] (fun y:Nat=>.func (.func 169) #[] #[.pointer (some ⟨y,0,none⟩)]) (fun y=>[.blk y (.cells #[.slice pa n pc] 25 (0,0))]) (fun _=>True):=by
  refine enter Tryz.func141 Tryz.ntmps141 ?_
  refine c_seq<|c_reg<|s_box rfl fun b1=>s_y y_as<|s_nil<|q_then<|c_seq<|c_reg<|s_y y_func<|s_y y_as<|s_nil<|q_then<|c_ret<|?_
  exact ret1 Tryz.results141 rv_t fun w' hw=>⟨b1,trivial,rfl,hw⟩
theorem backward1_ok (w':World) (rc:Loop) (Lp b1:Nat) (pa:Option Addr) (pc:Nat) (q:List Int) (M:Nat → SH) (hs:∀ p ∈ M q.length,p.holds w') (hnd:(keys (M q.length)).Nodup) (hpz:rc.params.size = 2)
    (hL:∀ i,Res.blk Lp (.loop rc) ∈ M i) (h1:∀ i,Res.blk b1 (.cells #[.slice pa q.length pc] 25 (0,0)) ∈ M i) (hrd:∀ i,RdS w' (keys (M q.length)) (M i) pa (is q)) (hl:q.length ≤ 1000000)
    (hround:∀ (i:Nat) (_:i < q.length) (w2:World),St w' (keys (M q.length)) w2 (M (i + 1)) →
      RoundIn (Fw none) 0 Tryz.prog Lp rc.fn ((rc.params.zip #[I i,I (q.getD i 0)]).foldl (fun tmps (t,a)=>tmps.setIfInBounds t a) rc.tmps) rc.assign rc.body w2 fun e' w3=>∃ _:Unit,True ∧ e' = .returned (.bool true) ∧ St w' (keys (M q.length)) w3 (M i)) :
    Calls Tryz.prog 169 #[.func (.yield Lp) #[] #[],.pointer (some ⟨b1,0,none⟩)] w' fun e' w2=>(∃ v,e' = .returned v) ∧ St w' (keys (M q.length)) w2 (M 0):=by
  refine enterL (args:=[.func (.yield Lp) #[] #[],.pointer (some ⟨b1,0,none⟩)]) Tryz.func169 Tryz.ntmps169 hs hnd ?_
  refine c_seq<|c_reg<|s_y (y_ld (b:=b1) (hm:=h1 _) (v:=.slice pa q.length pc))<|s_y y_len<|s_y (y_sub (p:=((q.length:Nat):Int)) (q:=1))<|s_y y_as<|s_nil<|q_then<|c_block<|?_
  refine c_loop (fun j:Nat=>[(0,.func (.yield Lp) #[] #[]),(1,.pointer (some ⟨b1,0,none⟩)),(3,I ((j:Int) - 1))]) M (fun j=>j ≤ q.length) (fun j=>j) q.length (Nat.le_refl _) ⟨rfl,rfl,rfl,trivial⟩ (.refl _) ?_
  intro j hj
  by_cases h0:j = 0
  · subst h0
    refine c_seq<|c_seq<|c_reg<|s_y y_mv<|s_kf (y_geq (p:=((0:Nat):Int) - 1) (q:=0)) (by omega)<|s_nil<|q_then<|c_f<|c_exit<|q_ex<|q_ex<|q_exb<|?_
    exact ret0 Tryz.results169 (fun w2 h2=>⟨⟨_,rfl⟩,h2⟩) _ (.inr rfl)
  · obtain ⟨i,rfl⟩:∃ i,j = i + 1:=⟨j - 1,by omega⟩
    rw [show ((i + 1:Nat):Int) - 1 = ((i:Nat):Int) by omega]
    refine c_seq<|c_seq<|c_reg<|s_y y_mv<|s_kt (y_geq (p:=((i:Nat):Int)) (q:=0)) (by omega)<|s_nil<|q_then<|c_t<|c_skip<|q_then<|c_seq<|c_block<|c_seq<|c_reg<|s_y y_mv<|s_y y_mv<|s_y (y_ld (b:=b1) (hm:=h1 _) (v:=.slice pa q.length pc))<|s_y y_mv<|s_y (y_ixs1 (xs:=is q) (hr:=hrd _) (hl:=by rw [is_length]; omega))<|s_y (y_ldi (i:=i) (q:=q) (hr:=hrd _) (hi:=by omega))<|?_
    refine s_yield2 (L:=Lp) (rc:=rc) (σ:=Unit) (fun _=>.bool true) (fun _=>M i) (fun _=>True) (hL _) hpz (fun w2 h2=>hround i (by omega) w2 h2) (fun _ _=>?_)
    refine s_y (v:=.bool false) (y_not (b:=true))<|s_nil<|q_then<|c_f<|c_skip<|q_nb<|q_then<|c_reg<|s_y y_mv<|s_y (y_sub (p:=((i:Nat):Int)) (q:=1))<|s_y y_as<|s_nil<|?_
    exact q_round i (by omega) (by omega) ⟨rfl,rfl,rfl,trivial⟩ (.refl _)
theorem f_Eval_yes (w:World) (a:Option Addr) (c:Nat) (cs:List Nat) (x:Nat) (hr:Rd w a (is (ni cs))) (hl:cs.length ≤ 1000000) (hcs:∀ b ∈ cs,b < 2305843009213688669) (hx:x < 2305843009213688669) :
    Pure Tryz.prog 84 [.slice a cs.length c,I x] w (.tuple #[I (hor cs x:Nat),I 0]):=by
  have hnl:=ni_length cs
  refine enterM Tryz.func84 Tryz.ntmps84 ?_
  refine c_seq<|c_reg<|s_box rfl fun b3=>s_alloc fun b4=>s_y y_as<|s_nil<|q_then<|c_seq<|c_seq<|c_reg<|s_y (y_ld (b:=b3) (v:=I x))<|s_bslr (cs:=is [(x:Int)]) fun b9=>s_pure (fun w' hw=>(by have h9:=f_outside_ok w' (some ⟨b9,0,none⟩) 1 [(x:Int)] (rdR (.head _) w' hw) (by simp); rw [show ([(x:Int)].any fun n=>!sc n) = false by simp [sc_of hx]] at h9; exact h9))<|s_y y_mv<|s_y y_mv<|s_pure (fun w' hw=>(by have h9:=f_outside_ok w' a c (ni cs) (hr.st hw) (by rw [hnl]; omega); rw [any_sc cs hcs,hnl] at h9; exact h9))<|s_y y_pk<|s_nil<|q_then<|c_f<|c_skip<|q_then<|?_
  refine c_seq<|c_seq<|c_reg<|s_y y_mv<|s_gives (fun w' hw=>Backward_ok w' a cs.length c) (fun b1 _=>s_nil<|q_then<|c_block<|?_)
  let M:Nat → Loop → Nat → Nat → SH:=fun i rc L Dk=>[.blk L (.loop rc),.blk Dk (.deferred (some [])),.blk b1 (.cells #[.slice a cs.length c] 25 (0,0)),.row (some ⟨b9,0,none⟩) 1 3 1 1 (is [(x:Int)]),.blk b4 (.cells #[I (hor (cs.drop i) x:Nat)] 3 (0,0)),.blk b3 (.cells #[I x] 3 (0,0))]
  have hdl:hor (cs.drop cs.length) x = 0:=by rw [List.drop_length]; rfl
  refine c_rangeN (σ:=Unit) (fun _=>[.blk b1 (.cells #[.slice a cs.length c] 25 (0,0)),.row (some ⟨b9,0,none⟩) 1 3 1 1 (is [(x:Int)]),.blk b4 (.cells #[I (hor cs x:Nat)] 3 (0,0)),.blk b3 (.cells #[I x] 3 (0,0))]) (fun _=>True) (fun fn tm Dk L hfr w' hw'=>?_) (fun Dk _ _=>?_)
  rotate_left
  · refine q_nb<|q_then<|c_seq<|c_reg<|s_y (y_ld (b:=b4) (v:=I (hor cs x:Nat)))<|s_st (b:=b4) (v:=I (hor cs x:Nat)) (cs:=#[I (hor cs x:Nat)]) (hl:=Nat.zero_lt_one) ?_
    refine s_y y_as<|s_nil<|q_then<|c_ret<|?_
    exact ret2D Tryz.results84 (.head _) (rv_cf (b:=b4) (v:=I (hor cs x:Nat))) rv_t fun w' hw=>⟨rfl,hw.sub (List.nil_sublist _)⟩
  · have hstart:∀ rc,M cs.length rc L Dk = [.blk L (.loop rc),.blk Dk (.deferred (some [])),.blk b1 (.cells #[.slice a cs.length c] 25 (0,0)),.row (some ⟨b9,0,none⟩) 1 3 1 1 (is [(x:Int)]),.blk b4 (.cells #[I 0] 3 (0,0)),.blk b3 (.cells #[I x] 3 (0,0))]:=fun rc=>by
      show [_,_,_,_,_,_] = _
      rw [hdl]; rfl
    have cvt:∀ rc,St w [] w' [.blk L (.loop rc),.blk Dk (.deferred (some [])),.blk b1 (.cells #[.slice a cs.length c] 25 (0,0)),.row (some ⟨b9,0,none⟩) 1 3 1 1 (is [(x:Int)]),.blk b4 (.cells #[I 0] 3 (0,0)),.blk b3 (.cells #[I x] 3 (0,0))] → St w [] w' (M cs.length rc L Dk):=fun rc h=>by rw [hstart]; exact h
    have hw2:=cvt _ hw'
    have hps9:∀ rc,St w [] w' (M cs.length rc L Dk) → St w [] w' (M (ni cs).length rc L Dk ++ []):=fun rc h=>by rw [List.append_nil,hnl]; exact h
    have hps0:=(hps9 _ hw2).has
    have hb:=backward1_ok w' _ L b1 a c (ni cs) (fun i=>M i _ L Dk) hps0.1 hps0.2 rfl (fun i=>.head _) (fun i=>by rw [hnl]; exact .tail _ (.tail _ (.head _))) (fun i=>by rw [hnl]; exact rdOL hw2 hr) (by rw [hnl]; exact hl) (fun i hi w2 h2=>?_)
    · rw [hnl] at hb
      refine hb.mono fun e' w2 ⟨hv,h2⟩=>⟨hv,(),trivial,by have h9:=hw2.transL (l2:=[]) (by rw [List.append_nil] <;> exact .refl _) h2; rw [List.append_nil] at h9; exact h9⟩
    · rw [hnl] at hi h2 ⊢
      rw [ni_get]
      obtain ⟨b,hb⟩:∃ b,cs.getD i 0 = b:=⟨_,rfl⟩
      have hbq:b < 2305843009213688669:=by
        rw [← hb,List.getD_eq_getElem?_getD,List.getElem?_eq_getElem hi]; exact hcs _ (List.getElem_mem hi)
      have hst:=hor_drop cs x i hi
      rw [hb] at hst ⊢
      have hyq:=hor_lt (cs.drop (i + 1)) x
      have hf9:=((hfr []).put 17 (I (i:Int)) rfl).put 18 (I (b:Int)) rfl
      refine round_ok (F1:=[(3,.pointer (some ⟨b3,0,none⟩)),(4,.pointer (some ⟨b4,0,none⟩)),(7,I b)]) h2 hf9 (by simp [Act.put]) (by rfl) (.head _) (l1:=M (i + 1) _ L Dk) ?_ ?_
      · refine c_reg<|s_y y_as<|s_nil<|q_join ⟨rfl,rfl,rfl,trivial⟩ (List.Sublist.refl _)
      · refine c_block<|c_reg<|s_y (y_ld (b:=b4) (v:=I (hor (cs.drop (i + 1)) x:Nat)))<|s_y (y_ld (b:=b3) (v:=I x))<|s_pure (fun w3 h3=>f_product_ok w3 (hor (cs.drop (i + 1)) x) x hyq hx)<|s_y y_mv<|s_y (y_add (p:=((hor (cs.drop (i + 1)) x * x % 2305843009213688669:Nat):Int)) (q:=(b:Int)))<|s_y (y_rem (p:=((hor (cs.drop (i + 1)) x * x % 2305843009213688669:Nat):Int) + (b:Int)) (q:=2305843009213688669))<|?_
        rw [show (((hor (cs.drop (i + 1)) x * x % 2305843009213688669:Nat):Int) + (b:Int)) % 2305843009213688669 = ((hor (cs.drop i) x:Nat):Int) by rw [hst]; omega]
        refine s_st (b:=b4) (v:=I (hor (cs.drop i) x:Nat)) (cs:=#[I (hor (cs.drop (i + 1)) x:Nat)]) (hl:=Nat.zero_lt_one) ?_
        exact s_nil<|q_nb<|q_rn (.head _) fun w3 h3=>⟨(),trivial,rfl,h3⟩
end Go.Proofs.YtegfmbefhpagmaaGreatDoor
end
section
namespace Go.Proofs.YtegfmbefhpagmaaGreatDoor
open Go Eng Gf Cod Sha
abbrev lbShare:List UInt8:=[115,104,97,114,101]
def cof (k:List UInt8) (x:Nat) (n:Nat):List Nat:=x :: (List.range n).map fun i=>dscal (expand k lbShare [((i + 1:Nat):Int)]) lbShare
def spl (cs:List Nat) (many:Nat):List (Nat × Nat):=(List.range many).map fun i=>(i + 1,hor cs (i + 1))
theorem cof_length (k:List UInt8) (x n:Nat):(cof k x n).length = n + 1:=by simp [cof]
theorem cof_succ (k:List UInt8) (x n:Nat):cof k x (n + 1) = cof k x n ++ [dscal (expand k lbShare [((n + 1:Nat):Int)]) lbShare]:=by simp [cof,List.range_succ]
theorem cof_lt (k:List UInt8) {x:Nat} (hx:x < 2305843009213688669) (n:Nat):∀ b ∈ cof k x n,b < 2305843009213688669:=by
  intro b hb
  rcases List.mem_cons.1 hb with rfl | hb
  · exact hx
  · obtain ⟨i,_,rfl⟩:=List.mem_map.1 hb
    exact (scal_lt _ _).2
theorem spl_length (cs:List Nat) (m:Nat):(spl cs m).length = m:=by simp [spl]
theorem spl_succ (cs:List Nat) (m:Nat):spl cs (m + 1) = spl cs m ++ [(m + 1,hor cs (m + 1))]:=by simp [spl,List.range_succ]
theorem ni_append (a b:List Nat):ni (a ++ b) = ni a ++ ni b:=by unfold ni; exact List.map_append
theorem sN_append (a b:List (Nat × Nat)):sN (a ++ b) = sN a ++ sN b:=by unfold sN; exact List.map_append
end Go.Proofs.YtegfmbefhpagmaaGreatDoor
namespace Go.Proofs.YtegfmbefhpagmaaGreatDoor
open Go Eng Gf Cod Sha
set_option maxRecDepth 100000
theorem y_bshr {n:Nat} {D:List Deferred} {W:World} {Bo:List Nat} {F:List (Nat × Value)} {l:SH} {d:Option Tmp} {ty:TypeId} {ps:String} {af:Array Edge} {g:Option (Nat × Bool)} {parts:Array (Nat × Operand)} {vs:List (Nat × Value)} {cs:List Value}
    (hp:evP F parts.toList = some vs:=by rfl) (hf:fillL (fun i=>(#[(0,1),(1,1)]:Array (Nat × Nat))[i]?) [I 0,I 0] vs = some cs:=by rfl) :
    Y Tryz.prog n D W Bo ⟨d,.build 62 parts,ty,ps,af,g⟩ F l (.agg cs.toArray) :=
  y_blds Tryz.underlying62 (fun w=>by kernel_rfl) hp hf
theorem s_Split_yes (w:World) (x n m:Nat) (k:List UInt8) (hk:k.length = 32) (hg:LS w) (hx:x < 2305843009213688669) (hn:n + 1 ≤ m) (hm:m ≤ 64) :
    Gives Tryz.prog 21 [I x,I (n + 1:Nat),I m,.agg (bs k).toArray] w [] (fun y:Option Addr × Nat=>.tuple #[.slice y.1 m y.2,I 0]) (fun y=>[.row y.1 y.2 62 2 m (shc (sN (spl (cof k x n) m)))]) (fun _=>True):=by
  have hs32:(bs k).toArray.size = 32:=by simp [bs_length,hk]
  refine enter Tryz.func21 Tryz.ntmps21 ?_
  refine c_seq<|c_reg<|s_box rfl fun b7=>s_y y_as<|s_y y_as<|s_nil<|q_then<|c_seq<|c_seq<|c_reg<|s_y y_mv<|s_pure (fun w' hw=>(by have h9:=isScalar_ok w' (x:Int); rw [sc_of hx] at h9; exact h9))<|s_y (v:=.bool false) (y_not (b:=true))<|s_nil<|q_then<|c_f<|c_skip<|q_then<|?_
  refine c_seq<|c_seq<|c_reg<|s_y y_mv<|s_kf (y_lss (p:=((n + 1:Nat):Int)) (q:=1)) (by omega)<|s_y y_mv<|s_y y_mv<|s_y y_mv<|s_kf (y_gtr (p:=((n + 1:Nat):Int)) (q:=((m:Nat):Int))) (by omega)<|s_y y_pk<|s_y y_mv<|s_y y_mv<|s_kf (y_gtr (p:=((m:Nat):Int)) (q:=64)) (by omega)<|s_y y_pk<|s_nil<|q_then<|c_f<|c_skip<|q_then<|?_
  refine c_seq<|c_reg<|s_y y_mv<|s_bslr (cs:=is (ni (cof k x 0))) fun b30=>s_y y_as<|s_nil<|q_then<|c_seq<|c_seq<|c_reg<|s_y y_as<|s_nil<|q_then<|c_block<|?_
  refine c_loop3 (fun (j:Nat) (a':Option Addr) (c':Nat)=>[(1,I (n + 1:Nat)),(2,I m),(7,.pointer (some ⟨b7,0,none⟩)),(8,.slice none 0 0),(10,.slice a' (j + 1) c'),(11,I (j + 1:Nat))]) (fun j a' c'=>[.row a' c' 3 1 (j + 1) (is (ni (cof k x j))),.blk b7 (.cells (bs k).toArray 23 (0,0))]) (fun j _ _=>j ≤ n) (fun j _ _=>n - j) 0 (some ⟨b30,0,none⟩) 1 (Nat.zero_le _) ⟨rfl,rfl,rfl,rfl,rfl,rfl,trivial⟩ (.refl _) ?_
  intro j a' c' hj
  by_cases hjn:j < n
  · refine c_seq<|c_seq<|c_reg<|s_y y_mv<|s_y y_mv<|s_kt (y_lss (p:=((j + 1:Nat):Int)) (q:=((n + 1:Nat):Int))) (by omega)<|s_nil<|q_then<|c_t<|c_skip<|q_then<|c_seq<|c_block<|c_reg<|s_y y_mv<|s_y (y_lda (b:=b7) (cs:=(bs k).toArray) (hl:=hs32))<|s_y y_mv<|s_bslr (cs:=is [((j + 1:Nat):Int)]) fun b39=>s_pure (fun w' hw=>derive_Expand_ok w' k lbShare (some ⟨b39,0,none⟩) 1 [((j + 1:Nat):Int)] (hg.st hw) hk (rdR (.head _) w' hw) (by intro z hz; rw [List.mem_singleton.1 hz]; unfold R64; omega) (by decide) (by simp))<|s_pure (fun w' hw=>derive_Scalar_ok w' (expand k lbShare [((j + 1:Nat):Int)]) lbShare (hg.st hw) (expand_length _ _ _) (by decide))<|s_bslr (cs:=is (ni [dscal (expand k lbShare [((j + 1:Nat):Int)]) lbShare])) fun b42=>s_app (m:=1) (fun w' hw=>Src.slice (rdR (.head _) w' hw) rfl) (h1:=fun v hv=>by simp [is,ni] at hv; subst hv; rfl) (hm:=.tail _ (.tail _ (.head _))) (hrep:=fun _ _=>.tail _ (.tail _ (.head _))) fun a43 c43 h43=>?_
    rw [← Eng.is_append,← ni_append,← cof_succ]
    refine s_y y_as<|s_nil<|q_nb<|q_then<|c_reg<|s_y y_mv<|s_y (y_add (p:=((j + 1:Nat):Int)) (q:=1))<|s_y y_as<|s_nil<|?_
    rw [show ((j + 1:Nat):Int) + 1 = ((j + 1 + 1:Nat):Int) by omega]
    exact q_round3 (x:=j) (y:=a') (z:=c') (j + 1) a43 c43 hjn (by omega) ⟨rfl,rfl,rfl,rfl,rfl,rfl,trivial⟩ (.cons _ (.cons _ (.refl _)))
  obtain rfl:j = n:=by omega
  refine c_seq<|c_seq<|c_reg<|s_y y_mv<|s_y y_mv<|s_kf (y_lss (p:=((j + 1:Nat):Int)) (q:=((j + 1:Nat):Int))) (by omega)<|s_nil<|q_then<|c_f<|c_exit<|q_ex<|q_ex<|q_exb<|q_then<|?_
  refine c_seq<|c_seq<|c_reg<|s_y y_as<|s_nil<|q_then<|c_nilrow 62 2<|c_block<|?_
  refine c_loop3 (fun (i:Nat) (a2:Option Addr) (c2:Nat)=>[(2,I m),(8,.slice a2 i c2),(10,.slice a' (j + 1) c'),(12,I (i + 1:Nat))]) (fun i a2 c2=>[.row a2 c2 62 2 i (shc (sN (spl (cof k x j) i))),.row a' c' 3 1 (j + 1) (is (ni (cof k x j)))]) (fun i _ _=>i ≤ m) (fun i _ _=>m - i) 0 none 0 (Nat.zero_le _) ⟨rfl,rfl,rfl,rfl,trivial⟩ (.cons_cons _ (.cons_cons _ (List.nil_sublist _))) ?_
  intro i a2 c2 hi
  by_cases him:i < m
  · have hcl:=cof_length k x j
    refine c_seq<|c_seq<|c_reg<|s_y y_mv<|s_y y_mv<|s_kt (y_leq (p:=((i + 1:Nat):Int)) (q:=((m:Nat):Int))) (by omega)<|s_nil<|q_then<|c_t<|c_skip<|q_then<|c_seq<|c_block<|c_seq<|c_reg<|s_y y_mv<|s_y y_mv<|s_pure (fun w' hw=>by
      have h9:=f_Eval_yes w' a' c' (cof k x j) (i + 1) (rdR (.tail _ (.head _)) w' hw) (by rw [hcl]; omega) (cof_lt k hx j) (by omega)
      rw [hcl] at h9
      exact h9)<|s_y y_mv<|s_y y_ext<|s_y y_ext<|s_y y_as<|s_y y_as<|s_nil<|q_then<|?_
    refine c_reg<|s_y y_mv<|s_y y_mv<|s_y y_mv<|s_y (y_bshr (cs:=[I (i + 1:Nat),I (hor (cof k x j) (i + 1):Nat)]))<|s_bslr (cs:=shc (sN [(i + 1,hor (cof k x j) (i + 1))])) fun b59=>s_app (m:=1) (fun w' hw=>Src.slice (rdR (.head _) w' hw) rfl) (h1:=fun v hv=>by simp [shc,sN] at hv; rcases hv with rfl | rfl <;> rfl) (hm:=.tail _ (.head _)) (hrep:=fun _ _=>.tail _ (.head _)) fun a60 c60 h60=>?_
    rw [← shc_append,← sN_append,← spl_succ]
    refine s_y y_as<|s_nil<|q_nb<|q_then<|c_reg<|s_y y_mv<|s_y (y_add (p:=((i + 1:Nat):Int)) (q:=1))<|s_y y_as<|s_nil<|?_
    rw [show ((i + 1:Nat):Int) + 1 = ((i + 1 + 1:Nat):Int) by omega]
    exact q_round3 (x:=i) (y:=a2) (z:=c2) (i + 1) a60 c60 him (by omega) ⟨rfl,rfl,rfl,rfl,trivial⟩ (.cons _ (.refl _))
  · obtain rfl:i = m:=by omega
    refine c_seq<|c_seq<|c_reg<|s_y y_mv<|s_y y_mv<|s_kf (y_leq (p:=((i + 1:Nat):Int)) (q:=((i:Nat):Int))) (by omega)<|s_nil<|q_then<|c_f<|c_exit<|q_ex<|q_ex<|q_exb<|q_then<|c_seq<|c_reg<|s_y y_mv<|s_y y_as<|s_y y_as<|s_nil<|q_then<|c_ret<|?_
    exact ret2 Tryz.results21 rv_t rv_t fun w' hw=>⟨(a2,c2),trivial,rfl,hw.sub (.cons_cons _ (List.nil_sublist _))⟩
end Go.Proofs.YtegfmbefhpagmaaGreatDoor
end
section
namespace Gf
open Go Eng Poly
theorem hor_ev (x:Nat):∀ cs:List Nat,Qi ∣ ((hor cs x:Nat):Int) - ev (ni cs) x
  | []=>⟨0,rfl⟩
  | a :: cs=>by
    have ih:=hor_ev x cs
    have m1:=mod_dvd (hor cs x * x % 2305843009213688669 + a)
    have m2:=mod_dvd (hor cs x * x)
    rw [Int.natCast_add] at m1
    rw [Int.natCast_mul] at m2
    have e:hor (a :: cs) x = (hor cs x * x % 2305843009213688669 + a) % 2305843009213688669:=rfl
    have e2:ev (ni (a :: cs)) x = (a:Int) + x * ev (ni cs) x:=rfl
    rw [e,e2]
    obtain ⟨k0,h0⟩:=ih
    obtain ⟨k1,h1⟩:=m1
    obtain ⟨k2,h2⟩:=m2
    generalize (((hor cs x * x % 2305843009213688669 + a) % 2305843009213688669:Nat):Int) = A at *
    generalize ((hor cs x * x % 2305843009213688669:Nat):Int) = B at *
    generalize ((hor cs x:Nat):Int) = H at *
    generalize ev (ni cs) x = E at *
    generalize (x:Int) = X at *
    generalize (a:Int) = Y at *
    generalize Qi = q at *
    exact ⟨k1 + k2 + k0 * X,by grind⟩
theorem accQ_lt' (l:List (Nat × Nat)) (x:Nat):valQ l x < 2305843009213688669:=accQ_lt l x l.length
theorem eq_of_dvd {a b:Nat} (ha:a < 2305843009213688669) (hb:b < 2305843009213688669) (h:Qi ∣ (a:Int) - (b:Int)):a = b:=by
  obtain ⟨k,hk⟩:=h
  rw [show Qi = 2305843009213688669 from rfl] at hk
  omega
theorem Vld.sep {l:List (Nat × Nat)} (hv:Vld l):(sN l).Pairwise (fun s t=>¬ Qi ∣ t.1 - s.1):=by
  unfold sN
  refine List.pairwise_map.2 (hv.up.imp_of_mem fun {s t} hs ht h=>?_)
  have h1:=hv.at' s hs
  have h2:=hv.at' t ht
  rintro ⟨k,hk⟩
  rw [show Qi = 2305843009213688669 from rfl] at hk
  simp only at hk
  omega
theorem Vld.plq {l:List (Nat × Nat)} (hv:Vld l):∀ b ∈ pl l,b < 2305843009213688669:=fun b hb=>by
  obtain ⟨s,hs,rfl⟩:=List.mem_map.1 hb
  have:=hv.at' s hs
  omega
theorem valQ_hor {l:List (Nat × Nat)} (hv:Vld l) (cs:List Nat) (hc:cs.length ≤ l.length) (hy:∀ s ∈ l,s.2 = hor cs s.1) (x:Nat):valQ l x = hor cs x:=by
  refine eq_of_dvd (accQ_lt' l x) (hor_lt cs x) ?_
  have h1:=valQ_lag l x hv.plq
  have h2:=lag_of prmQ wQ wQ_inv (sN l) hv.sep (ni cs) (by rw [ni_length,sN_length]; exact hc) (fun s hs=>by
    obtain ⟨t,ht,rfl⟩:=List.mem_map.1 hs
    have h3:=hor_ev t.1 cs
    rw [← hy t ht] at h3
    have h4:=Int.dvd_neg.2 h3
    rwa [Int.neg_sub] at h4) (x:Int)
  have h3:=hor_ev x cs
  obtain ⟨k1,h1⟩:=h1
  obtain ⟨k2,h2⟩:=h2
  obtain ⟨k3,h3⟩:=h3
  exact ⟨k1 + k2 - k3,by
    generalize ((valQ l x:Nat):Int) = A at *
    generalize ((hor cs x:Nat):Int) = B at *
    generalize lag wQ (sN l) x = C at *
    generalize ev (ni cs) x = E at *
    generalize Qi = q at *
    grind⟩
theorem hor_zero (a:Nat) (cs:List Nat) (h:a < 2305843009213688669):hor (a :: cs) 0 = a:=by
  show (hor cs 0 * 0 % 2305843009213688669 + a) % 2305843009213688669 = a
  rw [Nat.mul_zero,Nat.zero_mod,Nat.zero_add,Nat.mod_eq_of_lt h]
end Gf
end
section
namespace Cod
open Go Eng
abbrev vI (n:Int):V:=.mk 1 n [] []
abbrev vL (l:List V):V:=.mk 3 0 [] l
def fcell (v:V):List Value:=[I v.k,I v.n,.string (sb v.s),.slice none 0 0]
def fcells (l:List V):List Value:=l.flatMap fcell
theorem fcell_length (v:V):(fcell v).length = 4:=rfl
theorem fcells_length:∀ l:List V,(fcells l).length = l.length * 4
  | []=>rfl
  | v :: l=>by
    show (fcell v ++ fcells l).length = _
    rw [List.length_append,fcell_length,fcells_length l,List.length_cons]; omega
theorem fcells_cons (v:V) (l:List V):fcells (v :: l) = fcell v ++ fcells l:=rfl
theorem fcells_append (l m:List V):fcells (l ++ m) = fcells l ++ fcells m:=by unfold fcells; rw [List.flatMap_append]
theorem fcells_at:∀ (l:List V) (i:Nat) (h:i < l.length),((fcells l).drop (i * 4)).take 4 = fcell l[i]
  | v :: l,0,_=>by rw [fcells_cons,Nat.zero_mul,List.drop_zero]; rfl
  | v :: l,i + 1,h=>by
    rw [fcells_cons,show (i + 1) * 4 = 4 + i * 4 by omega,← List.drop_drop]
    show (((fcell v ++ fcells l).drop (fcell v).length).drop (i * 4)).take 4 = _
    rw [List.drop_left,fcells_at l i (Nat.lt_of_succ_lt_succ h)]; rfl
/-- a number or a text -/
structure Flat (v:V):Prop where
  nil:v.l = []
  r:R64 v.n
  s:v.s.length < 1152921504606846976
theorem Flat.vv {v:V} (h:Flat v) (w:World):Vv w v (.agg (fcell v).toArray):=by
  obtain ⟨k,n,s,l⟩:=v
  obtain rfl:l = []:=h.nil
  rw [Vv]
  exact ⟨none,0,[],rfl,h.r,⟨h.s,by show (0:Nat) < _; decide⟩,Rd.nil _ _,rfl,fun i=>i.elim0⟩
theorem flat_I {n:Int} (h:R64 n):Flat (vI n):=⟨rfl,h,by show (0:Nat) < _; decide⟩
theorem R64_0:R64 0:=⟨by decide,by decide⟩
theorem vL_vv {w:World} {a:Option Addr} {c:Nat} {l:List V} (hr:Rd w a (fcells l)) (hf:∀ v ∈ l,Flat v) (hl:l.length < 1152921504606846976):Vv w (vL l) (.agg #[I 3,I 0,.string (sb []),.slice a l.length c]):=by
  rw [Vv]
  refine ⟨a,c,fcells l,rfl,R64_0,⟨by show (0:Nat) < _; decide,hl⟩,hr,fcells_length l,fun i=>?_⟩
  rw [fcells_at l i.val i.isLt]
  exact (hf _ (List.getElem_mem i.isLt)).vv w
end Cod
end
section
namespace Eng
open Go Go.RowKit
section
variable {r:Option Nat} {P:Program} {n:Nat} {D:List Deferred} {W:World} {Bo:List Nat} {F:List (Nat × Value)} {l l':SH}
  {Q:Exit → Act → World → Prop} {ops:Array Oper} {rest:List Oper}
theorem c_regGB [hm:HM P] (lp:SH) (hlp:lp.Sublist l) (f:Nat) {id:Nat} {os:List Oper} (h:DF P n D W Bo os.toArray Q lp f os.length (Array.replicate os.length false) F l) (hs:Region.noSelect os.toArray = true:=by kernel_rfl) :
    CP none P n D W Bo (.region id os.toArray true) Q F l:=by
  intro a w ha hw
  have h1:=(h hs a w.drew ha hw.drew).any
  have h2:(Code.region id os.toArray true).wpIn (Fw none) 0 P (Q0 Q) a w:=wpIn_region_any hm.h (by simpa using h1)
  exact wpIn_mono h2 fun e a w hq=>by obtain ⟨rfl,hq⟩:=hq; exact hq
theorem f_kkB {lp:SH} {f fuel:Nat} {listed:Array Bool} (h:DF P n D W Bo ops Q lp f fuel listed F l) (hs:Region.noSelect ops = true:=by kernel_rfl):LP none P n D W Bo ops (QF P W Bo ops Q lp f fuel listed) [] F l :=
  s_nil fun a w ha hw=>⟨rfl,h hs a w ha hw⟩
end
theorem r_w3B {P:Program} {n:Nat} {D:List Deferred} {W:World} {Bo:List Nat} {F:List (Nat × Value)} {l lp:SH} {ops:Array Oper} {Q:Exit → Act → World → Prop} {fuel:Nat} {listed:Array Bool}
    {o o2 o3:Oper} (i j k:Nat) (hi:ops[i]? = some o) (hj:ops[j]? = some o2) (hk:ops[k]? = some o3) (h:LP none P n D W Bo ops (QK P W Bo ops Q lp fuel (listed.setIfInBounds i true)) [o] F l)
    (h2:LP none P n D W Bo ops (QK P W Bo ops Q lp fuel (listed.setIfInBounds j true)) [o2] F l) (h3:LP none P n D W Bo ops (QK P W Bo ops Q lp fuel (listed.setIfInBounds k true)) [o3] F l)
    (hr:Region.ready .any ops listed = [i,j,k]:=by kernel_rfl) (hsub:lp.Sublist l:=by repeat (first | exact List.nil_sublist _ | exact List.Sublist.refl _ | apply List.Sublist.cons_cons | apply List.Sublist.cons)) :
    DC P n D W Bo ops Q lp (fuel + 1) listed F l:=by
  intro hs a w ha hw
  unfold AnyC
  refine ⟨hw.sub hsub,fun h0=>absurd (hr ▸ h0) (by simp),fun m hm=>?_⟩
  rw [hr] at hm
  rcases List.mem_cons.1 hm with rfl | hm
  · exact r_op hi (h a w ha hw)
  rcases List.mem_cons.1 hm with rfl | hm
  · exact r_op hj (h2 a w ha hw)
  · rw [List.mem_singleton] at hm
    subst hm
    exact r_op hk (h3 a w ha hw)
end Eng
end
section
namespace Cod
open Go Eng
def ivE (ns:List Int):List UInt8:=(vL (ns.map vI)).enc
theorem iv_ok (ns:List Int):okL (ns.map vI) = true ∧ depL (ns.map vI) = 0:=okL_ints ns
theorem iv_dep (ns:List Int):(vL (ns.map vI)).dep = 1:=by rw [V.dep,if_pos rfl,(iv_ok ns).2]
theorem iv_chk (ns:List Int):(vL (ns.map vI)).chk = 0:=by
  have h1:(vL (ns.map vI)).ok = true:=by rw [V.ok,(iv_ok ns).1]; simp
  rw [V.chk,if_pos h1,iv_dep]; rfl
theorem iv_encd (ns:List Int):(vL (ns.map vI)).encd = ivE ns:=by rw [V.encd,if_pos (iv_chk ns)]; rfl
theorem iv_len {ns:List Int} (h:∀ n ∈ ns,R64 n) (hl:ns.length ≤ 1000):(ivE ns).length ≤ 20000:=by
  have h1:(encL (ns.map vI)).length ≤ ns.length * 11:=encL_ints ns h
  have h2:=Go.Proofs.YtegfmbefhpagmaaGreatDoor.num_le (u:=(ns.map vI).length) (by rw [List.length_map]; omega)
  rw [ivE,V.enc,if_neg (by decide),if_neg (by decide),List.length_cons,List.length_append]
  omega
end Cod
namespace Go.Proofs.YtegfmbefhpagmaaGreatDoor
open Go Eng Cod
theorem iv_vv {w:World} {a:Option Addr} {c:Nat} {ns:List Int} (hr:Rd w a (fcells (ns.map vI))) (hns:∀ n ∈ ns,R64 n) (hl:ns.length ≤ 1000):Vv w (vL (ns.map vI)) (.agg #[I 3,I 0,.string (sb []),.slice a ns.length c]):=by
  have h9:=vL_vv (c:=c) hr (fun v hv=>by obtain ⟨n,hn,rfl⟩:=List.mem_map.1 hv; exact flat_I (hns n hn)) (by rw [List.length_map]; omega)
  rw [List.length_map] at h9
  exact h9
theorem Encode_iv (w:World) (ns:List Int) (a:Option Addr) (c:Nat) (hns:∀ n ∈ ns,R64 n) (hl:ns.length ≤ 1000) (hr:Rd w a (fcells (ns.map vI))) :
    Gives Tryz.prog 85 [.agg #[I 3,I 0,.string (sb []),.slice a ns.length c]] w [] (fun x:Option Addr × Nat=>.tuple #[.slice x.1 (ivE ns).length x.2,I 0]) (fun x=>[.row x.1 x.2 5 1 (ivE ns).length (bs (ivE ns))]) (fun _=>True):=by
  have h:=codec_Encode_ok w (vL (ns.map vI)) _ (iv_vv (c:=c) hr hns hl) (by rw [iv_dep]; decide) (Nat.le_trans (iv_len hns hl) (by decide))
  rw [iv_chk,iv_encd] at h
  exact h
theorem iv_step {ns:List Int} {k:Nat} {z:Int} (hz:ns[k]? = some z):fcells ((ns.take (k + 1)).map vI) = fcells ((ns.take k).map vI) ++ [I 1,I z,.string (sb []),.slice none 0 0]:=by
  rw [List.take_add_one,hz,List.map_append,fcells_append]; rfl
theorem EncodeN_iv (w:World) (ns:List Int) (n:Nat) (a:Option Addr) (c:Nat) (hn:ns.length = n) (hns:∀ n ∈ ns,R64 n) (hl:ns.length ≤ 1000) (hr:Rd w a (fcells (ns.map vI))) :
    Gives Tryz.prog 85 [.agg #[I 3,I 0,.string (sb []),.slice a n c]] w [] (fun x:Option Addr × Nat=>.tuple #[.slice x.1 (ivE ns).length x.2,I 0]) (fun x=>[.row x.1 x.2 5 1 (ivE ns).length (bs (ivE ns))]) (fun _=>True):=by
  subst hn; exact Encode_iv w ns a c hns hl hr
end Go.Proofs.YtegfmbefhpagmaaGreatDoor
end
section
namespace Rst
open Go Eng Gf Sha Sig Wr Cod Cha Go.Proofs.YtegfmbefhpagmaaGreatDoor
structure Pn where
  id:Int
  rk:Int
  gs:List Int
  need:Int
  cool:Int
/-- an approval: the bytes of the wrap, and where they lie -/
structure Ap where
  g:Int
  u:Int
  a:Option Addr
  c:Nat
  q:List UInt8
  r:Int
  s:Int
structure Vt where
  d:Int
  no:Int
  r:Int
  s:Int
structure Cs where
  p:Int
  d:Int
  v:Int
  l:Int
  st:Int
  ap:List Ap
  vt:List Vt
structure Ls where
  d:Int
  v:Int
  l:Int
  ver:Int
  gone:Bool
instance:Inhabited Ap:=⟨⟨0,0,none,0,[],0,0⟩⟩
instance:Inhabited Vt:=⟨⟨0,0,0,0⟩⟩
instance:Inhabited Ls:=⟨⟨0,0,0,0,false⟩⟩
def Ls.cell (x:Ls):List Value:=[I x.d,I x.v,I x.l,I x.ver,.bool x.gone]
def lsc (l:List Ls):List Value:=l.flatMap Ls.cell
def Ap.cell (x:Ap):List Value:=[I x.g,I x.u,.slice x.a x.q.length x.c,I x.r,I x.s]
def Vt.cell (x:Vt):List Value:=[I x.d,I x.no,I x.r,I x.s]
def apc (l:List Ap):List Value:=l.flatMap Ap.cell
def vtc (l:List Vt):List Value:=l.flatMap Vt.cell
theorem flat_len {α:Type} {f:α → List Value} {m:Nat} (hf:∀ x,(f x).length = m):∀ l:List α,(l.flatMap f).length = l.length * m
  | []=>by simp
  | x :: l=>by rw [List.flatMap_cons,List.length_append,flat_len hf l,hf,List.length_cons,Nat.add_mul]; omega
theorem flat_mid {α:Type} {f:α → List Value} {m:Nat} (hf:∀ x,(f x).length = m) {l:List α} {i:Nat} {x:α} (hx:l[i]? = some x) {j:Nat} {v:Value} (hv:(f x)[j]? = some v):(l.flatMap f)[i * m + j]? = some v:=by
  obtain ⟨hi,rfl⟩:=List.getElem?_eq_some_iff.1 hx
  have e:l = l.take i ++ l[i] :: l.drop (i + 1):=by rw [List.getElem_cons_drop,List.take_append_drop]
  have hj:j < m:=by have:=(List.getElem?_eq_some_iff.1 hv).1; rwa [hf] at this
  have ht:((l.take i).flatMap f).length = i * m:=by rw [flat_len hf,List.length_take,Nat.min_eq_left (Nat.le_of_lt hi)]
  rw [show l.flatMap f = (l.take i).flatMap f ++ (f l[i] ++ (l.drop (i + 1)).flatMap f) by
    conv=>lhs; rw [e]
    rw [List.flatMap_append,List.flatMap_cons]]
  rw [List.getElem?_append_right (by omega),ht,Nat.add_sub_cancel_left,List.getElem?_append_left (by rw [hf]; exact hj)]
  exact hv
theorem apc_length (l:List Ap):(apc l).length = l.length * 5:=flat_len (f:=Ap.cell) (m:=5) (fun _=>rfl) l
theorem vtc_length (l:List Vt):(vtc l).length = l.length * 4:=flat_len (f:=Vt.cell) (m:=4) (fun _=>rfl) l
theorem lsc_length (l:List Ls):(lsc l).length = l.length * 5:=flat_len (f:=Ls.cell) (m:=5) (fun _=>rfl) l
theorem lsc_at {l:List Ls} {i:Nat} {x:Ls} (hx:l[i]? = some x) {j:Nat} {v:Value} (hv:x.cell[j]? = some v):(lsc l)[i * 5 + j]? = some v:=flat_mid (f:=Ls.cell) (m:=5) (fun _=>rfl) hx hv
theorem apc_append (a b:List Ap):apc (a ++ b) = apc a ++ apc b:=List.flatMap_append
theorem vtc_append (a b:List Vt):vtc (a ++ b) = vtc a ++ vtc b:=List.flatMap_append
theorem apc_at {l:List Ap} {i:Nat} {x:Ap} (hx:l[i]? = some x) {j:Nat} {v:Value} (hv:x.cell[j]? = some v):(apc l)[i * 5 + j]? = some v:=flat_mid (f:=Ap.cell) (m:=5) (fun _=>rfl) hx hv
theorem vtc_at {l:List Vt} {i:Nat} {x:Vt} (hx:l[i]? = some x) {j:Nat} {v:Value} (hv:x.cell[j]? = some v):(vtc l)[i * 4 + j]? = some v:=flat_mid (f:=Vt.cell) (m:=4) (fun _=>rfl) hx hv
theorem ap_one (l:List Ap):∀ v ∈ apc l,v.oneCell' = true:=fun v hv=>by
  obtain ⟨x,_,hx⟩:=List.mem_flatMap.1 hv
  simp only [Ap.cell,List.mem_cons,List.not_mem_nil,or_false] at hx
  rcases hx with rfl | rfl | rfl | rfl | rfl <;> rfl
theorem vt_one (l:List Vt):∀ v ∈ vtc l,v.oneCell' = true:=fun v hv=>by
  obtain ⟨x,_,hx⟩:=List.mem_flatMap.1 hv
  simp only [Vt.cell,List.mem_cons,List.not_mem_nil,or_false] at hx
  rcases hx with rfl | rfl | rfl | rfl <;> rfl
def ApOk (w:World) (l:List Ap):Prop:=∀ x ∈ l,Rd w x.a (bs x.q) ∧ x.q.length ≤ 100000
theorem ApOk.st {W w:World} {l:List Ap} {ps:SH} (h:ApOk W l) (hs:St W [] w ps):ApOk w l:=fun x hx=>⟨(h x hx).1.st hs,(h x hx).2⟩
/-- a valid person -/
structure Prs (p:Pn):Prop where
  id:0 ≤ p.id ∧ p.id ≤ 63
  rk:chk p.rk = 0
  gl:1 ≤ (p.gs.length:Int) ∧ (p.gs.length:Int) ≤ 16
  need:1 ≤ p.need ∧ p.need ≤ (p.gs.length:Int)
  cool:1 ≤ p.cool ∧ p.cool ≤ 1048576
  nd:p.gs.Nodup
  gs:∀ g ∈ p.gs,g ≠ p.id ∧ 0 ≤ g ∧ g ≤ 63
/-- a case of a person -/
structure Blg (p:Pn) (c:Cs):Prop where
  fp:c.p = p.id
  fd:p.id * 8 ≤ c.d ∧ c.d ≤ p.id * 8 + 8 - 1
  fv:chk c.v = 0
  fl:chk c.l = 0
  fs:1 ≤ c.st ∧ c.st ≤ 65536
  fa:(c.ap.map Ap.g).Nodup
  ft:(c.vt.map Vt.d).Nodup
  fg:∀ a ∈ c.ap,a.g ∈ p.gs
noncomputable def prsB (p:Pn):Bool:=@decide (Prs p) (Classical.propDecidable _)
noncomputable def blgB (p:Pn) (c:Cs):Bool:=@decide (Blg p c) (Classical.propDecidable _)
theorem prsB_t {p:Pn}:prsB p = true ↔ Prs p:=@decide_eq_true_iff _ (Classical.propDecidable _)
theorem prsB_f {p:Pn}:prsB p = false ↔ ¬ Prs p:=@decide_eq_false_iff_not _ (Classical.propDecidable _)
theorem blgB_t {p:Pn} {c:Cs}:blgB p c = true ↔ Blg p c:=@decide_eq_true_iff _ (Classical.propDecidable _)
theorem blgB_f {p:Pn} {c:Cs}:blgB p c = false ↔ ¬ Blg p c:=@decide_eq_false_iff_not _ (Classical.propDecidable _)
abbrev lbCase:List UInt8:=[99,97,115,101]
def msgN (c:Cs) (role by':Int):List Int:=[c.p,c.d,c.v,c.l,c.st,role,by']
def msg (c:Cs) (role by':Int):List UInt8:=tagged lbCase (ivE (msgN c role by'))
theorem msg_length (c:Cs) (role by':Int):(msg c role by').length = 32:=tagged_length _ _
noncomputable def stE (p:Pn) (c:Cs) (now:Int):Int :=
  if prsB p = false then 371 else if blgB p c = false then 390
  else if (c.vt.any fun v=>decide (c.st ≤ v.no ∧ v.no ≤ c.st + p.cool - 1)) = true then 392
  else if now < c.st + p.cool then 391 else if (c.ap.length:Int) < p.need then 390 else 0
end Rst
end
section
namespace Eng
open Go Go.RowKit
def mesF (i:Nat):List (Int × Value) → List MapEntry
  | []=>[]
  | (k,v) :: r=>{ key:=I k,val:=v,born:=i } :: mesF (i + 1) r
def mes (kv:List (Int × Value)):Array MapEntry:=(mesF 0 kv).toArray
theorem mesF_append:∀ (kv:List (Int × Value)) (i:Nat) (k:Int) (v:Value),mesF i (kv ++ [(k,v)]) = mesF i kv ++ [{ key:=I k,val:=v,born:=i + kv.length }]
  | [],_,_,_=>rfl
  | (a,b) :: r,i,k,v=>by
    rw [List.cons_append,mesF,mesF,mesF_append r (i + 1) k v,List.length_cons,show i + 1 + r.length = i + (r.length + 1) by omega]; rfl
theorem mes_push (kv:List (Int × Value)) (k:Int) (v:Value):(mes kv).push { key:=I k,val:=v,born:=kv.length } = mes (kv ++ [(k,v)]):=by
  unfold mes
  rw [mesF_append,Nat.zero_add]
  simp
theorem mesF_mem:∀ {kv:List (Int × Value)} {i:Nat} {e:MapEntry},e ∈ mesF i kv → ∃ j k v,kv[j]? = some (k,v) ∧ e = { key:=I k,val:=v,born:=i + j }
  | (a,b) :: r,i,e,h=>by
    rcases List.mem_cons.1 h with rfl | h
    · exact ⟨0,a,b,rfl,rfl⟩
    · obtain ⟨j,k,v,h1,rfl⟩:=mesF_mem h
      exact ⟨j + 1,k,v,h1,by rw [show i + 1 + j = i + (j + 1) by omega]⟩
theorem mesF_get:∀ {kv:List (Int × Value)} {i j:Nat} {k:Int} {v:Value},kv[j]? = some (k,v) → { key:=I k,val:=v,born:=i + j } ∈ mesF i kv
  | (a,b) :: r,i,0,k,v,h=>by
    simp only [List.getElem?_cons_zero,Option.some.injEq,Prod.mk.injEq] at h
    obtain ⟨rfl,rfl⟩:=h
    exact .head _
  | (a,b) :: r,i,j + 1,k,v,h=>by
    have h1:=mesF_get (i:=i + 1) (show r[j]? = some (k,v) from h)
    rw [show i + 1 + j = i + (j + 1) by omega] at h1
    exact .tail _ h1
theorem mes_born:∀ (kv:List (Int × Value)) (i:Nat),((mesF i kv).map (·.born)) = List.range' i kv.length
  | [],_=>rfl
  | (a,b) :: r,i=>by
    rw [mesF,List.map_cons,mes_born r (i + 1),List.length_cons,List.range'_succ]
def unseen (n:Nat) (s:List Nat):Nat:=((List.range n).filter fun i=>!s.contains i).length
theorem unseen_lt {n i:Nat} {s:List Nat} (hi:i < n) (hs:i ∉ s):unseen n (s ++ [i]) < unseen n s:=by
  unfold unseen
  have key:∀ l:List Nat,(l.filter fun j=>!(s ++ [i]).contains j).length ≤ (l.filter fun j=>!s.contains j).length ∧ (i ∈ l → (l.filter fun j=>!(s ++ [i]).contains j).length < (l.filter fun j=>!s.contains j).length):=by
    intro l
    induction l with
    | nil=>exact ⟨Nat.le_refl _,fun h=>by cases h⟩
    | cons a l ih =>
      rw [List.filter_cons,List.filter_cons]
      by_cases ha:a ∈ s
      · have e1:(s ++ [i]).contains a = true:=by simp [ha]
        have e2:s.contains a = true:=by simp [ha]
        simp only [e1,e2,Bool.not_true,Bool.false_eq_true,if_false]
        refine ⟨ih.1,fun h=>?_⟩
        rcases List.mem_cons.1 h with rfl | h
        · exact absurd ha hs
        · exact ih.2 h
      · have e2:s.contains a = false:=by simp [ha]
        by_cases hai:a = i
        · subst hai
          have e1:(s ++ [a]).contains a = true:=by simp
          simp only [e1,e2,Bool.not_true,Bool.not_false,Bool.false_eq_true,if_false,if_true,List.length_cons]
          exact ⟨by have:=ih.1; omega,fun _=>by have:=ih.1; omega⟩
        · have e1:(s ++ [i]).contains a = false:=by simp [ha,hai]
          simp only [e1,e2,Bool.not_false,if_true,List.length_cons]
          refine ⟨by have:=ih.1; omega,fun h=>?_⟩
          rcases List.mem_cons.1 h with rfl | h
          · exact absurd rfl hai
          · have:=ih.2 h; omega
  exact (key _).2 (List.mem_range.2 hi)
section
variable {r:Option Nat} {P:Program} {n:Nat} {D:List Deferred} {W:World} {Bo:List Nat} {F:List (Nat × Value)} {l l':SH}
  {d:Option Tmp} {dd:Nat} {ty:TypeId} {ps:String} {af:Array Edge} {g:Option (Nat × Bool)} {x y z:Operand} {v u:Value} {ta tb t e:TypeId}
  {Q:Exit → Act → World → Prop} {ops:Array Oper} {rest:List Oper} {td:TypeDesc} {c:Code}
abbrev mblk (m:Nat) (kv:List (Int × Value)):Res:=.blk m (.map (mes kv) kv.length)
abbrev mit (b m n:Nat) (s:List Nat):Res:=.blk b (.mapIter (some m) n s.toArray n)
theorem s_mkmap {kt et:TypeId} [hm:HU P t (.map kt et)] {rs:Option Operand} (hrs:rs = none ∨ ∃ o k i,rs = some o ∧ evO F o = some (.int k i))
    (h:∀ b,LP r P n D W Bo ops Q rest ((dd,.map (some b)) :: F) (mblk b [] :: l))
    (hn:Nat.blt dd n = true:=by rfl) (hg:Wn ops F g:=by first | exact .none | exact .some rfl rfl) :
    LP r P n D W Bo ops Q (⟨some dd,.makeMap t rs,ty,ps,af,g⟩ :: rest) F l:=by
  refine s_new (fun b:Nat=>.map (some b)) (fun b=>mblk b [] :: l) (fun _=>True) (by simp) ?_ (hn:=hn) (hg:=hg) (h:=fun b _=>h b)
  intro a w ha hw
  refine ⟨w.heap.size,w.alloc (.map #[] 0),trivial,?_,hw.alloc _⟩
  rcases hrs with rfl | ⟨o,k,i,rfl,ho⟩
  · simp [execOp,Instr.makeMap,World.alloc_eq]
  · simp only [execOp,Option.map,ha.eval ho,Instr.makeMap,Sem.run_bind,run_underlying hm.h,Result.andThen_ok]
    have hai:(asIntOf (.int k i)).run P w = .ok (k,i) w:=rfl
    simp [asInt,World.alloc_eq,hai]
theorem s_mupd {kt et:TypeId} [hm:HU P t (.map kt et)] [hk:HU P kt (.int .i64)] {m:Nat} {kv:List (Int × Value)} {k:Int}
    (h:LP r P n D W Bo ops Q rest F l')
    (hx:evO F x = some (.map (some m)):=by rfl) (hy:evO F y = some (I k):=by rfl) (hz:evO F z = some v:=by rfl)
    (hr:Rep (mblk m kv) (mblk m (kv ++ [(k,v)])) l l':=by repeat (first | exact .head _ | apply Rep.tail))
    (hne:∀ p ∈ kv,p.1 ≠ k:=by decide) (hg:Wn ops F g:=by first | exact .none | exact .some rfl rfl) :
    LP r P n D W Bo ops Q (⟨none,.mapUpdate t x y z,ty,ps,af,g⟩ :: rest) F l:=by
  refine s_unit (by simp) (fun ac w ha hw=>?_) (hg:=hg) (h:=h)
  have hb:w.heap[m]? = some (.map (mes kv) kv.length):=(hw.own _ hr.mem).1
  have hmem:∀ x ∈ (mes kv).toList,MapKept.IsKey (.int .i64) x.key:=fun x hx=>by
    obtain ⟨j,k',v',_,rfl⟩:=mesF_mem (show x ∈ mesF 0 kv by simpa [mes] using hx)
    rfl
  have hf:Instr.findNow (.int .i64) (I k) (mes kv).toList 0 = some none:=by
    rcases MapKept.findNow_spec (d:=.int .i64) (k:=I k) rfl (mes kv).toList 0 hmem with ⟨h1,_⟩ | ⟨j,e0,_,h2,h3⟩
    · exact h1
    · exfalso
      obtain ⟨j',k',v',h4,rfl⟩:=mesF_mem (show e0 ∈ mesF 0 kv by simpa [mes] using List.mem_of_getElem? h2)
      have h5:k' = k:=by simpa [I] using h3
      exact hne _ (List.mem_of_getElem? h4) h5
  refine ⟨{ w with heap:=w.heap.setIfInBounds m (.map ((mes kv).push { key:=I k,val:=v,born:=kv.length }) (kv.length + 1)) },?_,?_⟩
  · have hc:=MapKept.run_checkKey (w:=w) (k:=I k) hk.h (show MapKept.IsKey (.int .i64) (I k) from rfl) false 9999
    have hff:=MapKept.run_findKey (w:=w) hk.h hf
    simp only [execOp,ha.eval hx,ha.eval hy,ha.eval hz,Instr.mapUpdate,Sem.run_bind,run_underlying hm.h,Result.andThen_ok,MapKept.run_getObj_map hb,hc,hff,MapKept.run_setObj_map _ hb,Sem.run_pure]
  · have hs:=MapKept.heap_set (o':=.map ((mes kv).push { key:=I k,val:=v,born:=kv.length }) (kv.length + 1)) hb
    refine hw.change hr rfl rfl rfl (by simp) (fun j _ hj=>hs.2 j (fun e=>hj (by rw [e]; rfl))) ?_ (fun j hj=>.inl hj)
    show (w.heap.setIfInBounds m _)[m]? = some (.map (mes (kv ++ [(k,v)])) (kv ++ [(k,v)]).length)
    rw [hs.1,mes_push,List.length_append]; rfl
theorem s_range {kt et:TypeId} [hm:HU P t (.map kt et)] {m:Nat} {kv:List (Int × Value)}
    (h:∀ b,LP r P n D W Bo ops Q rest ((dd,.pointer (some ⟨b,0,none⟩)) :: F) (mit b m kv.length [] :: l))
    (hx:evO F x = some (.map (some m)):=by rfl) (hmem:mblk m kv ∈ l:=by repeat (first | exact .head _ | apply List.Mem.tail))
    (hn:Nat.blt dd n = true:=by rfl) (hg:Wn ops F g:=by first | exact .none | exact .some rfl rfl) :
    LP r P n D W Bo ops Q (⟨some dd,.range t x,ty,ps,af,g⟩ :: rest) F l:=by
  refine s_new (fun b:Nat=>.pointer (some ⟨b,0,none⟩)) (fun b=>mit b m kv.length [] :: l) (fun _=>True) (by simp) ?_ (hn:=hn) (hg:=hg) (h:=fun b _=>h b)
  intro a w ha hw
  have hb:w.heap[m]? = some (.map (mes kv) kv.length):=(hw.own _ hmem).1
  refine ⟨w.heap.size,w.alloc (.mapIter (some m) kv.length #[] kv.length),trivial,?_,hw.alloc _⟩
  simp only [execOp,ha.eval hx,Sem.run_bind,run_range_map w t kt et m (mes kv) kv.length hm.h hb,Result.andThen_ok,Sem.run_pure]
theorem mes_left {kv:List (Int × Value)} {s:List Nat} {e0:MapEntry} (h:e0 ∈ (leftOf (mes kv) s.toArray).toList):∃ j k v,kv[j]? = some (k,v) ∧ e0 = { key:=I k,val:=v,born:=j } ∧ j ∉ s:=by
  unfold leftOf mes at h
  simp only [Array.toList_filter,List.mem_filter] at h
  obtain ⟨j,k,v,h1,rfl⟩:=mesF_mem h.1
  have h2:=h.2
  simp at h2
  exact ⟨j,k,v,h1,by rw [Nat.zero_add],h2⟩
theorem s_next {b m:Nat} {kv:List (Int × Value)} {s:List Nat} {l2:Nat → SH}
    (h0:(∀ i,i < kv.length → i ∈ s) → LP r P n D W Bo ops Q rest ((dd,.tuple #[.bool false]) :: F) l)
    (h1:∀ i k v,kv[i]? = some (k,v) → i ∉ s → LP r P n D W Bo ops Q rest ((dd,.tuple #[.bool true,I k,v]) :: F) (l2 i))
    (hx:evO F x = some (.pointer (some ⟨b,0,none⟩)):=by rfl) (hmem:mblk m kv ∈ l:=by repeat (first | exact .head _ | apply List.Mem.tail))
    (hr:∀ i,Rep (mit b m kv.length s) (mit b m kv.length (s ++ [i])) l (l2 i):=by intro _; repeat (first | exact .head _ | apply Rep.tail))
    (hn:Nat.blt dd n = true:=by rfl) (hg:Wn ops F g:=by first | exact .none | exact .some rfl rfl) :
    LP r P n D W Bo ops Q (⟨some dd,.next x false,ty,ps,af,g⟩ :: rest) F l:=by
  refine s_new (σ:=Option Nat) (fun o=>match o with | none=>.tuple #[.bool false] | some i=>.tuple #[.bool true,I (kv.getD i (0,.nilIface)).1,(kv.getD i (0,.nilIface)).2]) (fun o=>match o with | none=>l | some i=>l2 i)
    (fun o=>match o with | none=>∀ i,i < kv.length → i ∈ s | some i=>i < kv.length ∧ i ∉ s) (by simp) ?_ (hn:=hn) (hg:=hg) (h:=fun o ho=>?_)
  · intro a w ha hw
    have hb:w.heap[m]? = some (.map (mes kv) kv.length):=(hw.own _ hmem).1
    have hi:w.heap[b]? = some (.mapIter (some m) kv.length s.toArray kv.length):=(hw.own _ (hr 0).mem).1
    have hold:∀ x ∈ (mes kv).toList,x.born < kv.length:=fun x hx=>by
      obtain ⟨j,k',v',h4,rfl⟩:=mesF_mem (show x ∈ mesF 0 kv by simpa [mes] using hx)
      have:=(List.getElem?_eq_some_iff.1 h4).1
      show 0 + j < _
      omega
    rcases run_next_at (P:=P) w ty b m kv.length kv.length s.toArray (mes kv) kv.length hi hb hold (Nat.le_refl _) with ⟨h2,h3⟩ | ⟨e0,h2,w1,hw1,h3⟩
    · refine ⟨none,w,?_,?_,hw⟩
      · intro i hil
        refine Classical.byContradiction fun hns=>?_
        have hmm:=mesF_get (i:=0) (show kv[i]? = some (kv[i].1,kv[i].2) from List.getElem?_eq_getElem hil)
        have hin:{ key:=I kv[i].1,val:=kv[i].2,born:=0 + i } ∈ (leftOf (mes kv) s.toArray).toList:=by
          unfold leftOf mes
          rw [Array.toList_filter,List.mem_filter]
          refine ⟨by simpa using hmm,by simpa using hns⟩
        have:=Array.eq_empty_of_size_eq_zero h2
        rw [this] at hin
        cases hin
      · simp only [execOp,ha.eval hx,Sem.run_bind,h3,Result.andThen_ok,Sem.run_pure]
    · obtain ⟨j,k,v,h4,rfl,h5⟩:=mes_left h2
      have hj:j < kv.length:=(List.getElem?_eq_some_iff.1 h4).1
      have hgd:kv.getD j (0,.nilIface) = (k,v):=by rw [List.getD_eq_getElem?_getD,h4]; rfl
      have hw1':St W Bo w1 l:=hw1.elim (fun e=>e ▸ hw) (fun e=>e ▸ hw.drew)
      have hi1:w1.heap[b]? = some (.mapIter (some m) kv.length s.toArray kv.length):=(hw1'.own _ (hr 0).mem).1
      refine ⟨some j,ChangeMaps.setBlock w1 b (.mapIter (some m) kv.length (s.toArray.push j) kv.length),⟨hj,h5⟩,?_,?_⟩
      · simp only [execOp,ha.eval hx,Sem.run_bind,h3,Result.andThen_ok,Sem.run_pure,hgd]
      · have hs:=MapKept.heap_set (o':=.mapIter (some m) kv.length (s.toArray.push j) kv.length) hi1
        refine hw1'.change (hr j) rfl rfl rfl (by simp [ChangeMaps.setBlock]) (fun i _ hne=>hs.2 i (fun e=>hne (by rw [e]; rfl))) ?_ (fun i hi=>.inl hi)
        show (w1.heap.setIfInBounds b _)[b]? = some (.mapIter (some m) kv.length (s ++ [j]).toArray kv.length)
        rw [hs.1]; simp
  · cases o with
    | none=>exact h0 ho
    | some i =>
      refine h1 i _ _ ?_ ho.2
      rw [List.getD_eq_getElem?_getD,List.getElem?_eq_getElem ho.1]; rfl
theorem y_entry {b m:Nat} {kv:List (Int × Value)} {s:List Nat} {i:Nat} {k:Int} (hi:kv[i]? = some (k,v))
    (hx:evO F x = some (.pointer (some ⟨b,0,none⟩)):=by rfl) (hmem:mblk m kv ∈ l:=by repeat (first | exact .head _ | apply List.Mem.tail)) (hit:mit b m kv.length (s ++ [i]) ∈ l:=by repeat (first | exact .head _ | apply List.Mem.tail)) :
    Y P n D W Bo ⟨d,.entry x,ty,ps,af,g⟩ F l (.tuple #[I k,v]) :=
  .mk (by simp) fun a w ha hw=>by
    have hb:w.heap[m]? = some (.map (mes kv) kv.length):=(hw.own _ hmem).1
    have hit':w.heap[b]? = some (.mapIter (some m) kv.length (s ++ [i]).toArray kv.length):=(hw.own _ hit).1
    have he:({ key:=I k,val:=v,born:=i }:MapEntry) ∈ (mes kv).toList:=by
      have:=mesF_get (i:=0) hi
      rw [Nat.zero_add] at this
      simpa [mes] using this
    have hnd:((mes kv).toList.map (·.born)).Nodup:=by
      show ((mesF 0 kv).toArray.toList.map (·.born)).Nodup
      rw [List.toList_toArray,mes_born]
      exact List.nodup_range'
    have h:=run_entry_at (P:=P) w b m kv.length s.toArray (mes kv) kv.length _ (by simpa using hit') hb he hnd
    simp only [execOp,ha.eval hx,Sem.run_bind,h,Result.andThen_ok,Sem.run_pure]
end
end Eng
end
section
namespace Eng
open Go Go.RowKit
section
variable {r:Option Nat} {P:Program} {n:Nat} {D:List Deferred} {W:World} {Bo:List Nat} {F:List (Nat × Value)} {l l':SH}
  {d:Option Tmp} {dd:Nat} {ty:TypeId} {ps:String} {af:Array Edge} {g:Option (Nat × Bool)} {x y z:Operand} {v u:Value} {ta tb t e:TypeId}
  {Q:Exit → Act → World → Prop} {ops:Array Oper} {rest:List Oper} {td:TypeDesc} {c:Code}
theorem mes_keys (kv:List (Int × Value)):∀ x ∈ (mes kv).toList,MapKept.IsKey (.int .i64) x.key:=fun x hx=>by
  obtain ⟨j,k',v',_,rfl⟩:=mesF_mem (show x ∈ mesF 0 kv by simpa [mes] using hx)
  rfl
theorem y_lookN {kt et:TypeId} [hm:HU P t (.map kt et)] [hk:HU P kt (.int .i64)] {zz:Value} [hz:HZ P et zz] {m:Nat} {kv:List (Int × Value)} {k:Int} {c2:Bool}
    (hne:∀ p ∈ kv,p.1 ≠ k) (hx:evO F x = some (.map (some m)):=by rfl) (hy:evO F y = some (I k):=by rfl) (hmem:mblk m kv ∈ l:=by repeat (first | exact .head _ | apply List.Mem.tail)) :
    Y P n D W Bo ⟨d,.lookup t x y c2,ty,ps,af,g⟩ F l (if c2 then .tuple #[zz,.bool false] else zz) :=
  .mk (by simp) fun a w ha hw=>by
    have hb:w.heap[m]? = some (.map (mes kv) kv.length):=(hw.own _ hmem).1
    have hf:Instr.findNow (.int .i64) (I k) (mes kv).toList 0 = some none:=by
      rcases MapKept.findNow_spec (d:=.int .i64) (k:=I k) rfl (mes kv).toList 0 (mes_keys kv) with ⟨h1,_⟩ | ⟨j,e0,_,h2,h3⟩
      · exact h1
      · exfalso
        obtain ⟨j',k',v',h4,rfl⟩:=mesF_mem (show e0 ∈ mesF 0 kv by simpa [mes] using List.mem_of_getElem? h2)
        have h5:k' = k:=by simpa [I] using h3
        exact hne _ (List.mem_of_getElem? h4) h5
    have hc:=fun e n=>MapKept.run_checkKey (w:=w) (k:=I k) hk.h (show MapKept.IsKey (.int .i64) (I k) from rfl) e n
    have hff:=MapKept.run_findKey (w:=w) hk.h hf
    have e:(Instr.lookup t (.map (some m)) (I k) c2).run P w = .ok (if c2 then .tuple #[zz,.bool false] else zz) w:=by
      cases c2 <;> simp [Instr.lookup,run_underlying hm.h,MapKept.run_getObj_map hb,hc,hff,hz.h,Result.andThen]
    simp only [execOp,ha.eval hx,ha.eval hy,Sem.run_bind,e,Result.andThen_ok,Sem.run_pure]
theorem y_lookY {kt et:TypeId} [hm:HU P t (.map kt et)] [hk:HU P kt (.int .i64)] {m:Nat} {kv:List (Int × Value)} {k:Int} {c2:Bool}
    (hin:∃ p ∈ kv,p.1 = k) (hall:∀ p ∈ kv,p.1 = k → p.2 = v) (hx:evO F x = some (.map (some m)):=by rfl) (hy:evO F y = some (I k):=by rfl) (hmem:mblk m kv ∈ l:=by repeat (first | exact .head _ | apply List.Mem.tail)) :
    Y P n D W Bo ⟨d,.lookup t x y c2,ty,ps,af,g⟩ F l (if c2 then .tuple #[v,.bool true] else v) :=
  .mk (by simp) fun a w ha hw=>by
    have hb:w.heap[m]? = some (.map (mes kv) kv.length):=(hw.own _ hmem).1
    obtain ⟨j,hf⟩:∃ j,Instr.findNow (.int .i64) (I k) (mes kv).toList 0 = some (some (j,v)):=by
      rcases MapKept.findNow_spec (d:=.int .i64) (k:=I k) rfl (mes kv).toList 0 (mes_keys kv) with ⟨_,h2⟩ | ⟨j,e0,h1,h2,h3⟩
      · exfalso
        obtain ⟨p,hp,hpk⟩:=hin
        obtain ⟨i,hi⟩:=List.getElem?_of_mem hp
        have hmm:=mesF_get (i:=0) (show kv[i]? = some (p.1,p.2) from hi)
        exact h2 _ (by simpa [mes] using hmm) (by show I p.1 = I k; rw [hpk])
      · obtain ⟨j',k',v',h4,rfl⟩:=mesF_mem (show e0 ∈ mesF 0 kv by simpa [mes] using List.mem_of_getElem? h2)
        have h5:k' = k:=by simpa [I] using h3
        have h6:v' = v:=hall _ (List.mem_of_getElem? h4) h5
        exact ⟨0 + j,by rw [h1,h6]⟩
    have hc:=fun e n=>MapKept.run_checkKey (w:=w) (k:=I k) hk.h (show MapKept.IsKey (.int .i64) (I k) from rfl) e n
    have hff:=MapKept.run_findKey (w:=w) hk.h hf
    have e:(Instr.lookup t (.map (some m)) (I k) c2).run P w = .ok (if c2 then .tuple #[v,.bool true] else v) w:=by
      cases c2 <;> simp [Instr.lookup,run_underlying hm.h,MapKept.run_getObj_map hb,hc,hff,Result.andThen]
    simp only [execOp,ha.eval hx,ha.eval hy,Sem.run_bind,e,Result.andThen_ok,Sem.run_pure]
theorem y_slhmB [hu:HU P t (.slice e)] {s by':Nat} [hs:HS P e s by'] {a:Option Addr} {m c:Nat} {k k':IntKind} {j h:Int} (hx:evO F x = some (.slice a m c):=by rfl) (hy:evO F y = some (.int k j):=by rfl) (hz:evO F z = some (.int k' h):=by rfl)
    (h1:0 ≤ j:=by omega) (h2:j ≤ h:=by omega) (h3:h ≤ c:=by omega):Y P n D W Bo ⟨d,.slice t x none (some y) (some z),ty,ps,af,g⟩ F l (.slice a j.toNat h.toNat) :=
  .mk (by simp) fun ac w ha hw=>by
    have e0:(Instr.sliceBound (.int k' h) c .slice3Acap).run P w = .ok h.toNat w:=run_sliceBound w k' h c _ (by omega) h3
    have e1:(Instr.sliceBound (.int k j) h.toNat .slice3B).run P w = .ok j.toNat w:=run_sliceBound w k j h.toNat _ (by omega) (by omega)
    have e2:=sa_zero (a:=a) (c:=h.toNat) (s:=s)
    unfold sa at e2
    simp only [execOp,ha.eval hx,Option.map,ha.eval hy,ha.eval hz,Sem.run_bind,Instr.sliceAt,Instr.slice,run_underlying hu.h,Result.andThen_ok,Instr.sliceBounds,Sem.run_pure,if_true,e0,e1,run_sizeOf' hs]
    simp only [Option.map] at e2
    rw [e2]
    rfl
end
theorem one_allA {cs:List Value} (h:cs.all Value.oneCell' = true):∀ v ∈ cs,v.oneCell' = true:=List.all_eq_true.1 h
end Eng
end
section
namespace Eng
open Go Go.RowKit
section
variable {r:Option Nat} {P:Program} {n:Nat} {D:List Deferred} {W:World} {Bo:List Nat} {F:List (Nat × Value)} {l l' l2 ps0 lx:SH}
  {d:Option Tmp} {dd:Nat} {ty:TypeId} {ps:String} {af:Array Edge} {g:Option (Nat × Bool)} {x y z:Operand} {v u:Value} {ta tb t e:TypeId}
  {Q:Exit → Act → World → Prop} {ops:Array Oper} {rest:List Oper} {td:TypeDesc} {c:Code}
def Dies (P:Program) (k:FuncId) (args:List Value) (w:World) (v:Value):Prop :=
  Calls P k args.toArray w fun e w'=>e = .panicked [{ v:=v,recovered:=false }] ∧ St w [] w' []
theorem s_dies {k:FuncId} [hf:HF P k] {fo:Operand} {fs cs vs args:List Value} {ao:Array Operand} {ts:Array TypeId}
    (hc:∀ w,St W Bo w l → Dies P k args w v)
    (h:QP n D W Bo Q (.panic [{ v:=v,recovered:=false }]) F l)
    (hfo:evO F fo = some (.func (.func k) fs.toArray cs.toArray):=by rfl) (hargs:evL F ao.toList = some vs:=by rfl) (hap:args = fs ++ vs ++ cs:=by rfl) (hg:Wn ops F g:=by first | exact .none | exact .some rfl rfl) :
    LP r P n D W Bo ops Q (⟨d,.call ⟨.value fo,ao,ts⟩,ty,ps,af,g⟩ :: rest) F l:=by
  intro a w ha hw
  refine wpListIn_of (hg.wanted rfl ha) ?_
  refine ⟨fun f _=>trivial,?_⟩
  rw [semAt_eq _ (by simp),run_call hfo hargs ha]
  refine ⟨by simp [Fw,Fence.wide],callsFw ((hap ▸ hc w hw:Dies P k (fs ++ vs ++ cs) w v).mono ?_)⟩
  rintro e w' ⟨rfl,hw'⟩
  exact h _ _ ha ((hw.trans hw').sub (by simp))
theorem s_panic {T:TypeId} (h:QP n D W Bo Q (.panic [{ v:=.iface T v,recovered:=false }]) F l) (hx:evO F x = some (.iface T v):=by rfl) (hg:Wn ops F g:=by first | exact .none | exact .some rfl rfl) :
    LP r P n D W Bo ops Q (⟨d,.panic x,ty,ps,af,g⟩ :: rest) F l:=by
  intro a w ha hw
  refine wpListIn_of (hg.wanted rfl ha) ?_
  refine ⟨fun f _=>trivial,?_⟩
  have e:(execOp a.eval ⟨d,.panic x,ty,ps,af,g⟩).run P w = .halt (.panic (.iface T v)) w:=by
    simp only [execOp,ha.eval hx,Sem.run_bind]
    rfl
  rw [semAt_eq _ (by simp),e]
  exact h _ _ ha hw
theorem q_pb {id:Nat} {ch:List PanicEntry} (h:QP n D W Bo Q (.panic ch) F l):QP n D W Bo (Exit.inBlock id Q) (.panic ch) F l:=h
theorem q_pt {K:Act → World → Prop} {ch:List PanicEntry} (h:QP n D W Bo Q (.panic ch) F l):QP n D W Bo (Exit.then K Q) (.panic ch) F l:=h
theorem die {fn:Func} {R:Ending → World → Prop} {ch:List PanicEntry} (hR:∀ w,St W Bo w l → R (.panicked ch) w):QP n [] W Bo (bodyPost P fn R) (.panic ch) F l :=
  fun _ _ ha hw=>⟨ha.defers,hR _ hw⟩
theorem s_deferC {k:FuncId} {cs:List Value} {ts:Array TypeId} (h:LP none P n ({ target:=.fn (.func k) cs.toArray,args:=#[] } :: D) W Bo ops Q rest F l) (hx:evO F x = some (.func (.func k) #[] cs.toArray):=by rfl) :
    LP none P n D W Bo ops Q (⟨none,.defer ⟨.value x,#[],ts⟩,ty,ps,af,none⟩ :: rest) F l:=by
  intro a w ha hw
  refine wpListIn_of (by simp [Region.wanted]) ?_
  refine ⟨fun f _=>trivial,?_⟩
  have e:(Oper.semAt (Fw none).round a.eval ⟨none,.defer ⟨.value x,#[],ts⟩,ty,ps,af,none⟩).run P w = .ok (.defer { target:=.fn (.func k) cs.toArray,args:=#[] }) w:=by
    rw [show (Fw none).round = none from rfl,Oper.semAt_none]
    simp [execOp,resolve,ha.eval hx,Deferred.ofValue]
  rw [e]
  exact h _ _ ⟨ha.size,by simp [Act.put,ha.defers],fun t v ht=>ha.slot t v ht⟩ hw
def GivesD (P:Program) (k:FuncId) (args:List Value) (m:FrameMode) (w:World) (bo:List Nat) (m':FrameMode) (lx:SH):Prop :=
  CallsD P k args.toArray m w fun e u w'=>e = .returned (.tuple #[]) ∧ u = m' ∧ St w bo w' lx
theorem leave_D {fn:Func} {R:Ending → World → Prop} {rvs:List ResultVar} {vs:List Value} {k:FuncId} [hk:HF P k] {cs:List Value} {m m':FrameMode} {e:Exit}
    (he:∀ (a:Act) (w:World),Leaves P fn a.tmps R a.defers m w → bodyPostD P fn R e a w) (hm:m ≠ .run) (hm':settle m' = .returning)
    (hperm:l.Perm (ps0 ++ l2)) (hd:∀ w,St W Bo w (ps0 ++ l2) → GivesD P k cs m w (keys ps0) m' lx)
    (hf:fn.results = rvs.toArray) (h:RVs P n W Bo F (lx ++ l2) rvs vs) (hR:∀ w,St W Bo w (lx ++ l2) → R (.returned (outV vs)) w) :
    QP n [{ target:=.fn (.func k) cs.toArray,args:=#[] }] W Bo (bodyPostD P fn R) e F l:=by
  intro a w ha hw
  refine he a w ?_
  rw [ha.defers]
  obtain ⟨fnd,bc,h1,h2,h3⟩:=hk.h
  have hi:(invoke (.fn (.func k) cs.toArray) #[]).run P w = .ok (.enter k cs.toArray) w:=by
    have h4 : fnd.name ≠ "runtime.NumGoroutine" := by simpa using h3
    simp [invoke,callFunc,h1,h4,h2]
  refine leaves_cons (f:=k) (args:=cs.toArray) hm hi ?_
  refine (hd w (hw.perm hperm.symm)).mono fun e' u' w' ⟨h5,h6,h7⟩=>?_
  subst h5 h6
  show Leaves P fn a.tmps R [] (settle _) w'
  rw [hm']
  have hw':=hw.transL hperm h7
  obtain ⟨_,h4⟩:=(ret_n hf h _ (.inl rfl) hR:QP n [] W Bo (bodyPost P fn R) .ret F (lx ++ l2)) { a with defers:=[] } w' ⟨ha.size,rfl,ha.slot⟩ hw'
  exact h4
theorem leave_R {fn:Func} {R:Ending → World → Prop} {rvs:List ResultVar} {vs:List Value} {k:FuncId} [hk:HF P k] {cs:List Value}
    (hd:∀ w,St W Bo w l → GivesD P k cs .returning w [] .returning [])
    (hf:fn.results = rvs.toArray) (h:RVs P n W Bo F l rvs vs) (hR:∀ w,St W Bo w l → R (.returned (outV vs)) w) :
    QP n [{ target:=.fn (.func k) cs.toArray,args:=#[] }] W Bo (bodyPostD P fn R) .ret F l :=
  leave_D (ps0:=[]) (l2:=l) (lx:=[]) (m:=.returning) (m':=.returning) (fun _ _ h=>h) (by simp) rfl (.refl _) hd hf h hR
theorem leave_P {fn:Func} {R:Ending → World → Prop} {rvs:List ResultVar} {vs:List Value} {k:FuncId} [hk:HF P k] {cs:List Value} {v:Value} {p p':Res}
    (hd:∀ w,St W Bo w (p :: l2) → GivesD P k cs (.panicking [{ v:=v,recovered:=false }]) w (keys [p]) (.panicking [{ v:=v,recovered:=true }]) [p'])
    (hf:fn.results = rvs.toArray) (hperm:l.Perm (p :: l2)) (h:RVs P n W Bo F (p' :: l2) rvs vs) (hR:∀ w,St W Bo w (p' :: l2) → R (.returned (outV vs)) w) :
    QP n [{ target:=.fn (.func k) cs.toArray,args:=#[] }] W Bo (bodyPostD P fn R) (.panic [{ v:=v,recovered:=false }]) F l :=
  leave_D (ps0:=[p]) (l2:=l2) (lx:=[p']) (m:=.panicking [{ v:=v,recovered:=false }]) (m':=.panicking [{ v:=v,recovered:=true }]) (fun _ _ h=>h) (by simp) rfl hperm hd hf h hR
theorem recov {k kc:FuncId} [hkc:HF P kc] {fn:Func} {t1 t2:TypeId} {p1 p2:String} {a1 a2:Array Edge} {ts:Array TypeId} {id:Nat} (hf:P.funcs[k]? = some fn)
    (hb:fn.body = some (.region id #[⟨some 1,.call ⟨.builtin .recover,#[],#[]⟩,t1,p1,a1,none⟩,⟨some 2,.call ⟨.value (.func kc),#[.tmp 1,.tmp 0],ts⟩,t2,p2,a2,none⟩] false))
    (hn:fn.ntmps = 3) (hr:fn.results = #[]) {q rv:Value} {m m':FrameMode} {w:World} {bo:List Nat}
    (hm:(m = .returning ∧ m' = .returning ∧ rv = .nilIface) ∨ ∃ v,m = .panicking [{ v:=v,recovered:=false }] ∧ m' = .panicking [{ v:=v,recovered:=true }] ∧ rv = v)
    (hc:Gives P kc [rv,q] w bo (fun _:Unit=>.tuple #[]) (fun _=>lx) (fun _=>True)):GivesD P k [q] m w bo m' lx:=by
  refine callsD_of_wpS hf hb fun c₀ cs hu=>?_
  apply wpS_region
  have hrec:(match recoverD (c₀ :: cs) with | some (v,cs')=>(v,cs') | none=>(.nilIface,c₀ :: cs)) = (rv,{ c₀ with mode:=m' } :: cs):=by
    rcases hm with ⟨rfl,rfl,rfl⟩ | ⟨v,rfl,rfl,rfl⟩
    · simp only [recoverD,hu]
      rw [← hu]
    · simp only [recoverD,hu]
  have e1:∀ (a:Act),(execOp a.eval ⟨some 1,.call ⟨.builtin .recover,#[],#[]⟩,t1,p1,a1,none⟩).run P w = .ok .recover w:=fun a=>rfl
  obtain ⟨fnd,bc,h1,h2,h3⟩:=hkc.h
  have h4 : fnd.name ≠ "runtime.NumGoroutine" := by simpa using h3
  have e2:∀ (a:Act),a.tmps[0]? = some q → a.tmps[1]? = some rv → (execOp a.eval ⟨some 2,.call ⟨.value (.func kc),#[.tmp 1,.tmp 0],ts⟩,t2,p2,a2,none⟩).run P w = .ok (.enter kc [rv,q].toArray) w:=fun a ha hb=>by
    have e3:a.eval (.tmp 1) = rv:=by simp [Act.eval,Array.getD_eq_getD_getElem?,hb]
    have e4:a.eval (.tmp 0) = q:=by simp [Act.eval,Array.getD_eq_getD_getElem?,ha]
    simp [execOp,resolve,Deferred.ofValue,invoke,callFunc,h1,h4,h2,e3,e4,Act.eval]
    simp [Act.eval] at e3 e4
    simp [e3,e4]
  have hend:∀ (cs':List Frame) (a:Act),a.tmps[0]? = some q → a.tmps[1]? = some rv → a.defers = [] → cs' = { c₀ with mode:=m' } :: cs →
      (Oper.upon P ⟨some 2,.call ⟨.value (.func kc),#[.tmp 1,.tmp 0],ts⟩,t2,p2,a2,none⟩ a (fun a' w'=>bodyPostS P fn c₀ cs (fun e u w'=>e = .returned (.tuple #[]) ∧ u = m' ∧ St w bo w' lx) .normal a' cs' w') (fun e a' w'=>bodyPostS P fn c₀ cs (fun e u w'=>e = .returned (.tuple #[]) ∧ u = m' ∧ St w bo w' lx) e a' cs' w') (.ok (.enter kc [rv,q].toArray) w)):=fun cs' a _ _ hd hcs=>by
    show Calls P kc _ w _
    refine hc.mono fun e w' ⟨_,_,he,hw'⟩=>?_
    subst he
    exact ⟨by simp [Act.put,hd],m',hcs,.tuple #[],by rw [results_eq,hr]; simp,rfl,rfl,hw'⟩
  have ht0:(#[q] ++ Array.replicate (fn.ntmps - 1) undef:Array Value) = #[q,undef,undef]:=by rw [hn]; rfl
  simp only [List.size_toArray,List.length_cons,List.length_nil,Nat.zero_add,ht0]
  show wpOpsS P _ _ [0,1] _ _ w
  unfold wpOpsS
  simp only [List.getElem?_toArray,List.getElem?_cons_zero,Region.wanted,if_true,e1]
  have key:∀ (v:Value) (cs':List Frame),v = rv → cs' = { c₀ with mode:=m' } :: cs → wpOpsS P #[⟨some 1,.call ⟨.builtin .recover,#[],#[]⟩,t1,p1,a1,none⟩,⟨some 2,.call ⟨.value (.func kc),#[.tmp 1,.tmp 0],ts⟩,t2,p2,a2,none⟩] (bodyPostS P fn c₀ cs fun e u w'=>e = .returned (.tuple #[]) ∧ u = m' ∧ St w bo w' lx) [1] (({ tmps:=#[q,undef,undef],defers:=[] }:Act).put (some 1) v) cs' w:=fun v cs' hv hcs=>by
    subst hv
    unfold wpOpsS
    simp only [List.getElem?_toArray,List.getElem?_cons_succ,List.getElem?_cons_zero,Region.wanted,if_true]
    rw [e2 _ rfl rfl]
    exact hend cs' _ rfl rfl rfl hcs
  cases hq:recoverD (c₀ :: cs) with
  | none=>rw [hq] at hrec; simp only [Prod.mk.injEq] at hrec; exact key _ _ hrec.1 hrec.2
  | some y=>obtain ⟨v,cs'⟩:=y; rw [hq] at hrec; simp only [Prod.mk.injEq] at hrec; exact key _ _ hrec.1 hrec.2
end
end Eng
end
section
namespace Eng
open Go Go.RowKit
section
variable {r:Option Nat} {P:Program} {n:Nat} {D:List Deferred} {W:World} {Bo:List Nat} {F:List (Nat × Value)} {l:SH} {d:Option Tmp} {ty:TypeId} {ps:String} {af:Array Edge} {g:Option (Nat × Bool)} {x y:Operand} {v:Value} {t ta tb:TypeId}
theorem y_ldin [hu:HT P t false] {s by':Nat} [hs:HS P t s by'] {b off:Nat} {cs:Array Value} {et:TypeId} {fz:Nat × Nat} {ys:List Value} (hl:ys.length = s) (hv:∀ j v,ys[j]? = some v → cs[off + j]? = some v)
    (hx:evO F x = some (.pointer (some ⟨b,off,none⟩)):=by rfl) (hm:Res.blk b (.cells cs et fz) ∈ l:=by repeat (first | exact .head _ | apply List.Mem.tail)):Y P n D W Bo ⟨d,.load t x,ty,ps,af,g⟩ F l (.agg ys.toArray) :=
  y_ld0 hx fun w hw=>ld_agg hu hs hl fun j v h=>by rw [addr_add,cell_of_row w b _ cs et fz (hw.own _ hm).1]; exact hv j v h
theorem y_mki {T:TypeId} (hx:evO F x = some v:=by rfl) (hT:P.concrete T = true:=by kernel_rfl):Y P n D W Bo ⟨d,.makeInterface T x,ty,ps,af,g⟩ F l (.iface T v) :=
  .mk (by simp) fun a w ha _=>by simp only [execOp,ha.eval hx,Sem.run_bind,run_makeInterface w T v hT]; rfl
end
def be8 (n:Int):List UInt8:=(List.range 8).map fun i=>UInt8.ofNat ((n / 2 ^ (56 - 8 * i)) % 256).toNat
theorem be8_length (n:Int):(be8 n).length = 8:=by simp [be8]
theorem be8_get (n:Int) {i:Nat} (h:i < 8):(be8 n).getD i 0 = UInt8.ofNat ((n / 2 ^ (56 - 8 * i)) % 256).toNat:=by
  rw [List.getD_eq_getElem?_getD,be8,List.getElem?_map,List.getElem?_range h]; rfl
end Eng
namespace Go.Proofs.YtegfmbefhpagmaaGreatDoor
open Go Eng Gf Sha
end Go.Proofs.YtegfmbefhpagmaaGreatDoor
end
section
namespace Go.Proofs.YtegfmbefhpagmaaGreatDoor
open Go Eng Gf Sha Sig Wr Cod Cha Rst
set_option maxRecDepth 100000
theorem y_brfail {n:Nat} {D:List Deferred} {W:World} {Bo:List Nat} {F:List (Nat × Value)} {l:SH} {d:Option Tmp} {ty:TypeId} {ps:String} {af:Array Edge} {g:Option (Nat × Bool)} {parts:Array (Nat × Operand)} {vs:List (Nat × Value)} {cs:List Value}
    (hp:evP F parts.toList = some vs:=by rfl) (hf:fillL (fun i=>(#[(0,1)]:Array (Nat × Nat))[i]?) [I 0] vs = some cs:=by rfl) :
    Y Tryz.prog n D W Bo ⟨d,.build 194 parts,ty,ps,af,g⟩ F l (.agg cs.toArray) :=
  y_blds Tryz.underlying194 (fun w=>by kernel_rfl) hp hf
theorem IxF_Ap (w:World) (a:Option Addr) (c:Nat) (q:List Ap) (kf:FuncId) (cs:List Value) [HF Tryz.prog kf] (p:Ap → Bool) (hr:Rd w a (apc q)) (hl:q.length ≤ 1000000000000000)
    (hf:∀ x ∈ q,∀ w',St w [] w' [] → Pure Tryz.prog kf ([.agg x.cell.toArray] ++ cs) w' (.bool (p x))) :
    Pure Tryz.prog 115 [.slice a q.length c,.func (.func kf) #[] cs.toArray] w (I (fidx p q)):=by
  have hcl:q.length ≤ (apc q).length:=by rw [apc_length]; omega
  refine enter Tryz.func115 Tryz.ntmps115 ?_
  refine c_seq<|c_reg<|s_y y_as<|s_nil<|q_then<|c_seq<|c_seq<|c_reg<|s_y y_mv<|s_y y_len<|s_y y_mv<|s_nil<|q_then<|c_block<|?_
  refine c_loop (fun i:Nat=>[(0,.slice a q.length c),(1,.func (.func kf) #[] cs.toArray),(7,I q.length),(8,I i)]) (fun _=>[]) (fun i=>i ≤ q.length ∧ ∀ j,j < i → p (q.getD j default) = false) (fun i=>q.length - i) 0 ⟨by omega,fun _ h=>by omega⟩ ⟨rfl,rfl,rfl,rfl,trivial⟩ (List.Sublist.refl _) ?_
  intro i ⟨hi,hj⟩
  refine c_seq<|c_reg<|s_y (y_lss (p:=i) (q:=q.length))<|s_nil<|q_then<|c_seq<|c_ifd (fun h9=>?_) (fun h9=>?_)
  · have hiq:i < q.length:=by omega
    obtain ⟨x,hx⟩:∃ x,q[i]? = some x:=⟨_,List.getElem?_eq_getElem hiq⟩
    have hgd:q.getD i default = x:=by rw [List.getD_eq_getElem?_getD,hx]; rfl
    refine c_skip<|q_then<|c_seq<|c_block<|c_seq<|c_reg<|s_y y_mv<|s_y y_as<|s_nil<|q_then<|c_seq<|c_reg<|s_y y_mv<|s_y y_mv<|s_y y_mv<|s_y (y_ixs (xs:=apc q) (i:=((i:Nat):Int)) (hl:=hcl))<|s_y (y_ldra (i:=i * 5) (cs:=x.cell) (rdW0 hr) rfl (fun j v h=>apc_at hx h))<|s_pure (fun w' hw=>hf x (List.mem_of_getElem? hx) w' hw)<|s_nil<|q_then<|c_if rfl (fun h16=>?_) (fun h16=>?_)
    · rw [fidx_hit (d:=default) hiq hj (by rw [hgd]; exact h16)]
      refine c_seq<|c_reg<|s_y y_mv<|s_y y_as<|s_nil<|q_then<|c_ret<|q_retb<|q_ret<|q_ret<|q_retb<|q_ret<|?_
      exact ret1 Tryz.results115 rv_t fun w' hw=>⟨rfl,hw⟩
    · refine c_skip<|q_nb<|q_then<|c_reg<|s_y (y_add (p:=i) (q:=1))<|s_y y_mv<|s_nil<|q_round (i + 1) ⟨by omega,fun j h=>(Nat.lt_or_ge j i).elim (hj j) fun h8=>by obtain rfl:j = i:=(by omega); rw [hgd]; exact h16⟩ (by omega) ⟨rfl,rfl,rfl,rfl,trivial⟩ (List.Sublist.refl _)
  · rw [fidx_none (d:=default) (p:=p) (l:=q) fun j h=>hj j (by omega)]
    refine c_exit<|q_ex<|q_ex<|q_exb<|q_then<|c_seq<|c_reg<|s_y y_as<|s_nil<|q_then<|c_ret<|?_
    exact ret1 Tryz.results115 rv_t fun w' hw=>⟨rfl,hw⟩
theorem CoF_Ap (w:World) (a:Option Addr) (c:Nat) (q:List Ap) (kf:FuncId) (cs:List Value) [HF Tryz.prog kf] (p:Ap → Bool) (hr:Rd w a (apc q)) (hl:q.length ≤ 1000000000000000)
    (hf:∀ x ∈ q,∀ w',St w [] w' [] → Pure Tryz.prog kf ([.agg x.cell.toArray] ++ cs) w' (.bool (p x))) :
    Pure Tryz.prog 51 [.slice a q.length c,.func (.func kf) #[] cs.toArray] w (.bool (q.any p)):=by
  rw [← fidx_any]
  refine enter Tryz.func51 Tryz.ntmps51 ?_
  refine c_seq<|c_reg<|s_y y_as<|s_nil<|q_then<|c_seq<|c_reg<|s_y y_mv<|s_y y_mv<|s_pure (fun w' hw=>IxF_Ap w' a c q kf cs p (hr.st hw) hl (fun x hx w2 h2=>hf x hx w2 (by have:=hw.trans h2; simpa using this)))<|s_y (y_geq (p:=fidx p q) (q:=0))<|s_y y_as<|s_nil<|q_then<|c_ret<|?_
  exact ret1 Tryz.results51 rv_t fun w' hw=>⟨rfl,hw⟩
theorem IxF_Vt (w:World) (a:Option Addr) (c:Nat) (q:List Vt) (kf:FuncId) (cs:List Value) [HF Tryz.prog kf] (p:Vt → Bool) (hr:Rd w a (vtc q)) (hl:q.length ≤ 1000000000000000)
    (hf:∀ x ∈ q,∀ w',St w [] w' [] → Pure Tryz.prog kf ([.agg x.cell.toArray] ++ cs) w' (.bool (p x))) :
    Pure Tryz.prog 120 [.slice a q.length c,.func (.func kf) #[] cs.toArray] w (I (fidx p q)):=by
  have hcl:q.length ≤ (vtc q).length:=by rw [vtc_length]; omega
  refine enter Tryz.func120 Tryz.ntmps120 ?_
  refine c_seq<|c_reg<|s_y y_as<|s_nil<|q_then<|c_seq<|c_seq<|c_reg<|s_y y_mv<|s_y y_len<|s_y y_mv<|s_nil<|q_then<|c_block<|?_
  refine c_loop (fun i:Nat=>[(0,.slice a q.length c),(1,.func (.func kf) #[] cs.toArray),(7,I q.length),(8,I i)]) (fun _=>[]) (fun i=>i ≤ q.length ∧ ∀ j,j < i → p (q.getD j default) = false) (fun i=>q.length - i) 0 ⟨by omega,fun _ h=>by omega⟩ ⟨rfl,rfl,rfl,rfl,trivial⟩ (List.Sublist.refl _) ?_
  intro i ⟨hi,hj⟩
  refine c_seq<|c_reg<|s_y (y_lss (p:=i) (q:=q.length))<|s_nil<|q_then<|c_seq<|c_ifd (fun h9=>?_) (fun h9=>?_)
  · have hiq:i < q.length:=by omega
    obtain ⟨x,hx⟩:∃ x,q[i]? = some x:=⟨_,List.getElem?_eq_getElem hiq⟩
    have hgd:q.getD i default = x:=by rw [List.getD_eq_getElem?_getD,hx]; rfl
    refine c_skip<|q_then<|c_seq<|c_block<|c_seq<|c_reg<|s_y y_mv<|s_y y_as<|s_nil<|q_then<|c_seq<|c_reg<|s_y y_mv<|s_y y_mv<|s_y y_mv<|s_y (y_ixs (xs:=vtc q) (i:=((i:Nat):Int)) (hl:=hcl))<|s_y (y_ldra (i:=i * 4) (cs:=x.cell) (rdW0 hr) rfl (fun j v h=>vtc_at hx h))<|s_pure (fun w' hw=>hf x (List.mem_of_getElem? hx) w' hw)<|s_nil<|q_then<|c_if rfl (fun h16=>?_) (fun h16=>?_)
    · rw [fidx_hit (d:=default) hiq hj (by rw [hgd]; exact h16)]
      refine c_seq<|c_reg<|s_y y_mv<|s_y y_as<|s_nil<|q_then<|c_ret<|q_retb<|q_ret<|q_ret<|q_retb<|q_ret<|?_
      exact ret1 Tryz.results120 rv_t fun w' hw=>⟨rfl,hw⟩
    · refine c_skip<|q_nb<|q_then<|c_reg<|s_y (y_add (p:=i) (q:=1))<|s_y y_mv<|s_nil<|q_round (i + 1) ⟨by omega,fun j h=>(Nat.lt_or_ge j i).elim (hj j) fun h8=>by obtain rfl:j = i:=(by omega); rw [hgd]; exact h16⟩ (by omega) ⟨rfl,rfl,rfl,rfl,trivial⟩ (List.Sublist.refl _)
  · rw [fidx_none (d:=default) (p:=p) (l:=q) fun j h=>hj j (by omega)]
    refine c_exit<|q_ex<|q_ex<|q_exb<|q_then<|c_seq<|c_reg<|s_y y_as<|s_nil<|q_then<|c_ret<|?_
    exact ret1 Tryz.results120 rv_t fun w' hw=>⟨rfl,hw⟩
theorem CoF_Vt (w:World) (a:Option Addr) (c:Nat) (q:List Vt) (kf:FuncId) (cs:List Value) [HF Tryz.prog kf] (p:Vt → Bool) (hr:Rd w a (vtc q)) (hl:q.length ≤ 1000000000000000)
    (hf:∀ x ∈ q,∀ w',St w [] w' [] → Pure Tryz.prog kf ([.agg x.cell.toArray] ++ cs) w' (.bool (p x))) :
    Pure Tryz.prog 63 [.slice a q.length c,.func (.func kf) #[] cs.toArray] w (.bool (q.any p)):=by
  rw [← fidx_any]
  refine enter Tryz.func63 Tryz.ntmps63 ?_
  refine c_seq<|c_reg<|s_y y_as<|s_nil<|q_then<|c_seq<|c_reg<|s_y y_mv<|s_y y_mv<|s_pure (fun w' hw=>IxF_Vt w' a c q kf cs p (hr.st hw) hl (fun x hx w2 h2=>hf x hx w2 (by have:=hw.trans h2; simpa using this)))<|s_y (y_geq (p:=fidx p q) (q:=0))<|s_y y_as<|s_nil<|q_then<|c_ret<|?_
  exact ret1 Tryz.results63 rv_t fun w' hw=>⟨rfl,hw⟩
theorem IxF_Ls (w:World) (a:Option Addr) (c:Nat) (q:List Ls) (kf:FuncId) (cs:List Value) [HF Tryz.prog kf] (p:Ls → Bool) (hr:Rd w a (lsc q)) (hl:q.length ≤ 1000000000000000)
    (hf:∀ x ∈ q,∀ w',St w [] w' [] → Pure Tryz.prog kf ([.agg x.cell.toArray] ++ cs) w' (.bool (p x))) :
    Pure Tryz.prog 61 [.slice a q.length c,.func (.func kf) #[] cs.toArray] w (I (fidx p q)):=by
  have hcl:q.length ≤ (lsc q).length:=by rw [lsc_length]; omega
  refine enter Tryz.func61 Tryz.ntmps61 ?_
  refine c_seq<|c_reg<|s_y y_as<|s_nil<|q_then<|c_seq<|c_seq<|c_reg<|s_y y_mv<|s_y y_len<|s_y y_mv<|s_nil<|q_then<|c_block<|?_
  refine c_loop (fun i:Nat=>[(0,.slice a q.length c),(1,.func (.func kf) #[] cs.toArray),(7,I q.length),(8,I i)]) (fun _=>[]) (fun i=>i ≤ q.length ∧ ∀ j,j < i → p (q.getD j default) = false) (fun i=>q.length - i) 0 ⟨by omega,fun _ h=>by omega⟩ ⟨rfl,rfl,rfl,rfl,trivial⟩ (List.Sublist.refl _) ?_
  intro i ⟨hi,hj⟩
  refine c_seq<|c_reg<|s_y (y_lss (p:=i) (q:=q.length))<|s_nil<|q_then<|c_seq<|c_ifd (fun h9=>?_) (fun h9=>?_)
  · have hiq:i < q.length:=by omega
    obtain ⟨x,hx⟩:∃ x,q[i]? = some x:=⟨_,List.getElem?_eq_getElem hiq⟩
    have hgd:q.getD i default = x:=by rw [List.getD_eq_getElem?_getD,hx]; rfl
    refine c_skip<|q_then<|c_seq<|c_block<|c_seq<|c_reg<|s_y y_mv<|s_y y_as<|s_nil<|q_then<|c_seq<|c_reg<|s_y y_mv<|s_y y_mv<|s_y y_mv<|s_y (y_ixs (xs:=lsc q) (i:=((i:Nat):Int)) (hl:=hcl))<|s_y (y_ldra (i:=i * 5) (cs:=x.cell) (rdW0 hr) rfl (fun j v h=>lsc_at hx h))<|s_pure (fun w' hw=>hf x (List.mem_of_getElem? hx) w' hw)<|s_nil<|q_then<|c_if rfl (fun h16=>?_) (fun h16=>?_)
    · rw [fidx_hit (d:=default) hiq hj (by rw [hgd]; exact h16)]
      refine c_seq<|c_reg<|s_y y_mv<|s_y y_as<|s_nil<|q_then<|c_ret<|q_retb<|q_ret<|q_ret<|q_retb<|q_ret<|?_
      exact ret1 Tryz.results61 rv_t fun w' hw=>⟨rfl,hw⟩
    · refine c_skip<|q_nb<|q_then<|c_reg<|s_y (y_add (p:=i) (q:=1))<|s_y y_mv<|s_nil<|q_round (i + 1) ⟨by omega,fun j h=>(Nat.lt_or_ge j i).elim (hj j) fun h8=>by obtain rfl:j = i:=(by omega); rw [hgd]; exact h16⟩ (by omega) ⟨rfl,rfl,rfl,rfl,trivial⟩ (List.Sublist.refl _)
  · rw [fidx_none (d:=default) (p:=p) (l:=q) fun j h=>hj j (by omega)]
    refine c_exit<|q_ex<|q_ex<|q_exb<|q_then<|c_seq<|c_reg<|s_y y_as<|s_nil<|q_then<|c_ret<|?_
    exact ret1 Tryz.results61 rv_t fun w' hw=>⟨rfl,hw⟩
theorem IxF_int (w:World) (a:Option Addr) (c:Nat) (q:List Int) (kf:FuncId) (cs:List Value) [HF Tryz.prog kf] (p:Int → Bool) (hr:Rd w a (is q)) (hl:q.length ≤ 1000000000000000)
    (hf:∀ x ∈ q,∀ w',St w [] w' [] → Pure Tryz.prog kf ([I x] ++ cs) w' (.bool (p x))) :
    Pure Tryz.prog 138 [.slice a q.length c,.func (.func kf) #[] cs.toArray] w (I (fidx p q)):=by
  refine enter Tryz.func138 Tryz.ntmps138 ?_
  refine c_seq<|c_reg<|s_y y_as<|s_nil<|q_then<|c_seq<|c_seq<|c_reg<|s_y y_mv<|s_y y_len<|s_y y_mv<|s_nil<|q_then<|c_block<|?_
  refine c_loop (fun i:Nat=>[(0,.slice a q.length c),(1,.func (.func kf) #[] cs.toArray),(7,I q.length),(8,I i)]) (fun _=>[]) (fun i=>i ≤ q.length ∧ ∀ j,j < i → p (q.getD j 0) = false) (fun i=>q.length - i) 0 ⟨by omega,fun _ h=>by omega⟩ ⟨rfl,rfl,rfl,rfl,trivial⟩ (List.Sublist.refl _) ?_
  intro i ⟨hi,hj⟩
  refine c_seq<|c_reg<|s_y (y_lss (p:=i) (q:=q.length))<|s_nil<|q_then<|c_seq<|c_ifd (fun h9=>?_) (fun h9=>?_)
  · have hiq:i < q.length:=by omega
    have hmem:q.getD i 0 ∈ q:=by rw [List.getD_eq_getElem?_getD,List.getElem?_eq_getElem hiq]; exact List.getElem_mem hiq
    refine c_skip<|q_then<|c_seq<|c_block<|c_seq<|c_reg<|s_y y_mv<|s_y y_as<|s_nil<|q_then<|c_seq<|c_reg<|s_y y_mv<|s_y y_mv<|s_y y_mv<|s_y (y_ixs1 (xs:=is q) (i:=((i:Nat):Int)))<|s_y (y_ldi (i:=i) (q:=q) (hi:=hiq))<|s_pure (fun w' hw=>hf _ hmem w' hw)<|s_nil<|q_then<|c_if rfl (fun h16=>?_) (fun h16=>?_)
    · rw [fidx_hit (d:=0) hiq hj h16]
      refine c_seq<|c_reg<|s_y y_mv<|s_y y_as<|s_nil<|q_then<|c_ret<|q_retb<|q_ret<|q_ret<|q_retb<|q_ret<|?_
      exact ret1 Tryz.results138 rv_t fun w' hw=>⟨rfl,hw⟩
    · refine c_skip<|q_nb<|q_then<|c_reg<|s_y (y_add (p:=i) (q:=1))<|s_y y_mv<|s_nil<|q_round (i + 1) ⟨by omega,fun j h=>(Nat.lt_or_ge j i).elim (hj j) fun h8=>by obtain rfl:j = i:=(by omega); exact h16⟩ (by omega) ⟨rfl,rfl,rfl,rfl,trivial⟩ (List.Sublist.refl _)
  · rw [fidx_none (d:=0) (p:=p) (l:=q) fun j h=>hj j (by omega)]
    refine c_exit<|q_ex<|q_ex<|q_exb<|q_then<|c_seq<|c_reg<|s_y y_as<|s_nil<|q_then<|c_ret<|?_
    exact ret1 Tryz.results138 rv_t fun w' hw=>⟨rfl,hw⟩
theorem CoF_int (w:World) (a:Option Addr) (c:Nat) (q:List Int) (kf:FuncId) (cs:List Value) [HF Tryz.prog kf] (p:Int → Bool) (hr:Rd w a (is q)) (hl:q.length ≤ 1000000000000000)
    (hf:∀ x ∈ q,∀ w',St w [] w' [] → Pure Tryz.prog kf ([I x] ++ cs) w' (.bool (p x))) :
    Pure Tryz.prog 81 [.slice a q.length c,.func (.func kf) #[] cs.toArray] w (.bool (q.any p)):=by
  rw [← fidx_any]
  refine enter Tryz.func81 Tryz.ntmps81 ?_
  refine c_seq<|c_reg<|s_y y_as<|s_nil<|q_then<|c_seq<|c_reg<|s_y y_mv<|s_y y_mv<|s_pure (fun w' hw=>IxF_int w' a c q kf cs p (hr.st hw) hl (fun x hx w2 h2=>hf x hx w2 (by have:=hw.trans h2; simpa using this)))<|s_y (y_geq (p:=fidx p q) (q:=0))<|s_y y_as<|s_nil<|q_then<|c_ret<|?_
  exact ret1 Tryz.results81 rv_t fun w' hw=>⟨rfl,hw⟩
theorem demand_ok (w:World) (c:Int):Pure Tryz.prog 49 [.bool true,I c] w (.tuple #[]):=by
  refine enter Tryz.func49 Tryz.ntmps49 ?_
  refine c_seq<|c_reg<|s_y y_mv<|s_y (v:=.bool false) (y_not (b:=true))<|s_nil<|q_then<|c_f<|c_skip<|?_
  exact ret0 Tryz.results49 (fun w' hw=>⟨rfl,hw⟩) _ (.inr rfl)
theorem demand_dies (w:World) (c:Int):Dies Tryz.prog 49 [.bool false,I c] w (.iface 194 (.agg #[I c])):=by
  refine enter Tryz.func49 Tryz.ntmps49 ?_
  refine c_seq<|c_reg<|s_y y_mv<|s_y (v:=.bool true) (y_not (b:=false))<|s_nil<|q_then<|c_t<|c_reg<|s_y y_mv<|s_y (y_brfail (cs:=[I c]))<|s_y y_mki<|s_panic<|?_
  exact Eng.die fun w' hw=>⟨rfl,hw⟩
theorem try_ok (w:World):Pure Tryz.prog 54 [I 0] w (.tuple #[]):=by
  refine enter Tryz.func54 Tryz.ntmps54 ?_
  refine c_reg<|s_y y_mv<|s_kt (y_eql (p:=0) (q:=0)) (by omega)<|s_y y_mv<|s_pure (fun w' hw=>demand_ok w' 0)<|s_nil<|?_
  exact ret0 Tryz.results54 (fun w' hw=>⟨rfl,hw⟩) _ (.inr rfl)
theorem try_dies (w:World) (c:Int) (h:c ≠ 0):Dies Tryz.prog 54 [I c] w (.iface 194 (.agg #[I c])):=by
  refine enter Tryz.func54 Tryz.ntmps54 ?_
  refine c_reg<|s_y y_mv<|s_kf (y_eql (p:=c) (q:=0)) h<|s_y y_mv<|s_dies (fun w' hw=>demand_dies w' c)<|?_
  exact Eng.die fun w' hw=>⟨rfl,hw⟩
theorem between_lo (w:World) (n a b:Int) (h:¬ a ≤ n):Pure Tryz.prog 53 [I n,I a,I b] w (.bool false):=by
  refine enter Tryz.func53 Tryz.ntmps53 ?_
  refine c_seq<|c_reg<|s_y y_as<|s_nil<|q_then<|c_seq<|c_reg<|s_y y_mv<|s_y y_mv<|s_kf (y_leq (p:=a) (q:=n)) h<|s_y y_mv<|s_no<|s_no<|s_no<|s_y y_pk<|s_y y_as<|s_nil<|q_then<|c_ret<|?_
  exact ret1 Tryz.results53 rv_t fun w' hw=>⟨rfl,hw.sub (List.nil_sublist _)⟩
theorem between_hi (w:World) (n a b:Int) (h:a ≤ n):Pure Tryz.prog 53 [I n,I a,I b] w (.bool (decide (n ≤ b))):=by
  refine enter Tryz.func53 Tryz.ntmps53 ?_
  refine c_seq<|c_reg<|s_y y_as<|s_nil<|q_then<|c_seq<|c_reg<|s_y y_mv<|s_y y_mv<|s_kt (y_leq (p:=a) (q:=n)) h<|s_y y_mv<|s_y y_mv<|s_y y_mv<|s_y (y_leq (p:=n) (q:=b))<|s_y y_pk<|s_y y_as<|s_nil<|q_then<|c_ret<|?_
  exact ret1 Tryz.results53 rv_t fun w' hw=>⟨rfl,hw.sub (List.nil_sublist _)⟩
theorem between_ok (w:World) (n a b:Int) (x:Bool) (h:(a ≤ n ∧ n ≤ b) ↔ x = true):Pure Tryz.prog 53 [I n,I a,I b] w (.bool x):=by
  by_cases h1:a ≤ n
  · have h2:=between_hi w n a b h1
    have e:decide (n ≤ b) = x:=by
      cases x with
      | true=>exact decide_eq_true (h.2 rfl).2
      | false=>exact decide_eq_false fun h3=>by have:=h.1 ⟨h1,h3⟩; cases this
    rwa [e] at h2
  · have e:x = false:=by
      cases x with
      | true=>exact absurd (h.2 rfl).1 h1
      | false=>rfl
    rw [e]; exact between_lo w n a b h1
theorem valid1_ok (w:World) (n:Int):Pure Tryz.prog 80 [I n] w (I n):=by
  refine enter Tryz.func80 Tryz.ntmps80 ?_
  refine c_seq<|c_reg<|s_y y_as<|s_nil<|q_then<|c_seq<|c_reg<|s_y y_mv<|s_y y_as<|s_nil<|q_then<|c_ret<|?_
  exact ret1 Tryz.results80 rv_t fun w' hw=>⟨rfl,hw.sub (List.nil_sublist _)⟩
theorem guardOf_ok' (w:World) (x:Ap):Pure Tryz.prog 110 [.agg #[I x.g,I x.u,.slice x.a x.q.length x.c,I x.r,I x.s]] w (I x.g):=by
  refine enter Tryz.func110 Tryz.ntmps110 ?_
  refine c_seq<|c_reg<|s_box rfl fun b1=>s_y y_as<|s_nil<|q_then<|c_seq<|c_reg<|s_y y_fa<|s_y (y_ld (b:=b1) (v:=I x.g))<|s_y y_as<|s_nil<|q_then<|c_ret<|?_
  exact ret1 Tryz.results110 rv_t fun w' hw=>⟨rfl,hw.sub (List.nil_sublist _)⟩
theorem deviceOf_ok' (w:World) (x:Vt):Pure Tryz.prog 112 [.agg #[I x.d,I x.no,I x.r,I x.s]] w (I x.d):=by
  refine enter Tryz.func112 Tryz.ntmps112 ?_
  refine c_seq<|c_reg<|s_box rfl fun b1=>s_y y_as<|s_nil<|q_then<|c_seq<|c_reg<|s_y y_fa<|s_y (y_ld (b:=b1) (v:=I x.d))<|s_y y_as<|s_nil<|q_then<|c_ret<|?_
  exact ret1 Tryz.results112 rv_t fun w' hw=>⟨rfl,hw.sub (List.nil_sublist _)⟩
theorem guardOf_ok (w:World) (x:Ap):Pure Tryz.prog 110 [.agg x.cell.toArray] w (I x.g):=guardOf_ok' w x
theorem deviceOf_ok (w:World) (x:Vt):Pure Tryz.prog 112 [.agg x.cell.toArray] w (I x.d):=deviceOf_ok' w x
theorem kvs_in {k:Int} {l:List Int} (h:k ∈ l):∃ p ∈ l.map (fun x=>(x,Value.bool true)),p.1 = k:=⟨_,List.mem_map.2 ⟨k,h,rfl⟩,rfl⟩
theorem kvs_all {k:Int} {l:List Int}:∀ p ∈ l.map (fun x=>(x,Value.bool true)),p.1 = k → p.2 = .bool true:=fun p hp _=>by
  obtain ⟨x,_,rfl⟩:=List.mem_map.1 hp; rfl
theorem kvs_no {k:Int} {l:List Int} (h:k ∉ l):∀ p ∈ l.map (fun x=>(x,Value.bool true)),p.1 ≠ k:=fun p hp e=>by
  obtain ⟨x,hx,rfl⟩:=List.mem_map.1 hp; exact h (e ▸ hx)
theorem take_nd {l:List Int} {k:Nat} {x:Int} (hx:l[k]? = some x) (h:(l.take k).Nodup) (hn:x ∉ l.take k):(l.take (k + 1)).Nodup ∧ l.take (k + 1) = l.take k ++ [x]:=by
  have e:l.take (k + 1) = l.take k ++ [x]:=by rw [List.take_add_one,hx]; rfl
  refine ⟨?_,e⟩
  rw [e,List.nodup_append]
  exact ⟨h,List.nodup_cons.2 ⟨by simp,List.nodup_nil⟩,fun a ha b hb=>by rw [List.mem_singleton] at hb; subst hb; exact fun e=>hn (e ▸ ha)⟩
theorem take_not {l:List Int} {k:Nat} {x:Int} (hx:l[k]? = some x) (hn:x ∈ l.take k):¬ l.Nodup:=fun h=>by
  obtain ⟨hk,rfl⟩:=List.getElem?_eq_some_iff.1 hx
  obtain ⟨j,hj,e⟩:=List.getElem_of_mem hn
  rw [List.getElem_take] at e
  have hjk:j < k:=by rw [List.length_take] at hj; omega
  exact List.pairwise_iff_getElem.1 h j k (by omega) hk hjk e
theorem dist_int (w:World) (a:Option Addr) (c:Nat) (q:List Int) (hr:Rd w a (is q)) (hl:q.length ≤ 1000000000000000) :
    Pure Tryz.prog 79 [.slice a q.length c,.func (.func 80) #[] #[]] w (.bool (decide q.Nodup)):=by
  refine enter Tryz.func79 Tryz.ntmps79 ?_
  refine c_seq<|c_reg<|s_y y_as<|s_nil<|q_then<|c_seq<|c_reg<|s_mkmap (.inl rfl) fun m8=>s_y y_as<|s_nil<|q_then<|c_seq<|c_seq<|c_reg<|s_y y_mv<|s_y y_len<|s_y y_mv<|s_nil<|q_then<|c_block<|?_
  refine c_loop (fun k:Nat=>[(0,.slice a q.length c),(1,.func (.func 80) #[] #[]),(5,.map (some m8)),(9,.slice a q.length c),(10,I q.length),(11,I k)]) (fun k=>[mblk m8 ((q.take k).map fun x=>(x,Value.bool true))]) (fun k=>k ≤ q.length ∧ (q.take k).Nodup) (fun k=>q.length - k) 0 ⟨by omega,by simp⟩ ⟨rfl,rfl,rfl,rfl,rfl,rfl,trivial⟩ (List.Sublist.refl _) ?_
  intro k ⟨hk,hnd⟩
  refine c_seq<|c_reg<|s_y (y_lss (p:=((k:Nat):Int)) (q:=((q.length:Nat):Int)))<|s_nil<|q_then<|c_seq<|c_ifd (fun h12=>?_) (fun h12=>?_)
  · have hkq:k < q.length:=by omega
    obtain ⟨x,hx⟩:∃ x,q[k]? = some x:=⟨_,List.getElem?_eq_getElem hkq⟩
    have hgd:q.getD k 0 = x:=by rw [List.getD_eq_getElem?_getD,hx]; rfl
    have hxk:q[k]? = some x:=hx
    refine c_skip<|q_then<|c_seq<|c_block<|c_seq<|c_reg<|s_y (y_ixs1 (xs:=is q) (i:=((k:Nat):Int)))<|s_y (y_ldi (i:=k) (q:=q) (hi:=hkq))<|?_
    rw [hgd]
    refine s_y y_as<|s_nil<|q_then<|c_seq<|c_seq<|c_reg<|s_y y_mv<|s_y y_mv<|s_y y_mv<|s_pure (fun w' hw=>valid1_ok w' x)<|?_
    by_cases hin:x ∈ q.take k
    · rw [decide_eq_false (take_not hxk hin)]
      refine s_y (v:=.bool true) (y_lookY (c2:=false) (k:=x) (kv:=((q.take k).map fun x=>(x,Value.bool true))) (kvs_in hin) kvs_all)<|s_nil<|q_then<|c_t<|c_seq<|c_reg<|s_y y_as<|s_nil<|q_then<|c_ret<|q_ret<|q_retb<|q_ret<|q_ret<|q_retb<|q_ret<|?_
      exact ret1 Tryz.results79 rv_t fun w' hw=>⟨rfl,hw.sub (List.nil_sublist _)⟩
    · obtain ⟨h1,h2⟩:=take_nd hxk hnd hin
      have e:((q.take k).map fun x=>(x,Value.bool true)) ++ [(x,Value.bool true)] = ((q.take (k + 1)).map fun x=>(x,Value.bool true)):=by rw [h2,List.map_append]; rfl
      refine s_y (v:=.bool false) (y_lookN (c2:=false) (k:=x) (kv:=((q.take k).map fun x=>(x,Value.bool true))) (kvs_no hin))<|s_nil<|q_then<|c_f<|c_skip<|q_then<|c_reg<|s_y y_mv<|s_y y_mv<|s_y y_mv<|s_pure (fun w' hw=>valid1_ok w' x)<|s_mupd (k:=x) (kv:=((q.take k).map fun x=>(x,Value.bool true))) (v:=.bool true) (hne:=kvs_no hin) ?_
      rw [e]
      refine s_nil<|q_nb<|q_then<|c_reg<|s_y (y_add (p:=((k:Nat):Int)) (q:=1))<|s_y y_mv<|s_nil<|?_
      exact q_round (k + 1) ⟨by omega,h1⟩ (by omega) ⟨rfl,rfl,rfl,rfl,rfl,rfl,trivial⟩ (by repeat (first | exact List.Sublist.refl _ | apply List.Sublist.cons))
  · have hkq:k = q.length:=by omega
    have e:q.Nodup:=by
      have h3:q.take k = q:=List.take_of_length_le (by omega)
      rwa [h3] at hnd
    rw [decide_eq_true e]
    refine c_exit<|q_ex<|q_ex<|q_exb<|q_then<|c_seq<|c_reg<|s_y y_as<|s_nil<|q_then<|c_ret<|?_
    exact ret1 Tryz.results79 rv_t fun w' hw=>⟨rfl,hw.sub (List.nil_sublist _)⟩
theorem dist_Ap (w:World) (a:Option Addr) (c:Nat) (q:List Ap) (hr:Rd w a (apc q)) (hl:q.length ≤ 1000000000000000) :
    Pure Tryz.prog 109 [.slice a q.length c,.func (.func 110) #[] #[]] w (.bool (decide (q.map Ap.g).Nodup)):=by
  have hcl:q.length ≤ (apc q).length:=by rw [apc_length]; omega
  refine enter Tryz.func109 Tryz.ntmps109 ?_
  refine c_seq<|c_reg<|s_y y_as<|s_nil<|q_then<|c_seq<|c_reg<|s_mkmap (.inl rfl) fun m8=>s_y y_as<|s_nil<|q_then<|c_seq<|c_seq<|c_reg<|s_y y_mv<|s_y y_len<|s_y y_mv<|s_nil<|q_then<|c_block<|?_
  refine c_loop (fun k:Nat=>[(0,.slice a q.length c),(1,.func (.func 110) #[] #[]),(5,.map (some m8)),(9,.slice a q.length c),(10,I q.length),(11,I k)]) (fun k=>[mblk m8 (((q.map Ap.g).take k).map fun x=>(x,Value.bool true))]) (fun k=>k ≤ q.length ∧ ((q.map Ap.g).take k).Nodup) (fun k=>q.length - k) 0 ⟨by omega,by simp⟩ ⟨rfl,rfl,rfl,rfl,rfl,rfl,trivial⟩ (List.Sublist.refl _) ?_
  intro k ⟨hk,hnd⟩
  refine c_seq<|c_reg<|s_y (y_lss (p:=((k:Nat):Int)) (q:=((q.length:Nat):Int)))<|s_nil<|q_then<|c_seq<|c_ifd (fun h12=>?_) (fun h12=>?_)
  · have hkq:k < q.length:=by omega
    obtain ⟨x,hx⟩:∃ x,q[k]? = some x:=⟨_,List.getElem?_eq_getElem hkq⟩
    have hxk:(q.map Ap.g)[k]? = some (Ap.g x):=by rw [List.getElem?_map,hx]; rfl
    refine c_skip<|q_then<|c_seq<|c_block<|c_seq<|c_reg<|s_y (y_ixs (xs:=apc q) (i:=((k:Nat):Int)) (hl:=hcl))<|s_y (y_ldra (i:=k * 5) (cs:=x.cell) (rdW0 hr) rfl (fun j v h=>apc_at hx h))<|s_alloc fun b7=>s_sta (b:=b7) (vs:=x.cell.toArray) (cs:=#[I 0,I 0,.slice none 0 0,I 0,I 0]) (h1:=fun v hv=>ap_one [x] v (by simpa [apc] using hv)) (hl:=rfl) (hs1:=rfl) ?_
    refine s_nil<|q_then<|c_seq<|c_seq<|c_reg<|s_y y_mv<|s_y y_mv<|s_y (y_lda (b:=b7) (cs:=x.cell.toArray) (hl:=rfl))<|s_pure (fun w' hw=>guardOf_ok w' x)<|?_
    by_cases hin:Ap.g x ∈ (q.map Ap.g).take k
    · rw [decide_eq_false (take_not hxk hin)]
      refine s_y (v:=.bool true) (y_lookY (c2:=false) (k:=Ap.g x) (kv:=(((q.map Ap.g).take k).map fun x=>(x,Value.bool true))) (kvs_in hin) kvs_all)<|s_nil<|q_then<|c_t<|c_seq<|c_reg<|s_y y_as<|s_nil<|q_then<|c_ret<|q_ret<|q_retb<|q_ret<|q_ret<|q_retb<|q_ret<|?_
      exact ret1 Tryz.results109 rv_t fun w' hw=>⟨rfl,hw.sub (List.nil_sublist _)⟩
    · obtain ⟨h1,h2⟩:=take_nd hxk hnd hin
      have e:(((q.map Ap.g).take k).map fun x=>(x,Value.bool true)) ++ [(Ap.g x,Value.bool true)] = (((q.map Ap.g).take (k + 1)).map fun x=>(x,Value.bool true)):=by rw [h2,List.map_append]; rfl
      refine s_y (v:=.bool false) (y_lookN (c2:=false) (k:=Ap.g x) (kv:=(((q.map Ap.g).take k).map fun x=>(x,Value.bool true))) (kvs_no hin))<|s_nil<|q_then<|c_f<|c_skip<|q_then<|c_reg<|s_y y_mv<|s_y y_mv<|s_y (y_lda (b:=b7) (cs:=x.cell.toArray) (hl:=rfl))<|s_pure (fun w' hw=>guardOf_ok w' x)<|s_mupd (k:=Ap.g x) (kv:=(((q.map Ap.g).take k).map fun x=>(x,Value.bool true))) (v:=.bool true) (hne:=kvs_no hin) ?_
      rw [e]
      refine s_nil<|q_nb<|q_then<|c_reg<|s_y (y_add (p:=((k:Nat):Int)) (q:=1))<|s_y y_mv<|s_nil<|?_
      exact q_round (k + 1) ⟨by omega,h1⟩ (by omega) ⟨rfl,rfl,rfl,rfl,rfl,rfl,trivial⟩ (by repeat (first | exact List.Sublist.refl _ | apply List.Sublist.cons))
  · have hkq:k = q.length:=by omega
    have e:(q.map Ap.g).Nodup:=by
      have h3:(q.map Ap.g).take k = (q.map Ap.g):=List.take_of_length_le (by rw [List.length_map]; omega)
      rwa [h3] at hnd
    rw [decide_eq_true e]
    refine c_exit<|q_ex<|q_ex<|q_exb<|q_then<|c_seq<|c_reg<|s_y y_as<|s_nil<|q_then<|c_ret<|?_
    exact ret1 Tryz.results109 rv_t fun w' hw=>⟨rfl,hw.sub (List.nil_sublist _)⟩
theorem dist_Vt (w:World) (a:Option Addr) (c:Nat) (q:List Vt) (hr:Rd w a (vtc q)) (hl:q.length ≤ 1000000000000000) :
    Pure Tryz.prog 111 [.slice a q.length c,.func (.func 112) #[] #[]] w (.bool (decide (q.map Vt.d).Nodup)):=by
  have hcl:q.length ≤ (vtc q).length:=by rw [vtc_length]; omega
  refine enter Tryz.func111 Tryz.ntmps111 ?_
  refine c_seq<|c_reg<|s_y y_as<|s_nil<|q_then<|c_seq<|c_reg<|s_mkmap (.inl rfl) fun m8=>s_y y_as<|s_nil<|q_then<|c_seq<|c_seq<|c_reg<|s_y y_mv<|s_y y_len<|s_y y_mv<|s_nil<|q_then<|c_block<|?_
  refine c_loop (fun k:Nat=>[(0,.slice a q.length c),(1,.func (.func 112) #[] #[]),(5,.map (some m8)),(9,.slice a q.length c),(10,I q.length),(11,I k)]) (fun k=>[mblk m8 (((q.map Vt.d).take k).map fun x=>(x,Value.bool true))]) (fun k=>k ≤ q.length ∧ ((q.map Vt.d).take k).Nodup) (fun k=>q.length - k) 0 ⟨by omega,by simp⟩ ⟨rfl,rfl,rfl,rfl,rfl,rfl,trivial⟩ (List.Sublist.refl _) ?_
  intro k ⟨hk,hnd⟩
  refine c_seq<|c_reg<|s_y (y_lss (p:=((k:Nat):Int)) (q:=((q.length:Nat):Int)))<|s_nil<|q_then<|c_seq<|c_ifd (fun h12=>?_) (fun h12=>?_)
  · have hkq:k < q.length:=by omega
    obtain ⟨x,hx⟩:∃ x,q[k]? = some x:=⟨_,List.getElem?_eq_getElem hkq⟩
    have hxk:(q.map Vt.d)[k]? = some (Vt.d x):=by rw [List.getElem?_map,hx]; rfl
    refine c_skip<|q_then<|c_seq<|c_block<|c_seq<|c_reg<|s_y (y_ixs (xs:=vtc q) (i:=((k:Nat):Int)) (hl:=hcl))<|s_y (y_ldra (i:=k * 4) (cs:=x.cell) (rdW0 hr) rfl (fun j v h=>vtc_at hx h))<|s_alloc fun b7=>s_sta (b:=b7) (vs:=x.cell.toArray) (cs:=#[I 0,I 0,I 0,I 0]) (h1:=fun v hv=>vt_one [x] v (by simpa [vtc] using hv)) (hl:=rfl) (hs1:=rfl) ?_
    refine s_nil<|q_then<|c_seq<|c_seq<|c_reg<|s_y y_mv<|s_y y_mv<|s_y (y_lda (b:=b7) (cs:=x.cell.toArray) (hl:=rfl))<|s_pure (fun w' hw=>deviceOf_ok w' x)<|?_
    by_cases hin:Vt.d x ∈ (q.map Vt.d).take k
    · rw [decide_eq_false (take_not hxk hin)]
      refine s_y (v:=.bool true) (y_lookY (c2:=false) (k:=Vt.d x) (kv:=(((q.map Vt.d).take k).map fun x=>(x,Value.bool true))) (kvs_in hin) kvs_all)<|s_nil<|q_then<|c_t<|c_seq<|c_reg<|s_y y_as<|s_nil<|q_then<|c_ret<|q_ret<|q_retb<|q_ret<|q_ret<|q_retb<|q_ret<|?_
      exact ret1 Tryz.results111 rv_t fun w' hw=>⟨rfl,hw.sub (List.nil_sublist _)⟩
    · obtain ⟨h1,h2⟩:=take_nd hxk hnd hin
      have e:(((q.map Vt.d).take k).map fun x=>(x,Value.bool true)) ++ [(Vt.d x,Value.bool true)] = (((q.map Vt.d).take (k + 1)).map fun x=>(x,Value.bool true)):=by rw [h2,List.map_append]; rfl
      refine s_y (v:=.bool false) (y_lookN (c2:=false) (k:=Vt.d x) (kv:=(((q.map Vt.d).take k).map fun x=>(x,Value.bool true))) (kvs_no hin))<|s_nil<|q_then<|c_f<|c_skip<|q_then<|c_reg<|s_y y_mv<|s_y y_mv<|s_y (y_lda (b:=b7) (cs:=x.cell.toArray) (hl:=rfl))<|s_pure (fun w' hw=>deviceOf_ok w' x)<|s_mupd (k:=Vt.d x) (kv:=(((q.map Vt.d).take k).map fun x=>(x,Value.bool true))) (v:=.bool true) (hne:=kvs_no hin) ?_
      rw [e]
      refine s_nil<|q_nb<|q_then<|c_reg<|s_y (y_add (p:=((k:Nat):Int)) (q:=1))<|s_y y_mv<|s_nil<|?_
      exact q_round (k + 1) ⟨by omega,h1⟩ (by omega) ⟨rfl,rfl,rfl,rfl,rfl,rfl,trivial⟩ (by repeat (first | exact List.Sublist.refl _ | apply List.Sublist.cons))
  · have hkq:k = q.length:=by omega
    have e:(q.map Vt.d).Nodup:=by
      have h3:(q.map Vt.d).take k = (q.map Vt.d):=List.take_of_length_le (by rw [List.length_map]; omega)
      rwa [h3] at hnd
    rw [decide_eq_true e]
    refine c_exit<|q_ex<|q_ex<|q_exb<|q_then<|c_seq<|c_reg<|s_y y_as<|s_nil<|q_then<|c_ret<|?_
    exact ret1 Tryz.results111 rv_t fun w' hw=>⟨rfl,hw.sub (List.nil_sublist _)⟩
theorem CloneI_ok (w:World) (a:Option Addr) (c:Nat) (q:List Int) (hr:Rd w a (is q)) (hl:q.length < 1000000000) :
    Gives Tryz.prog 18 [.slice a q.length c] w [] (fun y:Option Addr × Nat=>.slice y.1 q.length y.2) (fun y=>[.row y.1 y.2 3 1 q.length (is q)]) (fun _=>True):=by
  refine enter Tryz.func18 Tryz.ntmps18 ?_
  cases hn:a.isNone with
  | true =>
    have ha:a = none:=by cases a with
      | none=>rfl
      | some _=>cases hn
    subst ha
    have hq:q = []:=by
      rcases hr with h | ⟨b,off,cs,t,fz,h,_⟩
      · simpa [is] using h
      · cases h
    subst hq
    refine c_seq<|c_reg<|s_y y_as<|s_nil<|q_then<|c_seq<|c_seq<|c_reg<|s_y y_mv<|s_y y_eqln<|s_nil<|q_then<|c_t<|c_seq<|c_reg<|s_y y_as<|s_nil<|q_then<|c_ret<|q_ret<|?_
    exact ret1 Tryz.results18 rv_t fun w' hw=>⟨(none,0),trivial,rfl,(hw.nilRow _ _).sub (List.Sublist.refl _)⟩
  | false =>
    refine c_seq<|c_reg<|s_y y_as<|s_nil<|q_then<|c_seq<|c_seq<|c_reg<|s_y y_mv<|s_y y_eqln<|?_
    rw [hn]
    refine s_nil<|q_then<|c_f<|c_skip<|q_then<|c_seq<|c_reg<|s_bsl0 fun b5=>s_y y_mv<|s_app (m:=q.length) (fun w' hw=>Src.slice (rdW0 hr w' hw) (by rw [is_length,Nat.mul_one])) (h1:=fun v hv=>is_one hv) (hm:=.head _) (hrep:=fun _ _=>.head _) fun a7 c7 h7=>?_
    rw [List.nil_append,Nat.zero_add]
    refine s_y y_as<|s_nil<|q_then<|c_ret<|?_
    exact ret1 Tryz.results18 rv_t fun w' hw=>⟨(a7,c7),trivial,rfl,hw⟩
theorem ClipA_ok (w:World) (a:Option Addr) (n c:Nat) (hn:n ≤ c):Pure Tryz.prog 59 [.slice a n c] w (.slice a n n):=by
  refine enter Tryz.func59 Tryz.ntmps59 ?_
  refine c_seq<|c_reg<|s_y y_as<|s_nil<|q_then<|c_seq<|c_reg<|s_y y_mv<|s_y y_mv<|s_y y_len<|s_y y_mv<|s_y y_len<|s_y (y_slhmB (j:=((n:Nat):Int)) (h:=((n:Nat):Int)))<|s_y y_as<|s_nil<|q_then<|c_ret<|?_
  exact ret1 Tryz.results59 rv_t fun w' hw=>⟨rfl,hw⟩
theorem ClipV_ok (w:World) (a:Option Addr) (n c:Nat) (hn:n ≤ c):Pure Tryz.prog 65 [.slice a n c] w (.slice a n n):=by
  refine enter Tryz.func65 Tryz.ntmps65 ?_
  refine c_seq<|c_reg<|s_y y_as<|s_nil<|q_then<|c_seq<|c_reg<|s_y y_mv<|s_y y_mv<|s_y y_len<|s_y y_mv<|s_y y_len<|s_y (y_slhmB (j:=((n:Nat):Int)) (h:=((n:Nat):Int)))<|s_y y_as<|s_nil<|q_then<|c_ret<|?_
  exact ret1 Tryz.results65 rv_t fun w' hw=>⟨rfl,hw⟩
end Go.Proofs.YtegfmbefhpagmaaGreatDoor
end
section
namespace Go.Proofs.YtegfmbefhpagmaaGreatDoor
open Go Eng
theorem slices_Index_int_int_ok (w:World) (a:Option Addr) (q:List Int) (c:Nat) (v:Int) (hr:Rd w a (is q)) (hl:q.length < 9223372036854775807) :
    Pure Tryz.prog 50 [.slice a q.length c,I v] w (I (fidx (fun x=>decide (v = x)) q)):=by
  refine enter Tryz.func50 Tryz.ntmps50 ?_
  refine c_seq<|c_reg<|s_y y_as<|s_nil<|q_then<|c_seq<|c_seq<|c_reg<|s_y y_mv<|s_y y_len<|s_y y_mv<|s_nil<|q_then<|c_block<|?_
  refine c_loop (fun k:Nat=>[(0,.slice a q.length c),(1,I v),(7,I q.length),(8,I k)]) (fun _=>[]) (fun k=>k ≤ q.length ∧ ∀ i,i < k → decide (v = q.getD i 0) = false) (fun k=>q.length - k) 0 ⟨by omega,by omega⟩ ⟨rfl,rfl,rfl,rfl,trivial⟩ (List.Sublist.refl _) ?_
  intro k ⟨hk,hno⟩
  refine c_seq<|c_reg<|s_y y_lss<|s_nil<|q_then<|c_seq<|?_
  refine c_ifd (fun h9=>?_) (fun h9=>?_)
  · refine c_skip<|q_then<|c_seq<|c_block<|c_seq<|c_reg<|s_y y_mv<|s_y y_as<|s_nil<|q_then<|c_seq<|c_reg<|s_y y_mv<|s_y y_mv<|s_y y_mv<|s_y y_ixs1<|s_y y_ldi<|s_y y_eql<|s_nil<|q_then<|?_
    rw [Int.toNat_natCast]
    refine c_ifd (fun h16=>?_) (fun h16=>?_)
    · refine c_seq<|c_reg<|s_y y_mv<|s_y y_as<|s_nil<|q_then<|?_
      refine c_ret<|q_retb<|q_ret<|q_ret<|q_retb<|q_ret<|?_
      exact ret1 Tryz.results50 rv_t fun w' hw=>⟨by rw [fidx_hit (d:=0) (by omega) hno (by simpa using h16)],hw⟩
    · refine c_skip<|q_nb<|q_then<|c_reg<|s_y y_add<|s_y y_mv<|s_nil<|q_round (k + 1) ⟨by omega,?_⟩ (by omega) ⟨rfl,rfl,rfl,rfl,trivial⟩ (List.Sublist.refl _)
      intro i hi
      by_cases e:i = k
      · subst e; simpa using h16
      · exact hno i (by omega)
  · refine c_exit<|q_ex<|q_ex<|q_exb<|q_then<|c_seq<|c_reg<|s_y y_as<|s_nil<|q_then<|?_
    refine c_ret<|?_
    exact ret1 Tryz.results50 rv_t fun w' hw=>⟨by rw [fidx_none (d:=0) (fun i hi=>hno i (by omega))],hw⟩
theorem slices_Contains_int_int_ok (w:World) (a:Option Addr) (q:List Int) (c:Nat) (v:Int) (hr:Rd w a (is q)) (hl:q.length < 9223372036854775807) :
    Pure Tryz.prog 114 [.slice a q.length c,I v] w (.bool (q.any (fun x=>decide (v = x)))):=by
  refine enter Tryz.func114 Tryz.ntmps114 ?_
  refine c_seq<|c_reg<|s_y y_as<|s_nil<|q_then<|c_seq<|c_reg<|s_y y_mv<|s_y y_mv<|s_pure (fun w' hw=>slices_Index_int_int_ok w' a q c v (hr.st hw) hl)<|s_y y_geq<|s_y y_as<|s_nil<|q_then<|?_
  refine c_ret<|?_
  exact ret1 Tryz.results114 rv_t fun w' hw=>⟨by rw [fidx_any],hw⟩
end Go.Proofs.YtegfmbefhpagmaaGreatDoor
end
section
namespace Rst
open Go Eng
def vB (id g:Int):Bool:=decide (g = id ∨ ¬ ((0:Int) ≤ g ∧ (g:Int) ≤ 63))
theorem vB_any {p:Pn}:p.gs.any (vB p.id) = false ↔ ∀ g ∈ p.gs,g ≠ p.id ∧ 0 ≤ g ∧ g ≤ 63:=by
  rw [List.any_eq_false]
  constructor
  · intro h g hg
    have h1:=h g hg
    unfold vB at h1
    simp only [decide_eq_true_eq,not_or,Classical.not_not] at h1
    exact h1
  · intro h g hg
    unfold vB
    simp only [decide_eq_true_eq,not_or,Classical.not_not]
    exact h g hg
theorem vB_no {p:Pn} (h:¬ ∀ g ∈ p.gs,g ≠ p.id ∧ 0 ≤ g ∧ g ≤ 63):p.gs.any (vB p.id) = true:=by
  cases e:p.gs.any (vB p.id) with
  | true=>rfl
  | false=>exact absurd (vB_any.1 e) h
theorem gB_any {p:Pn} {c:Cs}:(c.ap.any fun a=>!(p.gs.any fun x=>decide (a.g = x))) = false ↔ ∀ a ∈ c.ap,a.g ∈ p.gs:=by
  rw [List.any_eq_false]
  constructor
  · intro h a ha
    have h1:=h a ha
    simp only [Bool.not_eq_true',Bool.not_eq_false,List.any_eq_true,decide_eq_true_eq] at h1
    obtain ⟨x,hx,e⟩:=h1
    rw [e]; exact hx
  · intro h a ha
    simp only [Bool.not_eq_true',Bool.not_eq_false,List.any_eq_true,decide_eq_true_eq]
    exact ⟨_,h a ha,rfl⟩
theorem gB_no {p:Pn} {c:Cs} (h:¬ ∀ a ∈ c.ap,a.g ∈ p.gs):(c.ap.any fun a=>!(p.gs.any fun x=>decide (a.g = x))) = true:=by
  cases e:(c.ap.any fun a=>!(p.gs.any fun x=>decide (a.g = x))) with
  | true=>rfl
  | false=>exact absurd (gB_any.1 e) h
end Rst
namespace Go.Proofs.YtegfmbefhpagmaaGreatDoor
open Go Eng Gf Sha Sig Wr Cod Cha Rst
set_option maxRecDepth 100000
theorem rd0B {W w:World} {Bo:List Nat} {l:SH} {b:Nat} {xs:List Value} {t:TypeId} (hw:St W Bo w l) (hm:Res.blk b (.cells xs.toArray t (0,0)) ∈ l):Rd w (some ⟨b,0,none⟩) xs :=
  rdB hm (fun j v h=>by rw [Nat.zero_add,List.getElem?_toArray]; exact h) w hw
theorem valid2_ok (w:World) (b:Nat) (g:Int) (p:Pn) (ga:Option Addr) (gc:Nat) (hb:Rd w (some ⟨b,0,none⟩) [I p.id,I p.rk,.slice ga p.gs.length gc,I p.need,I p.cool]):Pure Tryz.prog 82 [I g,.pointer (some ⟨b,0,none⟩)] w (.bool (vB p.id g)):=by
  refine enter Tryz.func82 Tryz.ntmps82 ?_
  refine c_seq<|c_reg<|s_y y_as<|s_nil<|q_then<|c_seq<|c_reg<|s_y y_mv<|s_y y_fa<|s_y (y_ldr (a:=some ⟨b,0,none⟩) (i:=0) (xs:=[I p.id,I p.rk,.slice ga p.gs.length gc,I p.need,I p.cool]) (v:=I p.id) rfl (hr:=rdW0 hb))<|s_ifd (y_eql (p:=g) (q:=p.id)) (fun h7=>?_) (fun h7=>?_)
  · refine s_y y_mv<|s_no<|s_no<|s_no<|s_y y_pk<|s_y y_as<|s_nil<|q_then<|c_ret<|?_
    exact ret1 Tryz.results82 rv_t fun w' hw=>⟨by rw [show vB p.id g = true from (by simp only [vB]; first | exact decide_eq_true (Or.inl ‹_›) | exact decide_eq_true (Or.inr ‹_›) | exact decide_eq_false (fun h9=>h9.elim ‹_› (fun h8=>h8 ‹_›)))],hw.sub (List.nil_sublist _)⟩
  · refine s_y y_mv<|s_y y_mv<|?_
    by_cases h10:(0:Int) ≤ g ∧ (g:Int) ≤ 63
    · refine s_pure (fun w' hw=>between_ok w' g 0 63 true ⟨fun _=>rfl,fun _=>h10⟩)<|s_y (v:=.bool false) (y_not (b:=true))<|s_y y_pk<|s_y y_as<|s_nil<|q_then<|c_ret<|?_
      exact ret1 Tryz.results82 rv_t fun w' hw=>⟨by rw [show vB p.id g = false from (by simp only [vB]; first | exact decide_eq_true (Or.inl ‹_›) | exact decide_eq_true (Or.inr ‹_›) | exact decide_eq_false (fun h9=>h9.elim ‹_› (fun h8=>h8 ‹_›)))],hw.sub (List.nil_sublist _)⟩
    · refine s_pure (fun w' hw=>between_ok w' g 0 63 false ⟨fun h9=>absurd h9 h10,fun h9=>by cases h9⟩)<|s_y (v:=.bool true) (y_not (b:=false))<|s_y y_pk<|s_y y_as<|s_nil<|q_then<|c_ret<|?_
      exact ret1 Tryz.results82 rv_t fun w' hw=>⟨by rw [show vB p.id g = true from (by simp only [vB]; first | exact decide_eq_true (Or.inl ‹_›) | exact decide_eq_true (Or.inr ‹_›) | exact decide_eq_false (fun h9=>h9.elim ‹_› (fun h8=>h8 ‹_›)))],hw.sub (List.nil_sublist _)⟩
theorem belongs1_ok' (w:World) (b:Nat) (x:Ap) (p:Pn) (ga:Option Addr) (gc:Nat) (hb:Rd w (some ⟨b,0,none⟩) [I p.id,I p.rk,.slice ga p.gs.length gc,I p.need,I p.cool]) (hrg:Rd w ga (is p.gs)) (hgl:(p.gs.length:Int) ≤ 16):Pure Tryz.prog 113 [.agg #[I x.g,I x.u,.slice x.a x.q.length x.c,I x.r,I x.s],.pointer (some ⟨b,0,none⟩)] w (.bool (!(p.gs.any fun y=>decide (x.g = y)))):=by
  refine enter Tryz.func113 Tryz.ntmps113 ?_
  refine c_seq<|c_reg<|s_box rfl fun b2=>s_y y_as<|s_nil<|q_then<|c_seq<|c_reg<|s_y y_fa<|s_y (y_ldr (a:=some ⟨b,0,none⟩) (i:=2) (xs:=[I p.id,I p.rk,.slice ga p.gs.length gc,I p.need,I p.cool]) (v:=.slice ga p.gs.length gc) rfl (hr:=rdW0 hb))<|s_y y_fa<|s_y (y_ld (b:=b2) (v:=I x.g))<|s_pure (fun w' hw=>slices_Contains_int_int_ok w' ga p.gs gc x.g (hrg.st hw) (by omega))<|s_y y_not<|s_y y_as<|s_nil<|q_then<|c_ret<|?_
  exact ret1 Tryz.results113 rv_t fun w' hw=>⟨rfl,hw.sub (List.nil_sublist _)⟩
theorem belongs1_ok (w:World) (b:Nat) (x:Ap) (p:Pn) (ga:Option Addr) (gc:Nat) (hb:Rd w (some ⟨b,0,none⟩) [I p.id,I p.rk,.slice ga p.gs.length gc,I p.need,I p.cool]) (hrg:Rd w ga (is p.gs)) (hgl:(p.gs.length:Int) ≤ 16):Pure Tryz.prog 113 [.agg x.cell.toArray,.pointer (some ⟨b,0,none⟩)] w (.bool (!(p.gs.any fun y=>decide (x.g = y)))):=belongs1_ok' w b x p ga gc hb hrg hgl
theorem valid_ok (w:World) (p:Pn) (ga:Option Addr) (gc:Nat) (hrg:Rd w ga (is p.gs)) (hgs:p.gs.length ≤ 1000000000000000):Pure Tryz.prog 20 [.agg #[I p.id,I p.rk,.slice ga p.gs.length gc,I p.need,I p.cool]] w (.bool (prsB p)):=by
  refine enter Tryz.func20 Tryz.ntmps20 ?_
  refine c_seq<|c_reg<|s_box rfl fun b1=>s_y y_as<|s_nil<|q_then<|c_seq<|c_reg<|s_y y_fa<|s_y (y_ld (b:=b1) (v:=I p.id))<|?_
  by_cases h5:(0:Int) ≤ p.id ∧ (p.id:Int) ≤ 63
  · refine s_pure (fun w' hw=>between_ok w' p.id 0 63 true ⟨fun _=>rfl,fun _=>h5⟩)<|s_y y_mv<|s_y y_fa<|s_y (y_ld (b:=b1) (v:=I p.rk))<|s_pure (fun w' hw=>gCheck_ok w' p.rk)<|s_ifd (y_eql (p:=chk p.rk) (q:=0)) (fun h10=>?_) (fun h10=>?_)
    · refine s_y y_pk<|s_y y_mv<|s_y y_fa<|s_y (y_ld (b:=b1) (v:=.slice ga p.gs.length gc))<|s_y y_len<|?_
      by_cases h16:(1:Int) ≤ p.gs.length ∧ (p.gs.length:Int) ≤ 16
      · refine s_pure (fun w' hw=>between_ok w' p.gs.length 1 16 true ⟨fun _=>rfl,fun _=>h16⟩)<|s_y y_pk<|s_y y_mv<|s_y y_fa<|s_y (y_ld (b:=b1) (v:=I p.need))<|s_y y_fa<|s_y (y_ld (b:=b1) (v:=.slice ga p.gs.length gc))<|s_y y_len<|?_
        by_cases h24:(1:Int) ≤ p.need ∧ (p.need:Int) ≤ p.gs.length
        · refine s_pure (fun w' hw=>between_ok w' p.need 1 p.gs.length true ⟨fun _=>rfl,fun _=>h24⟩)<|s_y y_pk<|s_y y_mv<|s_y y_fa<|s_y (y_ld (b:=b1) (v:=I p.cool))<|?_
          by_cases h29:(1:Int) ≤ p.cool ∧ (p.cool:Int) ≤ 1048576
          · refine s_pure (fun w' hw=>between_ok w' p.cool 1 1048576 true ⟨fun _=>rfl,fun _=>h29⟩)<|s_y y_pk<|s_y y_mv<|s_y y_fa<|s_y (y_ld (b:=b1) (v:=.slice ga p.gs.length gc))<|?_
            by_cases h34:p.gs.Nodup
            · refine s_pure (fun w' hw=>(by have h9:=dist_int w' ga gc p.gs (hrg.st hw) (by omega); rw [decide_eq_true h34] at h9; exact h9))<|s_y y_pk<|s_y y_mv<|s_y y_fa<|s_y (y_ld (b:=b1) (v:=.slice ga p.gs.length gc))<|s_y y_func<|?_
              by_cases h40:∀ g ∈ p.gs,g ≠ p.id ∧ 0 ≤ g ∧ g ≤ 63
              · refine s_pure (fun w' hw=>(by have h9:=CoF_int w' ga gc p.gs 82 [.pointer (some ⟨b1,0,none⟩)] (vB p.id) (hrg.st hw) (by omega) (fun x _ w2 h2=>valid2_ok w2 b1 x p ga gc ((rd0B hw (xs:=[I p.id,I p.rk,.slice ga p.gs.length gc,I p.need,I p.cool]) (.head _)).st h2)); rw [vB_any.2 h40] at h9; exact h9))<|s_y (v:=.bool true) (y_not (b:=false))<|s_y y_pk<|s_y y_as<|s_nil<|q_then<|c_ret<|?_
                exact ret1 Tryz.results20 rv_t fun w' hw=>⟨by rw [show prsB p = true from prsB_t.2 ⟨‹_›,‹_›,‹_›,‹_›,‹_›,‹_›,‹_›⟩],hw.sub (List.nil_sublist _)⟩
              · refine s_pure (fun w' hw=>(by have h9:=CoF_int w' ga gc p.gs 82 [.pointer (some ⟨b1,0,none⟩)] (vB p.id) (hrg.st hw) (by omega) (fun x _ w2 h2=>valid2_ok w2 b1 x p ga gc ((rd0B hw (xs:=[I p.id,I p.rk,.slice ga p.gs.length gc,I p.need,I p.cool]) (.head _)).st h2)); rw [vB_no h40] at h9; exact h9))<|s_y (v:=.bool false) (y_not (b:=true))<|s_y y_pk<|s_y y_as<|s_nil<|q_then<|c_ret<|?_
                exact ret1 Tryz.results20 rv_t fun w' hw=>⟨by rw [show prsB p = false from prsB_f.2 fun h9=>by first | exact absurd h9.id ‹_› | exact absurd h9.rk ‹_› | exact absurd h9.gl ‹_› | exact absurd h9.need ‹_› | exact absurd h9.cool ‹_› | exact absurd h9.nd ‹_› | exact absurd h9.gs ‹_›],hw.sub (List.nil_sublist _)⟩
            · refine s_pure (fun w' hw=>(by have h9:=dist_int w' ga gc p.gs (hrg.st hw) (by omega); rw [decide_eq_false h34] at h9; exact h9))<|s_y y_pk<|s_y y_mv<|s_no<|s_no<|s_no<|s_no<|s_no<|s_y y_pk<|s_y y_as<|s_nil<|q_then<|c_ret<|?_
              exact ret1 Tryz.results20 rv_t fun w' hw=>⟨by rw [show prsB p = false from prsB_f.2 fun h9=>by first | exact absurd h9.id ‹_› | exact absurd h9.rk ‹_› | exact absurd h9.gl ‹_› | exact absurd h9.need ‹_› | exact absurd h9.cool ‹_› | exact absurd h9.nd ‹_› | exact absurd h9.gs ‹_›],hw.sub (List.nil_sublist _)⟩
          · refine s_pure (fun w' hw=>between_ok w' p.cool 1 1048576 false ⟨fun h9=>absurd h9 h29,fun h9=>by cases h9⟩)<|s_y y_pk<|s_y y_mv<|s_no<|s_no<|s_no<|s_y y_pk<|s_y y_mv<|s_no<|s_no<|s_no<|s_no<|s_no<|s_y y_pk<|s_y y_as<|s_nil<|q_then<|c_ret<|?_
            exact ret1 Tryz.results20 rv_t fun w' hw=>⟨by rw [show prsB p = false from prsB_f.2 fun h9=>by first | exact absurd h9.id ‹_› | exact absurd h9.rk ‹_› | exact absurd h9.gl ‹_› | exact absurd h9.need ‹_› | exact absurd h9.cool ‹_› | exact absurd h9.nd ‹_› | exact absurd h9.gs ‹_›],hw.sub (List.nil_sublist _)⟩
        · refine s_pure (fun w' hw=>between_ok w' p.need 1 p.gs.length false ⟨fun h9=>absurd h9 h24,fun h9=>by cases h9⟩)<|s_y y_pk<|s_y y_mv<|s_no<|s_no<|s_no<|s_y y_pk<|s_y y_mv<|s_no<|s_no<|s_no<|s_y y_pk<|s_y y_mv<|s_no<|s_no<|s_no<|s_no<|s_no<|s_y y_pk<|s_y y_as<|s_nil<|q_then<|c_ret<|?_
          exact ret1 Tryz.results20 rv_t fun w' hw=>⟨by rw [show prsB p = false from prsB_f.2 fun h9=>by first | exact absurd h9.id ‹_› | exact absurd h9.rk ‹_› | exact absurd h9.gl ‹_› | exact absurd h9.need ‹_› | exact absurd h9.cool ‹_› | exact absurd h9.nd ‹_› | exact absurd h9.gs ‹_›],hw.sub (List.nil_sublist _)⟩
      · refine s_pure (fun w' hw=>between_ok w' p.gs.length 1 16 false ⟨fun h9=>absurd h9 h16,fun h9=>by cases h9⟩)<|s_y y_pk<|s_y y_mv<|s_no<|s_no<|s_no<|s_no<|s_no<|s_no<|s_y y_pk<|s_y y_mv<|s_no<|s_no<|s_no<|s_y y_pk<|s_y y_mv<|s_no<|s_no<|s_no<|s_y y_pk<|s_y y_mv<|s_no<|s_no<|s_no<|s_no<|s_no<|s_y y_pk<|s_y y_as<|s_nil<|q_then<|c_ret<|?_
        exact ret1 Tryz.results20 rv_t fun w' hw=>⟨by rw [show prsB p = false from prsB_f.2 fun h9=>by first | exact absurd h9.id ‹_› | exact absurd h9.rk ‹_› | exact absurd h9.gl ‹_› | exact absurd h9.need ‹_› | exact absurd h9.cool ‹_› | exact absurd h9.nd ‹_› | exact absurd h9.gs ‹_›],hw.sub (List.nil_sublist _)⟩
    · refine s_y y_pk<|s_y y_mv<|s_no<|s_no<|s_no<|s_no<|s_y y_pk<|s_y y_mv<|s_no<|s_no<|s_no<|s_no<|s_no<|s_no<|s_y y_pk<|s_y y_mv<|s_no<|s_no<|s_no<|s_y y_pk<|s_y y_mv<|s_no<|s_no<|s_no<|s_y y_pk<|s_y y_mv<|s_no<|s_no<|s_no<|s_no<|s_no<|s_y y_pk<|s_y y_as<|s_nil<|q_then<|c_ret<|?_
      exact ret1 Tryz.results20 rv_t fun w' hw=>⟨by rw [show prsB p = false from prsB_f.2 fun h9=>by first | exact absurd h9.id ‹_› | exact absurd h9.rk ‹_› | exact absurd h9.gl ‹_› | exact absurd h9.need ‹_› | exact absurd h9.cool ‹_› | exact absurd h9.nd ‹_› | exact absurd h9.gs ‹_›],hw.sub (List.nil_sublist _)⟩
  · refine s_pure (fun w' hw=>between_ok w' p.id 0 63 false ⟨fun h9=>absurd h9 h5,fun h9=>by cases h9⟩)<|s_y y_mv<|s_no<|s_no<|s_no<|s_no<|s_y y_pk<|s_y y_mv<|s_no<|s_no<|s_no<|s_no<|s_y y_pk<|s_y y_mv<|s_no<|s_no<|s_no<|s_no<|s_no<|s_no<|s_y y_pk<|s_y y_mv<|s_no<|s_no<|s_no<|s_y y_pk<|s_y y_mv<|s_no<|s_no<|s_no<|s_y y_pk<|s_y y_mv<|s_no<|s_no<|s_no<|s_no<|s_no<|s_y y_pk<|s_y y_as<|s_nil<|q_then<|c_ret<|?_
    exact ret1 Tryz.results20 rv_t fun w' hw=>⟨by rw [show prsB p = false from prsB_f.2 fun h9=>by first | exact absurd h9.id ‹_› | exact absurd h9.rk ‹_› | exact absurd h9.gl ‹_› | exact absurd h9.need ‹_› | exact absurd h9.cool ‹_› | exact absurd h9.nd ‹_› | exact absurd h9.gs ‹_›],hw.sub (List.nil_sublist _)⟩
theorem belongs_ok (w:World) (p:Pn) (c:Cs) (ga aa va:Option Addr) (gc ac vc:Nat) (hp:Prs p) (hrg:Rd w ga (is p.gs)) (hra:Rd w aa (apc c.ap)) (hrv:Rd w va (vtc c.vt)) (hal:c.ap.length ≤ 1000000) (hvl:c.vt.length ≤ 1000000):Pure Tryz.prog 46 [.agg #[I p.id,I p.rk,.slice ga p.gs.length gc,I p.need,I p.cool],.agg #[I c.p,I c.d,I c.v,I c.l,I c.st,.slice aa c.ap.length ac,.slice va c.vt.length vc]] w (.bool (blgB p c)):=by
  have hid:=hp.id
  have hgl:=hp.gl.2
  refine enter Tryz.func46 Tryz.ntmps46 ?_
  refine c_seq<|c_reg<|s_box rfl fun b2=>s_box rfl fun b3=>s_y y_as<|s_nil<|q_then<|c_seq<|c_reg<|s_y y_fa<|s_y (y_ld (b:=b3) (v:=I c.p))<|s_y y_fa<|s_y (y_ld (b:=b2) (v:=I p.id))<|s_ifd (y_eql (p:=c.p) (q:=p.id)) (fun h9=>?_) (fun h9=>?_)
  · refine s_y y_mv<|s_y y_fa<|s_y (y_ld (b:=b3) (v:=I c.d))<|s_y y_fa<|s_y (y_ld (b:=b2) (v:=I p.id))<|s_y (y_mul (p:=p.id) (q:=8))<|s_y y_fa<|s_y (y_ld (b:=b2) (v:=I p.id))<|s_y (y_mul (p:=p.id) (q:=8))<|s_y (y_add (p:=p.id * 8) (q:=8))<|s_y (y_sub (p:=(p.id * 8) + 8) (q:=1))<|?_
    by_cases h21:((p.id * 8):Int) ≤ c.d ∧ (c.d:Int) ≤ (((p.id * 8) + 8) - 1)
    · refine s_pure (fun w' hw=>between_ok w' c.d (p.id * 8) (((p.id * 8) + 8) - 1) true ⟨fun _=>rfl,fun _=>h21⟩)<|s_y y_pk<|s_y y_mv<|s_y y_fa<|s_y (y_ld (b:=b3) (v:=I c.v))<|s_pure (fun w' hw=>gCheck_ok w' c.v)<|s_ifd (y_eql (p:=chk c.v) (q:=0)) (fun h27=>?_) (fun h27=>?_)
      · refine s_y y_pk<|s_y y_mv<|s_y y_fa<|s_y (y_ld (b:=b3) (v:=I c.l))<|s_pure (fun w' hw=>gCheck_ok w' c.l)<|s_ifd (y_eql (p:=chk c.l) (q:=0)) (fun h33=>?_) (fun h33=>?_)
        · refine s_y y_pk<|s_y y_mv<|s_y y_fa<|s_y (y_ld (b:=b3) (v:=I c.st))<|?_
          by_cases h38:(1:Int) ≤ c.st ∧ (c.st:Int) ≤ 65536
          · refine s_pure (fun w' hw=>between_ok w' c.st 1 65536 true ⟨fun _=>rfl,fun _=>h38⟩)<|s_y y_pk<|s_y y_mv<|s_y y_fa<|s_y (y_ld (b:=b3) (v:=.slice aa c.ap.length ac))<|?_
            by_cases h43:(c.ap.map Ap.g).Nodup
            · refine s_pure (fun w' hw=>(by have h9:=dist_Ap w' aa ac c.ap (hra.st hw) (by omega); rw [decide_eq_true h43] at h9; exact h9))<|s_y y_pk<|s_y y_mv<|s_y y_fa<|s_y (y_ld (b:=b3) (v:=.slice va c.vt.length vc))<|?_
              by_cases h48:(c.vt.map Vt.d).Nodup
              · refine s_pure (fun w' hw=>(by have h9:=dist_Vt w' va vc c.vt (hrv.st hw) (by omega); rw [decide_eq_true h48] at h9; exact h9))<|s_y y_pk<|s_y y_mv<|s_y y_fa<|s_y (y_ld (b:=b3) (v:=.slice aa c.ap.length ac))<|s_y y_func<|?_
                by_cases h54:∀ a ∈ c.ap,a.g ∈ p.gs
                · refine s_pure (fun w' hw=>(by have h9:=CoF_Ap w' aa ac c.ap 113 [.pointer (some ⟨b2,0,none⟩)] (fun a=>!(p.gs.any fun x=>decide (a.g = x))) (hra.st hw) (by omega) (fun x _ w2 h2=>belongs1_ok w2 b2 x p ga gc ((rd0B hw (xs:=[I p.id,I p.rk,.slice ga p.gs.length gc,I p.need,I p.cool]) (.tail _ (.head _))).st h2) (hrg.st (by have:=hw.trans h2; exact this.sub (List.nil_sublist _))) hgl); rw [gB_any.2 h54] at h9; exact h9))<|s_y (v:=.bool true) (y_not (b:=false))<|s_y y_pk<|s_y y_as<|s_nil<|q_then<|c_ret<|?_
                  exact ret1 Tryz.results46 rv_t fun w' hw=>⟨by rw [show blgB p c = true from blgB_t.2 ⟨‹_›,‹_›,‹_›,‹_›,‹_›,‹_›,‹_›,‹_›⟩],hw.sub (List.nil_sublist _)⟩
                · refine s_pure (fun w' hw=>(by have h9:=CoF_Ap w' aa ac c.ap 113 [.pointer (some ⟨b2,0,none⟩)] (fun a=>!(p.gs.any fun x=>decide (a.g = x))) (hra.st hw) (by omega) (fun x _ w2 h2=>belongs1_ok w2 b2 x p ga gc ((rd0B hw (xs:=[I p.id,I p.rk,.slice ga p.gs.length gc,I p.need,I p.cool]) (.tail _ (.head _))).st h2) (hrg.st (by have:=hw.trans h2; exact this.sub (List.nil_sublist _))) hgl); rw [gB_no h54] at h9; exact h9))<|s_y (v:=.bool false) (y_not (b:=true))<|s_y y_pk<|s_y y_as<|s_nil<|q_then<|c_ret<|?_
                  exact ret1 Tryz.results46 rv_t fun w' hw=>⟨by rw [show blgB p c = false from blgB_f.2 fun h9=>by first | exact absurd h9.fp ‹_› | exact absurd h9.fd ‹_› | exact absurd h9.fv ‹_› | exact absurd h9.fl ‹_› | exact absurd h9.fs ‹_› | exact absurd h9.fa ‹_› | exact absurd h9.ft ‹_› | exact absurd h9.fg ‹_›],hw.sub (List.nil_sublist _)⟩
              · refine s_pure (fun w' hw=>(by have h9:=dist_Vt w' va vc c.vt (hrv.st hw) (by omega); rw [decide_eq_false h48] at h9; exact h9))<|s_y y_pk<|s_y y_mv<|s_no<|s_no<|s_no<|s_no<|s_no<|s_y y_pk<|s_y y_as<|s_nil<|q_then<|c_ret<|?_
                exact ret1 Tryz.results46 rv_t fun w' hw=>⟨by rw [show blgB p c = false from blgB_f.2 fun h9=>by first | exact absurd h9.fp ‹_› | exact absurd h9.fd ‹_› | exact absurd h9.fv ‹_› | exact absurd h9.fl ‹_› | exact absurd h9.fs ‹_› | exact absurd h9.fa ‹_› | exact absurd h9.ft ‹_› | exact absurd h9.fg ‹_›],hw.sub (List.nil_sublist _)⟩
            · refine s_pure (fun w' hw=>(by have h9:=dist_Ap w' aa ac c.ap (hra.st hw) (by omega); rw [decide_eq_false h43] at h9; exact h9))<|s_y y_pk<|s_y y_mv<|s_no<|s_no<|s_no<|s_y y_pk<|s_y y_mv<|s_no<|s_no<|s_no<|s_no<|s_no<|s_y y_pk<|s_y y_as<|s_nil<|q_then<|c_ret<|?_
              exact ret1 Tryz.results46 rv_t fun w' hw=>⟨by rw [show blgB p c = false from blgB_f.2 fun h9=>by first | exact absurd h9.fp ‹_› | exact absurd h9.fd ‹_› | exact absurd h9.fv ‹_› | exact absurd h9.fl ‹_› | exact absurd h9.fs ‹_› | exact absurd h9.fa ‹_› | exact absurd h9.ft ‹_› | exact absurd h9.fg ‹_›],hw.sub (List.nil_sublist _)⟩
          · refine s_pure (fun w' hw=>between_ok w' c.st 1 65536 false ⟨fun h9=>absurd h9 h38,fun h9=>by cases h9⟩)<|s_y y_pk<|s_y y_mv<|s_no<|s_no<|s_no<|s_y y_pk<|s_y y_mv<|s_no<|s_no<|s_no<|s_y y_pk<|s_y y_mv<|s_no<|s_no<|s_no<|s_no<|s_no<|s_y y_pk<|s_y y_as<|s_nil<|q_then<|c_ret<|?_
            exact ret1 Tryz.results46 rv_t fun w' hw=>⟨by rw [show blgB p c = false from blgB_f.2 fun h9=>by first | exact absurd h9.fp ‹_› | exact absurd h9.fd ‹_› | exact absurd h9.fv ‹_› | exact absurd h9.fl ‹_› | exact absurd h9.fs ‹_› | exact absurd h9.fa ‹_› | exact absurd h9.ft ‹_› | exact absurd h9.fg ‹_›],hw.sub (List.nil_sublist _)⟩
        · refine s_y y_pk<|s_y y_mv<|s_no<|s_no<|s_no<|s_y y_pk<|s_y y_mv<|s_no<|s_no<|s_no<|s_y y_pk<|s_y y_mv<|s_no<|s_no<|s_no<|s_y y_pk<|s_y y_mv<|s_no<|s_no<|s_no<|s_no<|s_no<|s_y y_pk<|s_y y_as<|s_nil<|q_then<|c_ret<|?_
          exact ret1 Tryz.results46 rv_t fun w' hw=>⟨by rw [show blgB p c = false from blgB_f.2 fun h9=>by first | exact absurd h9.fp ‹_› | exact absurd h9.fd ‹_› | exact absurd h9.fv ‹_› | exact absurd h9.fl ‹_› | exact absurd h9.fs ‹_› | exact absurd h9.fa ‹_› | exact absurd h9.ft ‹_› | exact absurd h9.fg ‹_›],hw.sub (List.nil_sublist _)⟩
      · refine s_y y_pk<|s_y y_mv<|s_no<|s_no<|s_no<|s_no<|s_y y_pk<|s_y y_mv<|s_no<|s_no<|s_no<|s_y y_pk<|s_y y_mv<|s_no<|s_no<|s_no<|s_y y_pk<|s_y y_mv<|s_no<|s_no<|s_no<|s_y y_pk<|s_y y_mv<|s_no<|s_no<|s_no<|s_no<|s_no<|s_y y_pk<|s_y y_as<|s_nil<|q_then<|c_ret<|?_
        exact ret1 Tryz.results46 rv_t fun w' hw=>⟨by rw [show blgB p c = false from blgB_f.2 fun h9=>by first | exact absurd h9.fp ‹_› | exact absurd h9.fd ‹_› | exact absurd h9.fv ‹_› | exact absurd h9.fl ‹_› | exact absurd h9.fs ‹_› | exact absurd h9.fa ‹_› | exact absurd h9.ft ‹_› | exact absurd h9.fg ‹_›],hw.sub (List.nil_sublist _)⟩
    · refine s_pure (fun w' hw=>between_ok w' c.d (p.id * 8) (((p.id * 8) + 8) - 1) false ⟨fun h9=>absurd h9 h21,fun h9=>by cases h9⟩)<|s_y y_pk<|s_y y_mv<|s_no<|s_no<|s_no<|s_no<|s_y y_pk<|s_y y_mv<|s_no<|s_no<|s_no<|s_no<|s_y y_pk<|s_y y_mv<|s_no<|s_no<|s_no<|s_y y_pk<|s_y y_mv<|s_no<|s_no<|s_no<|s_y y_pk<|s_y y_mv<|s_no<|s_no<|s_no<|s_y y_pk<|s_y y_mv<|s_no<|s_no<|s_no<|s_no<|s_no<|s_y y_pk<|s_y y_as<|s_nil<|q_then<|c_ret<|?_
      exact ret1 Tryz.results46 rv_t fun w' hw=>⟨by rw [show blgB p c = false from blgB_f.2 fun h9=>by first | exact absurd h9.fp ‹_› | exact absurd h9.fd ‹_› | exact absurd h9.fv ‹_› | exact absurd h9.fl ‹_› | exact absurd h9.fs ‹_› | exact absurd h9.fa ‹_› | exact absurd h9.ft ‹_› | exact absurd h9.fg ‹_›],hw.sub (List.nil_sublist _)⟩
  · refine s_y y_mv<|s_no<|s_no<|s_no<|s_no<|s_no<|s_no<|s_no<|s_no<|s_no<|s_no<|s_no<|s_y y_pk<|s_y y_mv<|s_no<|s_no<|s_no<|s_no<|s_y y_pk<|s_y y_mv<|s_no<|s_no<|s_no<|s_no<|s_y y_pk<|s_y y_mv<|s_no<|s_no<|s_no<|s_y y_pk<|s_y y_mv<|s_no<|s_no<|s_no<|s_y y_pk<|s_y y_mv<|s_no<|s_no<|s_no<|s_y y_pk<|s_y y_mv<|s_no<|s_no<|s_no<|s_no<|s_no<|s_y y_pk<|s_y y_as<|s_nil<|q_then<|c_ret<|?_
    exact ret1 Tryz.results46 rv_t fun w' hw=>⟨by rw [show blgB p c = false from blgB_f.2 fun h9=>by first | exact absurd h9.fp ‹_› | exact absurd h9.fd ‹_› | exact absurd h9.fv ‹_› | exact absurd h9.fl ‹_› | exact absurd h9.fs ‹_› | exact absurd h9.fa ‹_› | exact absurd h9.ft ‹_› | exact absurd h9.fg ‹_›],hw.sub (List.nil_sublist _)⟩
end Go.Proofs.YtegfmbefhpagmaaGreatDoor
end
