/- Joined texts: DivX ScalX Range Num PowX Gf SigP Cha ChaA ChaB ChaC ChaD Step EqA Keys ChaE ChaF Grp MaskI WrA WrB WrC. -/
import Derived.WalkKit
import Derived.TacticsInMore
import Derived.OrdersIn
import Derived.RangeFuncCalls
import Derived.Deep.LoopGhost
import Derived.Deep.Quiet
import Derived.KernelRfl
import Derived.Laws.BytesString
import Derived.Laws.StructEq
import Derived.MapKept
import Derived.Laws.IdiomStrings
import Derived.Recover
import Derived.RangeFuncLeaves
import Derived.ChangeKeysEq
import Derived.Maps.RangeRun
import Derived.Laws.Build
import Derived.Lib.Overlaps
import Derived.ProofKit
import Derived.LaidMore
import Derived.LaidHandle
import Derived.OpenShut
import Derived.FnData
import Derived.SizedLaws
import Derived.ChangeMaps5
import Derived.Deep.Slices
import Derived.JoinedOf
import Derived.SevenTiedAt
import Derived.Test.YtegfmbefhpagmaaGreatDoorChecked
import Derived.Test.YtegfmbefhpagmaaGreatDoorRows
import Derived.Test.YtegfmbefhpagmaaGreatDoorCards
import Derived.Test.YtegfmbefhpagmaaGreatDoorTie
import Derived.Test.YtegfmbefhpagmaaGreatDoorTo2
set_option linter.all false
section
namespace Eng
open Go Go.RowKit
section
variable {P:Program} {n:Nat} {D:List Deferred} {W:World} {Bo:List Nat} {F:List (Nat × Value)} {l:SH}
  {d:Option Tmp} {ty:TypeId} {ps:String} {af:Array Edge} {g:Option (Nat × Bool)} {x y:Operand} {ta tb t:TypeId}
theorem wrapU {z:Int} {m:Nat} (h:z % 18446744073709551616 = (m:Int)):IntKind.u64.wrap z = (m:Int):=by rw [wrap_u64',h]
theorem y_mulW {p q:Nat} (hx:evO F x = some (U p):=by rfl) (hy:evO F y = some (U q):=by rfl):Y P n D W Bo ⟨d,.binOp .mul ta x y tb,ty,ps,af,g⟩ F l (U (p * q % 18446744073709551616)) :=
  .mk (by simp) fun a w ha _=>by
    have e:IntKind.u64.wrap ((p:Int) * (q:Int)) = ((p * q % 18446744073709551616:Nat):Int):=wrapU (by rw [← Int.natCast_mul]; omega)
    simp [execOp,ha.eval hx,ha.eval hy,eqGuard,binOp,Op.intArith,e]
theorem y_addW {p q:Nat} (hx:evO F x = some (U p):=by rfl) (hy:evO F y = some (U q):=by rfl):Y P n D W Bo ⟨d,.binOp .add ta x y tb,ty,ps,af,g⟩ F l (U ((p + q) % 18446744073709551616)) :=
  .mk (by simp) fun a w ha _=>by
    have e:IntKind.u64.wrap ((p:Int) + (q:Int)) = (((p + q) % 18446744073709551616:Nat):Int):=wrapU (by omega)
    simp [execOp,ha.eval hx,ha.eval hy,eqGuard,binOp,Op.intArith,e]
theorem y_subW {p q:Nat} (hx:evO F x = some (U p):=by rfl) (hy:evO F y = some (U q):=by rfl):Y P n D W Bo ⟨d,.binOp .sub ta x y tb,ty,ps,af,g⟩ F l (U ((p + (18446744073709551616 - q % 18446744073709551616)) % 18446744073709551616)) :=
  .mk (by simp) fun a w ha _=>by
    have e:IntKind.u64.wrap ((p:Int) - (q:Int)) = (((p + (18446744073709551616 - q % 18446744073709551616)) % 18446744073709551616:Nat):Int):=wrapU (by omega)
    simp [execOp,ha.eval hx,ha.eval hy,eqGuard,binOp,Op.intArith,e]
theorem y_shlW (m:Nat) {p:Nat} {k':IntKind} (hx:evO F x = some (U p):=by rfl) (hy:evO F y = some (.int k' (m:Int)):=by rfl) (h1:m ≤ 64:=by omega) :
    Y P n D W Bo ⟨d,.binOp .shl ta x y tb,ty,ps,af,g⟩ F l (U (p * 2 ^ m % 18446744073709551616)):=by
  have h:=y_shlw (P:=P) (n:=n) (D:=D) (W:=W) (Bo:=Bo) (l:=l) (d:=d) (ty:=ty) (ps:=ps) (af:=af) (g:=g) (ta:=ta) (tb:=tb) (F:=F) m hx hy h1
  have e:IntKind.u64.wrap ((p:Int) * 2 ^ m) = ((p * 2 ^ m % 18446744073709551616:Nat):Int):=wrapU (by
    rw [show (p:Int) * 2 ^ m = ((p * 2 ^ m:Nat):Int) by simp]; omega)
  rwa [e] at h
theorem y_shrW (m:Nat) {p:Nat} {k':IntKind} (hx:evO F x = some (U p):=by rfl) (hy:evO F y = some (.int k' (m:Int)):=by rfl) (h1:m ≤ 64:=by omega) :
    Y P n D W Bo ⟨d,.binOp .shr ta x y tb,ty,ps,af,g⟩ F l (U (p / 2 ^ m)):=by
  have h:=y_shr (P:=P) (n:=n) (D:=D) (W:=W) (Bo:=Bo) (l:=l) (d:=d) (ty:=ty) (ps:=ps) (af:=af) (g:=g) (ta:=ta) (tb:=tb) (F:=F) hx hy (by omega) (by simp only [IntKind.bits]; omega)
  rwa [Int.toNat_natCast] at h
theorem y_orU {p q:Nat} (hx:evO F x = some (U p):=by rfl) (hy:evO F y = some (U q):=by rfl) (hp:p < 18446744073709551616:=by omega) (hq:q < 18446744073709551616:=by omega) :
    Y P n D W Bo ⟨d,.binOp .or ta x y tb,ty,ps,af,g⟩ F l (U (p ||| q)) :=
  y_orn hx hy (by simp only [IntKind.bits]; omega) (by simp only [IntKind.bits]; omega) (wrap_u64 (by omega) (by
    have:p ||| q < 2 ^ 64:=Nat.or_lt_two_pow (by omega) (by omega)
    omega))
theorem y_ixst (j:Nat) [hu:HU P t .string] {s:ByteArray} {b:UInt8} {k:IntKind} {i:Int} (hv:s.data[j]? = some b) (hx:evO F x = some (.string s):=by rfl) (hy:evO F y = some (.int k i):=by rfl) (hj:i = (j:Int):=by omega) :
    Y P n D W Bo ⟨d,.index t x y,ty,ps,af,g⟩ F l (B b) :=
  .mk (by simp) fun a w ha _=>by
    subst hj
    obtain ⟨h1,h2⟩:=Array.getElem?_eq_some_iff.1 hv
    have h3:(0:Int) ≤ (j:Int) ∧ (j:Int) < (s.size:Int):=⟨by omega,by show (j:Int) < (s.data.size:Int); omega⟩
    simp [execOp,ha.eval hx,ha.eval hy,Instr.index,asIntOf,run_underlying hu.h]
    have h4:s[j]? = some b:=by
      rw [getElem?_pos s j (by show j < s.data.size; exact h1)]
      exact congrArg some h2
    simp [h4]
end
end Eng
namespace Go.Proofs.YtegfmbefhpagmaaGreatDoor
open Go Eng
def tab8:List UInt8:=[0,1,2,2,3,3,3,3,4,4,4,4,4,4,4,4,5,5,5,5,5,5,5,5,5,5,5,5,5,5,5,5,6,6,6,6,6,6,6,6,6,6,6,6,6,6,6,6,6,6,6,6,6,6,6,6,6,6,6,6,6,6,6,6,7,7,7,7,7,7,7,7,7,7,7,7,7,7,7,7,7,7,7,7,7,7,7,7,7,7,7,7,7,7,7,7,7,7,7,7,7,7,7,7,7,7,7,7,7,7,7,7,7,7,7,7,7,7,7,7,7,7,7,7,7,7,7,7,8,8,8,8,8,8,8,8,8,8,8,8,8,8,8,8,8,8,8,8,8,8,8,8,8,8,8,8,8,8,8,8,8,8,8,8,8,8,8,8,8,8,8,8,8,8,8,8,8,8,8,8,8,8,8,8,8,8,8,8,8,8,8,8,8,8,8,8,8,8,8,8,8,8,8,8,8,8,8,8,8,8,8,8,8,8,8,8,8,8,8,8,8,8,8,8,8,8,8,8,8,8,8,8,8,8,8,8,8,8,8,8,8,8,8,8,8,8,8,8,8,8,8,8,8,8,8,8]
theorem tab8_spec:∀ j:Fin 256,∃ t:Nat,tab8[j.val]? = some (UInt8.ofNat t) ∧ t ≤ 8 ∧ j.val < 2 ^ t ∧ (0 < j.val → 2 ^ (t - 1) ≤ j.val):=by
  have h:∀ j:Fin 256,(decide ((tab8.getD j.val 9).toNat ≤ 8 ∧ j.val < 2 ^ (tab8.getD j.val 9).toNat ∧ (0 < j.val → 2 ^ ((tab8.getD j.val 9).toNat - 1) ≤ j.val)) = true):=by decide +kernel
  intro j
  have h1:=of_decide_eq_true (h j)
  refine ⟨(tab8.getD j.val 9).toNat,?_,h1⟩
  rw [List.getD_eq_getElem?_getD,List.getElem?_eq_getElem (show j.val < tab8.length by have:=j.isLt; have h9:tab8.length = 256:=(by decide +kernel); omega)]
  simp
theorem bits_Len64_ok (p:Nat) (hp:p < 18446744073709551616) :
    ∃ L:Nat,L ≤ 64 ∧ p < 2 ^ L ∧ (0 < p → 2 ^ (L - 1) ≤ p) ∧ ∀ w:World,Pure Tryz.prog 196 [U p] w (I L):=by
  obtain ⟨p1,n1,h1⟩:∃ p1 n1:Nat,(4294967296 ≤ p ∧ p1 = p / 2 ^ 32 ∧ n1 = 32) ∨ (¬ 4294967296 ≤ p ∧ p1 = p ∧ n1 = 0):=by
    by_cases h:4294967296 ≤ p
    · exact ⟨_,_,.inl ⟨h,rfl,rfl⟩⟩
    · exact ⟨_,_,.inr ⟨h,rfl,rfl⟩⟩
  obtain ⟨p2,n2,h2⟩:∃ p2 n2:Nat,(65536 ≤ p1 ∧ p2 = p1 / 2 ^ 16 ∧ n2 = n1 + 16) ∨ (¬ 65536 ≤ p1 ∧ p2 = p1 ∧ n2 = n1):=by
    by_cases h:65536 ≤ p1
    · exact ⟨_,_,.inl ⟨h,rfl,rfl⟩⟩
    · exact ⟨_,_,.inr ⟨h,rfl,rfl⟩⟩
  obtain ⟨p3,n3,h3⟩:∃ p3 n3:Nat,(256 ≤ p2 ∧ p3 = p2 / 2 ^ 8 ∧ n3 = n2 + 8) ∨ (¬ 256 ≤ p2 ∧ p3 = p2 ∧ n3 = n2):=by
    by_cases h:256 ≤ p2
    · exact ⟨_,_,.inl ⟨h,rfl,rfl⟩⟩
    · exact ⟨_,_,.inr ⟨h,rfl,rfl⟩⟩
  have hp1:p1 < 4294967296:=by omega
  have hp2:p2 < 65536:=by omega
  have hp3:p3 < 256:=by omega
  obtain ⟨t,ht,ht8,ht1,ht2⟩:=tab8_spec ⟨p3,hp3⟩
  dsimp only at ht ht1 ht2
  have hn:n3 ≤ 56:=by omega
  have hL:p < 2 ^ (n3 + t) ∧ (0 < p → 2 ^ (n3 + t - 1) ≤ p):=by
    have hpp:p3 * 2 ^ n3 ≤ p ∧ p < (p3 + 1) * 2 ^ n3:=by
      rcases h1 with ⟨a1,rfl,rfl⟩ | ⟨a1,rfl,rfl⟩ <;> rcases h2 with ⟨a2,rfl,rfl⟩ | ⟨a2,rfl,rfl⟩ <;> rcases h3 with ⟨a3,rfl,rfl⟩ | ⟨a3,rfl,rfl⟩ <;> (simp only [Nat.zero_add,Nat.reduceAdd,Nat.reducePow] at *; omega)
    refine ⟨?_,fun h0=>?_⟩
    · have:(p3 + 1) * 2 ^ n3 ≤ 2 ^ t * 2 ^ n3:=Nat.mul_le_mul_right _ ht1
      rw [Nat.pow_add,Nat.mul_comm (2 ^ n3)]; omega
    · have hp30:0 < p3:=by
        rcases h1 with ⟨a1,rfl,rfl⟩ | ⟨a1,rfl,rfl⟩ <;> rcases h2 with ⟨a2,rfl,rfl⟩ | ⟨a2,rfl,rfl⟩ <;> rcases h3 with ⟨a3,rfl,rfl⟩ | ⟨a3,rfl,rfl⟩ <;> omega
      have ht0:0 < t:=by
        rcases Nat.eq_zero_or_pos t with h | h
        · subst h; simp at ht1; omega
        · exact h
      have:2 ^ (t - 1) * 2 ^ n3 ≤ p3 * 2 ^ n3:=Nat.mul_le_mul_right _ (ht2 hp30)
      rw [show n3 + t - 1 = n3 + (t - 1) by omega,Nat.pow_add,Nat.mul_comm (2 ^ n3)]; omega
  refine ⟨n3 + t,by omega,hL.1,hL.2,fun w=>?_⟩
  refine enter Tryz.func196 Tryz.ntmps196 ?_
  refine c_seq<|c_reg<|s_y y_as<|s_nil<|q_then<|c_join [(0,U p1),(2,I n1)] [] ?_ ?_
  · refine c_seq<|c_reg<|s_y y_mv<|s_y (y_geq (p:=p) (q:=4294967296))<|s_nil<|q_then<|c_ifd (fun h=>?_) (fun h=>?_)
    · obtain ⟨_,rfl,rfl⟩:4294967296 ≤ p ∧ p1 = p / 2 ^ 32 ∧ n1 = 32:=by omega
      refine c_seq<|c_reg<|s_y y_mv<|s_y (y_shrW 32)<|s_y y_as<|s_nil<|q_then<|c_reg<|s_y y_as<|s_nil<|q_join ⟨rfl,rfl,trivial⟩ (List.Sublist.refl _)
    · obtain ⟨_,rfl,rfl⟩:¬ 4294967296 ≤ p ∧ p1 = p ∧ n1 = 0:=by omega
      refine c_skip<|q_join ⟨rfl,rfl,trivial⟩ (List.Sublist.refl _)
  refine c_join [(0,U p2),(2,I n2)] [] ?_ ?_
  · refine c_seq<|c_reg<|s_y y_mv<|s_y (y_geq (p:=p1) (q:=65536))<|s_nil<|q_then<|c_ifd (fun h=>?_) (fun h=>?_)
    · obtain ⟨_,rfl,rfl⟩:65536 ≤ p1 ∧ p2 = p1 / 2 ^ 16 ∧ n2 = n1 + 16:=by omega
      refine c_seq<|c_reg<|s_y y_mv<|s_y (y_shrW 16)<|s_y y_as<|s_nil<|q_then<|c_reg<|s_y y_mv<|s_y (y_add (p:=n1) (q:=16))<|s_y y_as<|s_nil<|q_join ⟨rfl,rfl,trivial⟩ (List.Sublist.refl _)
    · obtain ⟨_,rfl,rfl⟩:¬ 65536 ≤ p1 ∧ p2 = p1 ∧ n2 = n1:=by omega
      refine c_skip<|q_join ⟨rfl,rfl,trivial⟩ (List.Sublist.refl _)
  refine c_join [(0,U p3),(2,I n3)] [] ?_ ?_
  · refine c_seq<|c_reg<|s_y y_mv<|s_y (y_geq (p:=p2) (q:=256))<|s_nil<|q_then<|c_ifd (fun h=>?_) (fun h=>?_)
    · obtain ⟨_,rfl,rfl⟩:256 ≤ p2 ∧ p3 = p2 / 2 ^ 8 ∧ n3 = n2 + 8:=by omega
      refine c_seq<|c_reg<|s_y y_mv<|s_y (y_shrW 8)<|s_y y_as<|s_nil<|q_then<|c_reg<|s_y y_mv<|s_y (y_add (p:=n2) (q:=8))<|s_y y_as<|s_nil<|q_join ⟨rfl,rfl,trivial⟩ (List.Sublist.refl _)
    · obtain ⟨_,rfl,rfl⟩:¬ 256 ≤ p2 ∧ p3 = p2 ∧ n3 = n2:=by omega
      refine c_skip<|q_join ⟨rfl,rfl,trivial⟩ (List.Sublist.refl _)
  refine c_seq<|c_reg<|s_y y_mv<|s_y y_mv<|s_y (y_cv8 (p:=p3))<|s_y (y_ixst p3 (s:=⟨tab8.toArray⟩) (b:=UInt8.ofNat t) (by rw [List.getElem?_toArray]; exact ht) (hj:=by rw [UInt8.toNat_ofNat']; omega))<|s_y y_cvb<|s_y (y_add (p:=n3) (q:=((UInt8.ofNat t).toNat:Int)) (hr:=by rw [UInt8.toNat_ofNat']; unfold R64; omega))<|s_y y_as<|s_nil<|q_then<|c_ret<|?_
  refine ret1 Tryz.results196 rv_t fun w' hw=>⟨?_,hw⟩
  rw [UInt8.toNat_ofNat',show (n3:Int) + ((t % 2 ^ 8:Nat):Int) = ((n3 + t:Nat):Int) by omega]
theorem bits_LeadingZeros64_ok (p:Nat) (h0:0 < p) (hp:p < 18446744073709551616) :
    ∃ s:Nat,s ≤ 63 ∧ p * 2 ^ s < 18446744073709551616 ∧ 9223372036854775808 ≤ p * 2 ^ s ∧ ∀ w:World,Pure Tryz.prog 194 [U p] w (I s):=by
  obtain ⟨L,hL,h1,h2,hu⟩:=bits_Len64_ok p hp
  have hL0:0 < L:=by
    rcases Nat.eq_zero_or_pos L with h | h
    · subst h; simp at h1; omega
    · exact h
  have e1:2 ^ L * 2 ^ (64 - L) = 18446744073709551616:=by rw [← Nat.pow_add,show L + (64 - L) = 64 by omega]
  have e2:2 ^ (L - 1) * 2 ^ (64 - L) = 9223372036854775808:=by rw [← Nat.pow_add,show L - 1 + (64 - L) = 63 by omega]
  refine ⟨64 - L,by omega,?_,?_,fun w=>?_⟩
  · rw [← e1]; exact Nat.mul_lt_mul_of_pos_right h1 (Nat.two_pow_pos _)
  · rw [← e2]; exact Nat.mul_le_mul_right _ (h2 h0)
  · refine enter Tryz.func194 Tryz.ntmps194 ?_
    refine c_seq<|c_reg<|s_y y_as<|s_nil<|q_then<|c_seq<|c_reg<|s_y y_mv<|s_pure (fun w' hw=>hu w')<|s_y (y_sub (p:=64) (q:=L))<|s_y y_as<|s_nil<|q_then<|c_ret<|?_
    refine ret1 Tryz.results194 rv_t fun w' hw=>⟨?_,hw⟩
    rw [show (64:Int) - (L:Int) = ((64 - L:Nat):Int) by omega]
end Go.Proofs.YtegfmbefhpagmaaGreatDoor
namespace Dv
theorem kn_true {u y h e d q r:Nat} (hu:u < y) (hy:y = h * 4294967296 + e) (hq:q * h + r = u) (hc:4294967296 ≤ q ∨ 4294967296 * r + d < q * e) (hd:d < 4294967296):(u * 4294967296 + d) / y < q:=by
  have hy0:0 < y:=by omega
  rcases hc with hc | hc
  · refine Nat.lt_of_lt_of_le (Nat.div_lt_of_lt_mul ?_) hc
    have:(u + 1) * 4294967296 ≤ y * 4294967296:=Nat.mul_le_mul_right _ hu
    omega
  · refine Nat.div_lt_of_lt_mul ?_
    subst hy
    have e1:(h * 4294967296 + e) * q = q * h * 4294967296 + q * e:=by rw [Nat.add_mul,Nat.mul_comm q h,Nat.mul_right_comm,Nat.mul_comm e q]
    rw [e1]
    generalize q * h = a at *
    generalize q * e = b at *
    omega
theorem kn_le {u y h e d q r:Nat} (hy0:0 < y) (hy:y = h * 4294967296 + e) (hq:q * h + r = u) (hc:q * e ≤ 4294967296 * r + d):q ≤ (u * 4294967296 + d) / y:=by
  refine (Nat.le_div_iff_mul_le hy0).2 ?_
  subst hy
  have e1:q * (h * 4294967296 + e) = q * h * 4294967296 + q * e:=by rw [Nat.mul_add,Nat.mul_assoc]
  rw [e1]
  generalize q * h = a at *
  generalize q * e = b at *
  omega
theorem kn_top {u y h e:Nat} (hu:u < y) (hy:y = h * 4294967296 + e) (he:e < 4294967296) (hh:2147483648 ≤ h):u / h ≤ 4294967296 + 1:=by
  have:u / h < 4294967296 + 2:=Nat.div_lt_of_lt_mul (by
    rw [Nat.mul_add]; omega)
  omega
theorem kn_ge {u y h e d:Nat} (hy:y = h * 4294967296 + e) (hh:0 < h) (hd:d < 4294967296):(u * 4294967296 + d) / y ≤ u / h:=by
  refine (Nat.le_div_iff_mul_le hh).2 ?_
  have h1:(u * 4294967296 + d) / y * y ≤ u * 4294967296 + d:=Nat.div_mul_le_self _ _
  generalize (u * 4294967296 + d) / y = q at *
  subst hy
  have e1:q * (h * 4294967296 + e) = q * h * 4294967296 + q * e:=by rw [Nat.mul_add,Nat.mul_assoc]
  rw [e1] at h1
  generalize q * h = a at *
  generalize q * e = b at *
  omega
theorem kn_small {q e:Nat} (hq:q ≤ 4294967296) (he:e < 4294967296):q * e ≤ 18446744069414584320:=by
  have:=Nat.mul_le_mul hq (show e ≤ 4294967295 by omega)
  omega
theorem wrapsub {u d z R:Nat} (h:u * 4294967296 + d = z + R) (hR:R < 18446744073709551616):((u * 4294967296 % 18446744073709551616 + d) % 18446744073709551616 + (18446744073709551616 - z % 18446744073709551616 % 18446744073709551616)) % 18446744073709551616 = R:=by omega
theorem two {u l1 l0 y q1 r1:Nat} (hy:0 < y) (h1:u * 4294967296 + l1 = q1 * y + r1) (q0 r0:Nat) (h0:r1 * 4294967296 + l0 = q0 * y + r0) (hr0:r0 < y) :
    (u * 18446744073709551616 + (l1 * 4294967296 + l0)) / y = q1 * 4294967296 + q0 ∧ (u * 18446744073709551616 + (l1 * 4294967296 + l0)) % y = r0:=by
  have e1:(q1 * 4294967296 + q0) * y = q1 * y * 4294967296 + q0 * y:=by rw [Nat.add_mul,Nat.mul_right_comm]
  obtain ⟨N,hN⟩:∃ N,N = u * 18446744073709551616 + (l1 * 4294967296 + l0):=⟨_,rfl⟩
  obtain ⟨K,hK⟩:∃ K,K = q1 * 4294967296 + q0:=⟨_,rfl⟩
  rw [← hK] at e1
  have e:N = K * y + r0:=by
    generalize q1 * y = a at *
    generalize q0 * y = b at *
    omega
  rw [← hN,← hK,e]
  constructor
  · rw [Nat.mul_comm,Nat.mul_add_div hy,Nat.div_eq_of_lt hr0,Nat.add_zero]
  · rw [Nat.mul_comm,Nat.mul_add_mod,Nat.mod_eq_of_lt hr0]
theorem shifted {x y k:Nat}:(x * 2 ^ k) / (y * 2 ^ k) = x / y ∧ (x * 2 ^ k) % (y * 2 ^ k) / 2 ^ k = x % y :=
  ⟨Nat.mul_div_mul_right _ _ (Nat.two_pow_pos k),by rw [Nat.mul_mod_mul_right,Nat.mul_div_cancel _ (Nat.two_pow_pos k)]⟩
theorem words {hi lo s:Nat} (hs:s ≤ 63) (hlo:lo < 18446744073709551616):hi * 2 ^ s ||| lo / 2 ^ (64 - s) = hi * 2 ^ s + lo / 2 ^ (64 - s) ∧ (hi * 2 ^ s + lo / 2 ^ (64 - s)) * 18446744073709551616 + lo * 2 ^ s % 18446744073709551616 = (hi * 18446744073709551616 + lo) * 2 ^ s:=by
  have e1:2 ^ s * 2 ^ (64 - s) = 18446744073709551616:=by rw [← Nat.pow_add,show s + (64 - s) = 64 by omega]
  have h1:lo / 2 ^ (64 - s) < 2 ^ s:=Nat.div_lt_of_lt_mul (by rw [Nat.mul_comm,e1]; exact hlo)
  constructor
  · rw [Nat.mul_comm hi,← Nat.two_pow_add_eq_or_of_lt h1]
  · have h2:lo * 2 ^ s / 18446744073709551616 = lo / 2 ^ (64 - s):=by
      rw [← e1,Nat.mul_comm lo,Nat.mul_div_mul_left _ _ (Nat.two_pow_pos s)]
    have h3:=Nat.div_add_mod (lo * 2 ^ s) 18446744073709551616
    rw [h2] at h3
    rw [Nat.add_mul (hi * 18446744073709551616),Nat.mul_right_comm hi]
    generalize hi * 2 ^ s = a at *
    generalize lo * 2 ^ s = b at *
    generalize lo / 2 ^ (64 - s) = c at *
    omega
theorem mulB {u y l:Nat} (h:u < y) (hl:l < 4294967296):u * 4294967296 + l < y * 4294967296:=by omega
theorem mulA {u:Nat} (h:u < 4294967296):u * 4294967296 < 18446744073709551616:=by omega
theorem addA {u l:Nat} (h:u < 4294967296) (hl:l < 4294967296):u * 4294967296 + l < 18446744073709551616:=by omega
end Dv
namespace Go.Proofs.YtegfmbefhpagmaaGreatDoor
open Go Eng Dv
theorem bits_Div64_ok (w:World) (hi lo y:Nat) (h1:hi < y) (hlo:lo < 18446744073709551616) (hyM:y < 18446744073709551616) :
    Pure Tryz.prog 165 [U hi,U lo,U y] w (.tuple #[U ((hi * 18446744073709551616 + lo) / y),U ((hi * 18446744073709551616 + lo) % y)]):=by
  refine enter Tryz.func165 Tryz.ntmps165 ?_
  refine c_seq<|c_reg<|s_y y_as<|s_y y_as<|s_nil<|q_then<|c_seq<|c_seq<|c_reg<|s_y y_mv<|s_kf (y_eql (p:=y) (q:=0)) (by omega)<|s_nil<|q_then<|c_f<|c_skip<|q_then<|c_seq<|c_seq<|c_reg<|s_y y_mv<|s_y y_mv<|s_kf (y_leq (p:=y) (q:=hi)) (by omega)<|s_nil<|q_then<|c_f<|c_skip<|q_then<|c_seq<|c_seq<|c_reg<|s_y y_mv<|s_y (y_eql (p:=hi) (q:=0))<|s_nil<|q_then<|c_ifd (fun h27=>?_) (fun h27=>?_)
  · have hi0:hi = 0:=by omega
    subst hi0
    refine c_seq<|c_regd<|d_y y_mv<|d_y y_mv<|d_y (y_quo64 (p:=lo) (q:=y))<|d_y y_mv<|d_y y_mv<|d_y (y_rem64 (p:=lo) (q:=y))<|d_y y_as<|d_y y_as<|d_nil<|q_then<|c_ret<|q_ret<|?_
    refine ret2 Tryz.results165 rv_t rv_t fun w' hw=>⟨?_,hw⟩
    rw [Nat.zero_mul,Nat.zero_add]
  obtain ⟨s,hs,hsM,hsB,hlz⟩:=bits_LeadingZeros64_ok y (by omega) hyM
  have hwd:=words (hi:=hi) (lo:=lo) (s:=s) hs hlo
  have hsh:=shifted (x:=hi * 18446744073709551616 + lo) (y:=y) (k:=s)
  have hXY:(hi * 18446744073709551616 + lo) * 2 ^ s < y * 2 ^ s * 18446744073709551616:=by
    rw [Nat.mul_right_comm]
    exact Nat.mul_lt_mul_of_pos_right (by omega) (Nat.two_pow_pos s)
  have hhs:hi * 2 ^ s < y * 2 ^ s:=Nat.mul_lt_mul_of_pos_right h1 (Nat.two_pow_pos s)
  have hlz2:lo / 2 ^ (64 - s) ≤ lo:=Nat.div_le_self _ _
  refine c_skip<|q_then<|c_seq<|c_reg<|s_y y_mv<|s_pure (fun w' hw=>hlz w')<|s_y y_cvn<|s_y y_as<|s_nil<|q_then<|c_seq<|c_reg<|s_y y_mv<|s_y y_mv<|s_y (y_shlW s)<|?_
  rw [Nat.mod_eq_of_lt hsM]
  rw [← hsh.1,← hsh.2]
  obtain ⟨Y,hY⟩:∃ Y,Y = y * 2 ^ s:=⟨_,rfl⟩
  obtain ⟨h,hhd⟩:∃ h,h = Y / 2 ^ 32:=⟨_,rfl⟩
  obtain ⟨e,hed⟩:∃ e,e = Y % 2 ^ 32:=⟨_,rfl⟩
  obtain ⟨v,hvd⟩:∃ v,v = lo * 2 ^ s % 18446744073709551616:=⟨_,rfl⟩
  obtain ⟨l1,hl1⟩:∃ l1,l1 = v / 2 ^ 32:=⟨_,rfl⟩
  obtain ⟨l0,hl0⟩:∃ l0,l0 = v % 2 ^ 32:=⟨_,rfl⟩
  rw [← hY] at hsM hsB hXY hhs ⊢
  refine s_y y_as<|s_nil<|q_then<|c_seq<|c_reg<|s_y y_mv<|s_y (y_shrW 32)<|?_
  rw [← hhd]
  refine s_y y_as<|s_nil<|q_then<|c_seq<|c_reg<|s_y y_mv<|s_y (y_mask (p:=Y) 32)<|?_
  rw [← hed]
  refine s_y y_as<|s_nil<|q_then<|c_seq<|c_reg<|s_y y_mv<|s_y y_mv<|s_y (y_shlW s)<|?_
  rw [Nat.mod_eq_of_lt (show hi * 2 ^ s < 18446744073709551616 by omega)]
  refine s_y y_mv<|s_y y_mv<|s_y (y_sub64 (p:=64) (q:=s))<|s_y (y_shrW (64 - s))<|s_y (y_orU (p:=hi * 2 ^ s) (q:=lo / 2 ^ (64 - s)))<|?_
  rw [hwd.1]
  have hw2:=hwd.2
  rw [← hvd] at hw2
  obtain ⟨u,hu⟩:∃ u,u = hi * 2 ^ s + lo / 2 ^ (64 - s):=⟨_,rfl⟩
  rw [← hu] at hw2 ⊢
  rw [← hw2] at hXY ⊢
  refine s_y y_as<|s_nil<|q_then<|c_seq<|c_reg<|s_y y_mv<|s_y y_mv<|s_y (y_shlW s)<|?_
  rw [← hvd]
  refine s_y y_as<|s_nil<|q_then<|c_seq<|c_reg<|s_y y_mv<|s_y (y_shrW 32)<|?_
  rw [← hl1]
  refine s_y y_as<|s_nil<|q_then<|c_seq<|c_reg<|s_y y_mv<|s_y (y_mask (p:=v) 32)<|?_
  rw [← hl0]
  have hv:v = l1 * 4294967296 + l0:=by omega
  have hl1B:l1 < 4294967296:=by omega
  have hl0B:l0 < 4294967296:=by omega
  have huY:u < Y:=by omega
  have hYe:Y = h * 4294967296 + e:=by omega
  have he:e < 4294967296:=by omega
  have hh:2147483648 ≤ h:=by omega
  have hh2:h < 4294967296:=by omega
  have hb1:u * 4294967296 + l1 < Y * 4294967296:=mulB huY hl1B
  obtain ⟨Q1,hQ1⟩:∃ Q1,Q1 = (u * 4294967296 + l1) / Y:=⟨_,rfl⟩
  obtain ⟨R1,hR1⟩:∃ R1,R1 = (u * 4294967296 + l1) % Y:=⟨_,rfl⟩
  have hdm1:=Nat.div_add_mod (u * 4294967296 + l1) Y
  rw [← hQ1,← hR1,Nat.mul_comm] at hdm1
  have hR1Y:R1 < Y:=by rw [hR1]; exact Nat.mod_lt _ (by omega)
  have hQ1B:Q1 < 4294967296:=Nat.lt_of_le_of_lt (Nat.le_of_eq hQ1) (Nat.div_lt_of_lt_mul hb1)
  have hb0:R1 * 4294967296 + l0 < Y * 4294967296:=mulB hR1Y hl0B
  obtain ⟨Q0,hQ0⟩:∃ Q0,Q0 = (R1 * 4294967296 + l0) / Y:=⟨_,rfl⟩
  obtain ⟨R0,hR0⟩:∃ R0,R0 = (R1 * 4294967296 + l0) % Y:=⟨_,rfl⟩
  have hdm0:=Nat.div_add_mod (R1 * 4294967296 + l0) Y
  rw [← hQ0,← hR0,Nat.mul_comm] at hdm0
  have hR0Y:R0 < Y:=by rw [hR0]; exact Nat.mod_lt _ (by omega)
  have hQ0B:Q0 < 4294967296:=Nat.lt_of_le_of_lt (Nat.le_of_eq hQ0) (Nat.div_lt_of_lt_mul hb0)
  have htwo:=two (show 0 < Y by omega) hdm1.symm Q0 R0 hdm0.symm hR0Y
  have hcu:u / h * h ≤ u:=Nat.div_mul_le_self _ _
  have hcr:R1 / h * h ≤ R1:=Nat.div_mul_le_self _ _
  rw [hv,htwo.1,htwo.2]
  clear hlz hwd hsh hw2 hvd hu hl1 hl0
  refine s_y y_as<|s_nil<|q_then<|c_seq<|c_reg<|s_y y_mv<|s_y y_mv<|s_y (y_quo64 (p:=u) (q:=h))<|s_y y_as<|s_nil<|q_then<|c_seq<|c_reg<|s_y y_mv<|s_y y_mv<|s_y y_mv<|s_y (y_mul64 (p:=u / h) (q:=h))<|s_y (y_sub64 (p:=u) (q:=u / h * h))<|s_y y_as<|s_nil<|q_then<|?_
  refine c_join [(15,U Q1),(2,U Y),(8,U s),(9,U h),(10,U e),(11,U u),(13,U l1),(14,U l0)] [] ?_ ?_
  · have htop:=kn_top huY hYe he hh
    have hge:=kn_ge (u:=u) (y:=Y) (h:=h) (e:=e) (d:=l1) hYe (by omega) hl1B
    have hdm:=Nat.div_add_mod u h
    have hml:=Nat.mod_lt u (show 0 < h by omega)
    rw [← hQ1] at hge
    have hcm:u / h * h = h * (u / h):=Nat.mul_comm _ _
    refine c_block<|c_loop2 (fun q r=>[(15,U q),(16,U r),(2,U Y),(8,U s),(9,U h),(10,U e),(11,U u),(13,U l1),(14,U l0)]) (fun _ _=>[]) (fun q r=>q * h + r = u ∧ r < 4294967296 ∧ Q1 ≤ q ∧ q ≤ 4294967297) (fun q _=>q) (u / h) (u - u / h * h) ⟨by omega,by omega,hge,htop⟩ ⟨rfl,rfl,rfl,rfl,rfl,rfl,rfl,rfl,rfl,trivial⟩ (List.Sublist.refl _) ?_
    intro q r ⟨hq,hr,hQq,hqt⟩
    refine c_seq<|c_join ([(15,U q),(16,U r),(2,U Y),(8,U s),(9,U h),(10,U e),(11,U u),(13,U l1),(14,U l0),(78,.bool (decide (4294967296 ≤ q ∨ 4294967296 * r + l1 < q * e)))]) [] ?_ ?_
    · refine c_reg<|s_y y_mv<|s_ifd (y_geq (p:=q) (q:=4294967296)) (fun h1=>?_) (fun h1=>?_)
      · have h2:4294967296 ≤ q ∨ 4294967296 * r + l1 < q * e:=.inl (by omega)
        refine s_y y_mv<|s_no<|s_no<|s_no<|s_no<|s_no<|s_no<|s_no<|s_no<|s_y (y_pkT (v:=.bool true))<|s_nil<|q_join ⟨rfl,rfl,rfl,rfl,rfl,rfl,rfl,rfl,rfl,by rw [decide_eq_true h2]; rfl,trivial⟩ (List.Sublist.refl _)
      · have hqe:=kn_small (q:=q) (e:=e) (by omega) he
        refine s_y y_mv<|s_y y_mv<|s_y y_mv<|s_y (y_mul64 (p:=q) (q:=e))<|s_y y_mv<|s_y (y_mul64 (p:=4294967296) (q:=r))<|s_y y_mv<|s_y (y_add64 (p:=4294967296 * r) (q:=l1))<|s_y (y_gtr (p:=((q * e:Nat):Int)) (q:=((4294967296 * r + l1:Nat):Int)))<|s_y (y_pkF (v:=.bool (decide (((4294967296 * r + l1:Nat):Int) < ((q * e:Nat):Int)))))<|s_nil<|q_join ⟨rfl,rfl,rfl,rfl,rfl,rfl,rfl,rfl,rfl,by rw [show decide (4294967296 ≤ q ∨ 4294967296 * r + l1 < q * e) = decide (((4294967296 * r + l1:Nat):Int) < ((q * e:Nat):Int)) from decide_eq_decide.2 ⟨fun h9=>by omega,fun h9=>.inr (by omega)⟩]; rfl,trivial⟩ (List.Sublist.refl _)
    · refine c_ifd (fun h3=>?_) (fun h3=>?_)
      · have hlt:=kn_true huY hYe hq h3 hl1B
        rw [← hQ1] at hlt
        have hq1:(q - 1) * h + (r + h) = u:=by
          have:q * h = (q - 1) * h + h:=by rw [← Nat.succ_mul]; congr 1; omega
          omega
        refine c_skip<|q_then<|c_block<|c_seq<|c_reg<|s_y y_mv<|s_y (y_sub64 (p:=q) (q:=1))<|s_y y_as<|s_nil<|q_then<|c_seq<|c_reg<|s_y y_mv<|s_y y_mv<|s_y (y_add64 (p:=r) (q:=h))<|s_y y_as<|s_nil<|q_then<|c_seq<|c_reg<|s_y y_mv<|s_y (y_geq (p:=((r + h:Nat):Int)) (q:=4294967296))<|s_nil<|q_then<|c_ifd (fun h4=>?_) (fun h4=>?_)
        · have hqe:=kn_small (q:=q - 1) (e:=e) (by omega) he
          have hle:=kn_le (d:=l1) (by omega) hYe hq1 (by omega)
          rw [← hQ1] at hle
          have hqQ:q - 1 = Q1:=by omega
          rw [hqQ]
          refine c_exit<|q_exn rfl<|q_ex<|q_exb<|q_join ⟨rfl,rfl,rfl,rfl,rfl,rfl,rfl,rfl,trivial⟩ (List.Sublist.refl _)
        · refine c_skip<|q_nb<|q_round2 (y:=r) (q - 1) (r + h) ⟨hq1,by omega,by omega,by omega⟩ (by omega) ⟨rfl,rfl,rfl,rfl,rfl,rfl,rfl,rfl,rfl,trivial⟩ (List.Sublist.refl _)
      · have hle:=kn_le (d:=l1) (by omega) hYe hq (by omega)
        rw [← hQ1] at hle
        have hqQ:q = Q1:=by omega
        subst hqQ
        refine c_exit<|q_ex<|q_ex<|q_exb<|q_join ⟨rfl,rfl,rfl,rfl,rfl,rfl,rfl,rfl,trivial⟩ (List.Sublist.refl _)
  refine c_seq<|c_reg<|s_y y_mv<|s_y (y_mulW (p:=u) (q:=4294967296))<|s_y y_mv<|s_y (y_addW (p:=u * 4294967296 % 18446744073709551616) (q:=l1))<|s_y y_mv<|s_y y_mv<|s_y (y_mulW (p:=Q1) (q:=Y))<|s_y (y_subW (p:=(u * 4294967296 % 18446744073709551616 + l1) % 18446744073709551616) (q:=Q1 * Y % 18446744073709551616))<|?_
  rw [wrapsub (R:=R1) hdm1.symm (by omega)]
  refine s_y y_as<|s_nil<|q_then<|c_seq<|c_reg<|s_y y_mv<|s_y y_mv<|s_y (y_quo64 (p:=R1) (q:=h))<|s_y y_as<|s_nil<|q_then<|c_seq<|c_reg<|s_y y_mv<|s_y y_mv<|s_y y_mv<|s_y (y_mul64 (p:=R1 / h) (q:=h))<|s_y (y_sub64 (p:=R1) (q:=R1 / h * h))<|s_y y_as<|s_nil<|q_then<|?_
  refine c_join [(18,U Q0),(2,U Y),(8,U s),(9,U h),(10,U e),(14,U l0),(15,U Q1),(17,U R1)] [] ?_ ?_
  · have htop:=kn_top hR1Y hYe he hh
    have hge:=kn_ge (u:=R1) (y:=Y) (h:=h) (e:=e) (d:=l0) hYe (by omega) hl0B
    have hdm:=Nat.div_add_mod R1 h
    have hml:=Nat.mod_lt R1 (show 0 < h by omega)
    rw [← hQ0] at hge
    have hcm:R1 / h * h = h * (R1 / h):=Nat.mul_comm _ _
    refine c_block<|c_loop2 (fun q r=>[(18,U q),(16,U r),(2,U Y),(8,U s),(9,U h),(10,U e),(14,U l0),(15,U Q1),(17,U R1)]) (fun _ _=>[]) (fun q r=>q * h + r = R1 ∧ r < 4294967296 ∧ Q0 ≤ q ∧ q ≤ 4294967297) (fun q _=>q) (R1 / h) (R1 - R1 / h * h) ⟨by omega,by omega,hge,htop⟩ ⟨rfl,rfl,rfl,rfl,rfl,rfl,rfl,rfl,rfl,trivial⟩ (List.Sublist.refl _) ?_
    intro q r ⟨hq,hr,hQq,hqt⟩
    refine c_seq<|c_join ([(18,U q),(16,U r),(2,U Y),(8,U s),(9,U h),(10,U e),(14,U l0),(15,U Q1),(17,U R1),(113,.bool (decide (4294967296 ≤ q ∨ 4294967296 * r + l0 < q * e)))]) [] ?_ ?_
    · refine c_reg<|s_y y_mv<|s_ifd (y_geq (p:=q) (q:=4294967296)) (fun h1=>?_) (fun h1=>?_)
      · have h2:4294967296 ≤ q ∨ 4294967296 * r + l0 < q * e:=.inl (by omega)
        refine s_y y_mv<|s_no<|s_no<|s_no<|s_no<|s_no<|s_no<|s_no<|s_no<|s_y (y_pkT (v:=.bool true))<|s_nil<|q_join ⟨rfl,rfl,rfl,rfl,rfl,rfl,rfl,rfl,rfl,by rw [decide_eq_true h2]; rfl,trivial⟩ (List.Sublist.refl _)
      · have hqe:=kn_small (q:=q) (e:=e) (by omega) he
        refine s_y y_mv<|s_y y_mv<|s_y y_mv<|s_y (y_mul64 (p:=q) (q:=e))<|s_y y_mv<|s_y (y_mul64 (p:=4294967296) (q:=r))<|s_y y_mv<|s_y (y_add64 (p:=4294967296 * r) (q:=l0))<|s_y (y_gtr (p:=((q * e:Nat):Int)) (q:=((4294967296 * r + l0:Nat):Int)))<|s_y (y_pkF (v:=.bool (decide (((4294967296 * r + l0:Nat):Int) < ((q * e:Nat):Int)))))<|s_nil<|q_join ⟨rfl,rfl,rfl,rfl,rfl,rfl,rfl,rfl,rfl,by rw [show decide (4294967296 ≤ q ∨ 4294967296 * r + l0 < q * e) = decide (((4294967296 * r + l0:Nat):Int) < ((q * e:Nat):Int)) from decide_eq_decide.2 ⟨fun h9=>by omega,fun h9=>.inr (by omega)⟩]; rfl,trivial⟩ (List.Sublist.refl _)
    · refine c_ifd (fun h3=>?_) (fun h3=>?_)
      · have hlt:=kn_true hR1Y hYe hq h3 hl0B
        rw [← hQ0] at hlt
        have hq1:(q - 1) * h + (r + h) = R1:=by
          have:q * h = (q - 1) * h + h:=by rw [← Nat.succ_mul]; congr 1; omega
          omega
        refine c_skip<|q_then<|c_block<|c_seq<|c_reg<|s_y y_mv<|s_y (y_sub64 (p:=q) (q:=1))<|s_y y_as<|s_nil<|q_then<|c_seq<|c_reg<|s_y y_mv<|s_y y_mv<|s_y (y_add64 (p:=r) (q:=h))<|s_y y_as<|s_nil<|q_then<|c_seq<|c_reg<|s_y y_mv<|s_y (y_geq (p:=((r + h:Nat):Int)) (q:=4294967296))<|s_nil<|q_then<|c_ifd (fun h4=>?_) (fun h4=>?_)
        · have hqe:=kn_small (q:=q - 1) (e:=e) (by omega) he
          have hle:=kn_le (d:=l0) (by omega) hYe hq1 (by omega)
          rw [← hQ0] at hle
          have hqQ:q - 1 = Q0:=by omega
          rw [hqQ]
          refine c_exit<|q_exn rfl<|q_ex<|q_exb<|q_join ⟨rfl,rfl,rfl,rfl,rfl,rfl,rfl,rfl,trivial⟩ (List.Sublist.refl _)
        · refine c_skip<|q_nb<|q_round2 (y:=r) (q - 1) (r + h) ⟨hq1,by omega,by omega,by omega⟩ (by omega) ⟨rfl,rfl,rfl,rfl,rfl,rfl,rfl,rfl,rfl,trivial⟩ (List.Sublist.refl _)
      · have hle:=kn_le (d:=l0) (by omega) hYe hq (by omega)
        rw [← hQ0] at hle
        have hqQ:q = Q0:=by omega
        subst hqQ
        refine c_exit<|q_ex<|q_ex<|q_exb<|q_join ⟨rfl,rfl,rfl,rfl,rfl,rfl,rfl,rfl,trivial⟩ (List.Sublist.refl _)
  refine c_seq<|c_reg<|s_y y_mv<|s_y (y_mul64 (p:=Q1) (q:=4294967296) (hp:=mulA hQ1B))<|s_y y_mv<|s_y (y_add64 (p:=Q1 * 4294967296) (q:=Q0) (hp:=addA hQ1B hQ0B))<|s_y y_mv<|s_y (y_mulW (p:=R1) (q:=4294967296))<|s_y y_mv<|s_y (y_addW (p:=R1 * 4294967296 % 18446744073709551616) (q:=l0))<|s_y y_mv<|s_y y_mv<|s_y (y_mulW (p:=Q0) (q:=Y))<|s_y (y_subW (p:=(R1 * 4294967296 % 18446744073709551616 + l0) % 18446744073709551616) (q:=Q0 * Y % 18446744073709551616))<|?_
  rw [wrapsub (R:=R0) hdm0.symm (by omega)]
  refine s_y y_mv<|s_y (y_shrW s)<|s_y y_as<|s_y y_as<|s_nil<|q_then<|c_ret<|?_
  exact ret2 Tryz.results165 rv_t rv_t fun w' hw=>⟨rfl,hw⟩
end Go.Proofs.YtegfmbefhpagmaaGreatDoor
end
section
namespace Dv
def rst (y:Nat) (l:List UInt8):Nat:=l.foldl (fun r b=>(r * 256 + b.toNat) % y) 0
theorem rst_fold {y:Nat} (hy:0 < y):∀ (l:List UInt8) (r:Nat),r < y → l.foldl (fun r b=>(r * 256 + b.toNat) % y) r < y
  | [],_,h=>h
  | _ :: l,_,_=>rst_fold hy l _ (Nat.mod_lt _ hy)
theorem rst_lt {y:Nat} (hy:0 < y) (l:List UInt8):rst y l < y:=rst_fold hy l 0 hy
theorem rst_take (y:Nat) (l:List UInt8) (i:Nat) (h:i < l.length):rst y (l.take (i + 1)) = (rst y (l.take i) * 256 + (l[i]).toNat) % y:=by
  unfold rst
  rw [List.take_add_one,List.getElem?_eq_getElem h,List.foldl_append]; rfl
theorem orb {r b:Nat} (hb:b < 256):r * 2 ^ 8 % 18446744073709551616 ||| b = 256 * (r % 72057594037927936) + b:=by
  have e:r * 2 ^ 8 % 18446744073709551616 = 2 ^ 8 * (r % 72057594037927936):=by omega
  rw [e,← Nat.two_pow_add_eq_or_of_lt (i:=8) (by simpa using hb)]
theorem hilo {r b:Nat}:r / 2 ^ 56 * 18446744073709551616 + (256 * (r % 72057594037927936) + b) = r * 256 + b:=by omega
end Dv
namespace Go.Proofs.YtegfmbefhpagmaaGreatDoor
open Go Eng Sha Cod Dv
theorem rest_1_ok (w:World) (b4 b3:Nat) (b:UInt8) (r y:Nat) (hp:(Res.blk b4 (.cells #[U r] 221 (0,0))).holds w) (hy:Rd w (some ⟨b3,0,none⟩) [U y]) (hne:b3 ≠ b4) (hr:r < y) (hyM:y < 18446744073709551616) :
    Gives Tryz.prog 164 [B b,.pointer (some ⟨b4,0,none⟩),.pointer (some ⟨b3,0,none⟩)] w (keys [.blk b4 (.cells #[U r] 221 (0,0))]) (fun _:Unit=>.tuple #[]) (fun _=>[.blk b4 (.cells #[U ((r * 256 + b.toNat) % y)] 221 (0,0))]) (fun _=>True):=by
  have hb:=b.toNat_lt
  have hap:∀ b' ∈ keys [Res.blk b4 (.cells #[U r] 221 (0,0))],(some (⟨b3,0,none⟩:Addr)).map (·.block) ≠ some b':=fun b' hb' e=>by
    obtain ⟨q',hq',hk⟩:=mem_keys.1 hb'
    rw [List.mem_singleton] at hq'
    subst hq'
    cases hk; cases e; exact hne rfl
  refine enterR Tryz.func164 Tryz.ntmps164 hp ?_
  refine c_reg<|s_y (y_ld (v:=U r))<|s_y (y_shrW 56)<|s_y (y_ld (v:=U r))<|s_y (y_shlW 8)<|s_y y_mv<|s_y (y_cvn (k:=.u64) (p:=(b.toNat:Int)) (hw:=wrap_u64 (by omega) (by omega)))<|s_y (y_orU (p:=r * 2 ^ 8 % 18446744073709551616) (q:=b.toNat))<|?_
  rw [orb (by omega)]
  refine s_y (y_ldr (a:=some ⟨b3,0,none⟩) (i:=0) (xs:=[U y]) (v:=U y) rfl (hr:=rdW hy hap))<|s_pure (fun w' hw=>bits_Div64_ok w' (r / 2 ^ 56) (256 * (r % 72057594037927936) + b.toNat) y (by omega) (by omega) hyM)<|?_
  rw [hilo]
  refine s_y y_mv<|s_y y_ext<|s_y y_ext<|s_st (v:=U ((r * 256 + b.toNat) % y)) (cs:=#[U r]) (hl:=Nat.zero_lt_one) ?_
  refine s_nil<|?_
  exact ret0 Tryz.results164 (fun w' hw=>⟨(),trivial,rfl,hw⟩) _ (.inr rfl)
theorem nd2 {a b:Nat} {x y:Obj} (h:(keys [.blk a x,.blk b y]).Nodup):b ≠ a:=fun e=>by
  have h9:keys [.blk a x,.blk b y] = [a,b]:=rfl
  rw [h9,e] at h
  simp at h
theorem group_rest_ok (w:World) (q:List UInt8) (y:Nat) (hq:q.length = 32) (hy:0 < y) (hyM:y < 18446744073709551616) :
    Pure Tryz.prog 136 [.agg (bs q).toArray,U y] w (U (rst y q)):=by
  have hs32:(bs q).toArray.size = 32:=by simp [bs_length,hq]
  refine enter Tryz.func136 Tryz.ntmps136 ?_
  refine c_seq<|c_reg<|s_box rfl fun b2=>s_box rfl fun b3=>s_alloc fun b4=>s_nil<|q_then<|c_seq<|c_reg<|s_y y_func<|s_y y_as<|s_nil<|q_then<|c_seq<|c_seq<|c_reg<|s_y (y_lda (cs:=(bs q).toArray) (hl:=hs32))<|s_y y_mv<|s_nil<|q_then<|c_block<|?_
  refine c_loop (fun i:Nat=>[(4,.pointer (some ⟨b4,0,none⟩)),(5,.func (.func 164) #[] #[.pointer (some ⟨b4,0,none⟩),.pointer (some ⟨b3,0,none⟩)]),(9,.agg (bs q).toArray),(10,I i)]) (fun i=>[.blk b4 (.cells #[U (rst y (q.take i))] 221 (0,0)),.blk b3 (.cells #[U y] 221 (0,0))]) (fun i=>i ≤ 32) (fun i=>32 - i) 0 (by omega) ⟨rfl,rfl,rfl,rfl,trivial⟩ (.cons_cons _ (.cons_cons _ (List.nil_sublist _))) ?_
  intro i hi
  refine c_seq<|c_reg<|s_y y_lss<|s_nil<|q_then<|c_seq<|c_ifd (fun h11=>?_) (fun h11=>?_)
  · have hil:i < q.length:=by omega
    refine c_skip<|q_then<|c_seq<|c_block<|c_seq<|c_reg<|s_y (y_ixv (v:=B q[i]) i (by rw [List.getElem?_toArray]; have:=bs_get hil; rw [this]; simp [List.getD_eq_getElem?_getD,List.getElem?_eq_getElem hil]))<|s_y y_as<|s_nil<|q_then<|c_reg<|s_y y_mv<|s_y y_mv<|?_
    have hcall:∀ w',St w [] w' [.blk b4 (.cells #[U (rst y (q.take i))] 221 (0,0)),.blk b3 (.cells #[U y] 221 (0,0))] → Gives Tryz.prog 164 [B q[i],.pointer (some ⟨b4,0,none⟩),.pointer (some ⟨b3,0,none⟩)] w' (keys [.blk b4 (.cells #[U (rst y (q.take i))] 221 (0,0))]) (fun _:Unit=>.tuple #[]) (fun _=>[.blk b4 (.cells #[U ((rst y (q.take i) * 256 + (q[i]).toNat) % y)] 221 (0,0))]) (fun _=>True):=fun w' hw=>by
      have h1:(Res.blk b4 (.cells #[U (rst y (q.take i))] 221 (0,0))).holds w':=(hw.own _ (.head _)).1
      have h2:Rd w' (some ⟨b3,0,none⟩) [U y]:=rdB (.tail _ (.head _)) (fun i v h=>by rw [Nat.zero_add]; simpa using h) w' hw
      have h3:=nd2 hw.nd
      have h4:=rst_lt hy (q.take i)
      exact rest_1_ok w' b4 b3 q[i] (rst y (q.take i)) y h1 h2 h3 h4 hyM
    refine s_upd (fs:=[]) (cs:=[.pointer (some ⟨b4,0,none⟩),.pointer (some ⟨b3,0,none⟩)]) (lx:=fun _=>[]) hcall (fun _=>.head _) (fun _ _=>?_)
    rw [← rst_take y q i hil]
    refine s_nil<|q_nb<|q_then<|c_reg<|s_y y_add<|s_y y_mv<|s_nil<|q_round (i + 1) (by omega) (by omega) ⟨rfl,rfl,rfl,rfl,trivial⟩ (List.Sublist.refl _)
  · have h32:q.take i = q:=List.take_of_length_le (by omega)
    rw [h32]
    refine c_exit<|q_ex<|q_ex<|q_exb<|q_then<|c_seq<|c_reg<|s_y (y_ld (v:=U (rst y q)))<|s_st (v:=U (rst y q)) (hl:=Nat.zero_lt_one) ?_
    refine s_nil<|q_then<|c_ret<|?_
    exact ret1 Tryz.results136 (rv_cf (v:=U (rst y q))) fun w' hw=>⟨rfl,hw.sub (List.nil_sublist _)⟩
def scal (t q:List UInt8):Nat:=1 + rst 2305843009213688668 (tagged t q)
theorem scal_lt (t q:List UInt8):0 < scal t q ∧ scal t q < 2305843009213688669:=by
  have:=rst_lt (y:=2305843009213688668) (by decide) (tagged t q)
  unfold scal; omega
theorem group_Scalar_ok (w:World) (t:List UInt8) (a:Option Addr) (c:Nat) (q:List UInt8) (hg:LS w) (ht:t.length < 1152921504606846976) (hr:Rd w a (bs q)) (hl:q.length ≤ 140737488355000) :
    Pure Tryz.prog 76 [.string (sb t),.slice a q.length c] w (I (scal t q)):=by
  have hlt:=rst_lt (y:=2305843009213688668) (by decide) (tagged t q)
  refine enter Tryz.func76 Tryz.ntmps76 ?_
  refine c_seq<|c_reg<|s_y y_as<|s_nil<|q_then<|c_seq<|c_reg<|s_y y_mv<|s_y y_mv<|s_pure (fun w' hw=>digest_Tagged_ok w' t a c q (hg.st hw) ht (hr.st hw) hl)<|s_pure (fun w' hw=>group_rest_ok w' (tagged t q) 2305843009213688668 (tagged_length _ _) (by decide) (by decide))<|s_y (y_cvn (k:=.i64) (p:=(rst 2305843009213688668 (tagged t q):Int)))<|s_y (y_add (p:=1) (q:=(rst 2305843009213688668 (tagged t q):Int)))<|?_
  rw [show (1:Int) + (rst 2305843009213688668 (tagged t q):Int) = (scal t q:Int) by unfold scal; omega]
  refine s_y y_as<|s_nil<|q_then<|c_ret<|?_
  exact ret1 Tryz.results76 rv_t fun w' hw=>⟨rfl,hw⟩
end Go.Proofs.YtegfmbefhpagmaaGreatDoor
namespace Go.Proofs.YtegfmbefhpagmaaGreatDoor
open Go Eng Sha Cod Dv
def dscal (k t:List UInt8):Nat:=scal scalarS (expand k t [])
theorem derive_Scalar_ok (w:World) (k t:List UInt8) (hg:LS w) (hk:k.length = 32) (ht:t.length ≤ 1000000) :
    Pure Tryz.prog 17 [.agg (bs k).toArray,.string (sb t)] w (I (dscal k t)):=by
  have hs32:(bs k).toArray.size = 32:=by simp [bs_length,hk]
  have hel:=expand_length k t []
  have hs33:(bs (expand k t [])).toArray.size = 32:=by simp [bs_length,expand_length]
  refine enter Tryz.func17 Tryz.ntmps17 ?_
  refine c_seq<|c_reg<|s_box rfl fun b2=>s_y y_as<|s_nil<|q_then<|c_seq<|c_reg<|s_y (y_lda (cs:=(bs k).toArray) (hl:=hs32))<|s_y y_mv<|s_pure (fun w' hw=>derive_Expand_ok w' k t none 0 [] (hg.st hw) hk (Rd.nil _ _) (by simp) ht (by simp))<|s_alloc fun b5=>s_sta (vs:=(bs (expand k t [])).toArray) (cs:=(List.replicate 32 (.int .u8 0)).toArray) (h1:=fun v hv=>bs_one (by simpa using hv)) (hl:=by rw [hs33]; rfl) (hs1:=hs33) ?_
  have hgs:∀ w',St w [] w' [.blk b5 (.cells (bs (expand k t [])).toArray 23 (0,0)),.blk b2 (.cells (bs k).toArray 23 (0,0))] → Pure Tryz.prog 76 [.string (sb scalarS),.slice (some ⟨b5,0,none⟩) 32 32] w' (I (dscal k t)):=fun w' hw=>by
    have:=group_Scalar_ok w' scalarS (some ⟨b5,0,none⟩) 32 (expand k t []) (hg.st hw) (by decide) (rd_blkB (e:=23) (.head _) w' hw) (by omega)
    rwa [hel] at this
  refine s_nil<|q_then<|c_seq<|c_reg<|s_y y_sla<|s_pure hgs<|s_y y_as<|s_nil<|q_then<|c_ret<|?_
  exact ret1 Tryz.results17 rv_t fun w' hw=>⟨rfl,hw.sub (List.nil_sublist _)⟩
end Go.Proofs.YtegfmbefhpagmaaGreatDoor
end
section
namespace Eng
open Go Go.RowKit
section
variable {r:Option Nat} {P:Program} {n:Nat} {D:List Deferred} {W:World} {Bo:List Nat} {F F0 F1:List (Nat × Value)} {l l' l1 l2 l3:SH} {e:TypeId}
  {dd:Nat} {ty:TypeId} {ps:String} {af:Array Edge} {g:Option (Nat × Bool)} {Q:Exit → Act → World → Prop} {ops:Array Oper} {rest:List Oper} {c:Code}
theorem St.putObj {w:World} {b:Nat} {o o':Obj} (hw:St W Bo w l) (hr:Rep (.blk b o) (.blk b o') l l'):St W Bo (w.putObj b o') l':=by
  have hb:=(hw.own _ hr.mem).1
  have hlt:=(Array.getElem?_eq_some_iff.1 hb).1
  refine hw.change hr rfl rfl rfl (by simp [World.putObj]) (fun k _ hk=>World.putObj_heap_other (fun e=>hk (by rw [e]; rfl))) (World.putObj_heap_same hlt) (fun k hk=>.inl hk)
theorem s_yield {fo:Operand} {ao:Array Operand} {ts:Array TypeId} {L:Nat} {rc:Loop} {v:Value} {σ:Type} (val:σ → Value) (lx:σ → SH) (φ:σ → Prop)
    (hm:Res.blk L (.loop rc) ∈ l) (hpz:rc.params.size = 1)
    (hr:∀ w,St W Bo w l → RoundIn (Fw none) 0 P L rc.fn ((rc.params.zip #[v]).foldl (fun tmps (t,a)=>tmps.setIfInBounds t a) rc.tmps) rc.assign rc.body w fun e w'=>∃ x,φ x ∧ e = .returned (val x) ∧ St W Bo w' (lx x))
    (h:∀ x,φ x → LP none P n D W Bo ops Q rest ((dd,val x) :: F) (lx x))
    (hfo:evO F fo = some (.func (.yield L) #[] #[]):=by rfl) (hargs:evL F ao.toList = some [v]:=by rfl) (hn:Nat.blt dd n = true:=by rfl) (hg:Wn ops F g:=by first | exact .none | exact .some rfl rfl) :
    LP none P n D W Bo ops Q (⟨some dd,.call ⟨.value fo,ao,ts⟩,ty,ps,af,g⟩ :: rest) F l:=by
  intro a w ha hw
  refine wpListIn_of (hg.wanted rfl ha) ?_
  refine ⟨fun f _=>trivial,?_⟩
  have hy:=run_yield (P:=P) (args:=#[v]) (hw.own _ hm).1 (by simp [hpz])
  have hrun:(execOp a.eval ⟨some dd,.call ⟨.value fo,ao,ts⟩,ty,ps,af,g⟩).run P w = .ok (.round L rc.fn ((rc.params.zip #[v]).foldl (fun tmps (t,a)=>tmps.setIfInBounds t a) rc.tmps) rc.assign rc.body) w:=by
    simp only [execOp,resolve,ha.eval hfo,evs ha hargs,Deferred.ofValue,Sem.run_bind,Sem.run_pure,Result.andThen_ok,invoke]
    simpa using hy
  rw [semAt_eq _ (by simp),hrun]
  refine ⟨by simp [Fw,Fence.wide],(hr w hw).mono ?_⟩
  rintro e w' ⟨x,hx,rfl,hw'⟩
  exact h x hx _ _ (ha.put dd _ hn) hw'
theorem round_ok {tmps:Array Value} {ac:Act} {L:Nat} {rc:Loop} {R:Ending → World → Prop} {w:World} (hw:St W Bo w l) (hfr:Fr n F0 [] ac) (htm:{ tmps:=tmps,defers:=[] } = ac)
    (hst:rc.state = .ready) (hL:Rep (.blk L (.loop rc)) (.blk L (.loop { rc with state:=.busy })) l1 l2)
    (ha:CP (some L) P n [] W Bo rc.assign (Exit.then (Jn n [] W Bo F1 l1) (fun _ _ _=>False)) F0 l)
    (hb:CP (some L) P n [] W Bo rc.body (roundPost P L R) F1 l2):RoundIn (Fw none) 0 P L rc.fn tmps rc.assign rc.body w R:=by
  refine roundIn_of_wpIn (Fw_fn _ _) ?_
  rw [htm]
  refine wpIn_mono (ha _ w hfr hw) ?_
  intro e a1 w1 q
  cases e with
  | normal=>exact ⟨_,run_beginRound (q.2.own _ hL.mem).1 hst,hb _ _ q.1 (q.2.putObj hL)⟩
  | exit id=>exact q
  | goto l=>exact q
  | ret=>exact q
  | panic ch=>exact q
  | outgrown=>exact q
theorem q_rn {L:Nat} {rc:Loop} {R:Ending → World → Prop} (hL:Rep (.blk L (.loop rc)) (.blk L (.loop { rc with state:=.ready,pending:=none })) l l') (h:∀ w,St W Bo w l' → R (.returned (.bool true)) w):QP n D W Bo (roundPost P L R) .normal F l :=
  fun _ _ _ hw=>⟨_,_,run_endRound none (hw.own _ hL.mem).1,h _ (hw.putObj hL)⟩
theorem enterM {k:FuncId} {fn:Func} {args:List Value} {R:Ending → World → Prop} (hf:P.funcs[k]? = some fn) (hn:fn.ntmps = n) (h:CP none P n [] W [] c (bodyPostM (Fw none) 0 P fn R) (argsF 0 args) [])
    (hb:fn.body = some c:=by rfl) (hle:Nat.ble args.length n = true:=by rfl):Calls P k args.toArray W R:=by
  refine (callsIn_wide (n:=0)).1 ?_
  refine callsIn_of_wp_marks hf hb trivial ?_
  have hle':=Nat.le_of_ble_eq_true hle
  refine h _ W ⟨by simp; omega,rfl,?_⟩ (St.refl W)
  intro t v ht
  have:=(argsF_look args 0 t v ht).2
  simp only [Nat.sub_zero] at this
  have hlt:t < args.length:=by
    rcases Nat.lt_or_ge t args.length with h1 | h1
    · exact h1
    · rw [List.getElem?_eq_none h1] at this; cases this
  rw [Array.getElem?_append_left (by simpa using hlt)]
  simpa using this
theorem ret2D {fn:Func} {R:Ending → World → Prop} {a b:ResultVar} {v u:Value} {Dk:Nat} (hf:fn.results = #[a,b]) (hL:Rep (.blk Dk (.deferred (some []))) (.blk Dk (.deferred none)) l l') (h:RV P n W Bo F l' a v) (h2:RV P n W Bo F l' b u) (hR:∀ w,St W Bo w l' → R (.returned (.tuple #[v,u])) w) :
    QP n [{ target:=.collected Dk,args:=#[] }] W Bo (bodyPostM (Fw none) 0 P fn R) .ret F l:=by
  intro ac w ha hw
  have h0:QP n [] W Bo (bodyPost P fn R) .ret F l':=ret2 hf h h2 hR
  have hw':=hw.putObj hL
  have h3:=h0 { ac with defers:=[] } _ ⟨ha.size,rfl,ha.slot⟩ hw'
  obtain ⟨hd,h4⟩:=h3
  show LeavesInM _ _ _ _ _ _ ac.defers .returning w
  rw [ha.defers]
  exact ⟨by simp,.inl ⟨Dk,_,rfl,run_takeDeferred (hw.own _ hL.mem).1,h4⟩⟩
end
end Eng
end
section
namespace Num
def IsPrime (n:Nat):Prop:=2 ≤ n ∧ ∀ d,d ∣ n → d = 1 ∨ d = n
theorem exists_prime:∀ k:Nat,2 ≤ k → ∃ q,IsPrime q ∧ q ∣ k:=by
  intro k
  induction k using Nat.strongRecOn with
  | ind k ih =>
    intro hk
    by_cases h:∀ d,d ∣ k → d = 1 ∨ d = k
    · exact ⟨k,⟨hk,h⟩,Nat.dvd_refl k⟩
    · have h':∃ d,d ∣ k ∧ d ≠ 1 ∧ d ≠ k:=by
        apply Classical.byContradiction
        intro hn
        apply h
        intro d hd
        apply Classical.byContradiction
        intro hc
        exact hn ⟨d,hd,fun e=>hc (.inl e),fun e=>hc (.inr e)⟩
      obtain ⟨d,hd,h1,h2⟩:=h'
      have hle:=Nat.le_of_dvd (by omega) hd
      have hpos:d ≠ 0:=by rintro rfl; have:=Nat.eq_zero_of_zero_dvd hd; omega
      obtain ⟨q,hq,hqd⟩:=ih d (by omega) (by omega)
      exact ⟨q,hq,Nat.dvd_trans hqd hd⟩
theorem IsPrime.dvd_mul {q a b:Nat} (hq:IsPrime q) (h:q ∣ a * b):q ∣ a ∨ q ∣ b:=by
  by_cases ha:q ∣ a
  · exact .inl ha
  · refine .inr ?_
    have hg:Nat.gcd q a = 1:=by
      rcases hq.2 _ (Nat.gcd_dvd_left q a) with h1 | h1
      · exact h1
      · exact absurd (h1 ▸ Nat.gcd_dvd_right q a) ha
    exact Nat.Coprime.dvd_of_dvd_mul_left hg h
theorem IsPrime.eq_of_dvd {q p:Nat} (hq:IsPrime q) (hp:IsPrime p) (h:q ∣ p):q = p:=by
  rcases hp.2 q h with h1 | h1
  · have:=hq.1; omega
  · exact h1
def pwGo (m:Nat):Nat → Nat → Nat → Nat → Nat
  | 0,_,_,c=>c
  | f + 1,a,n,c=>pwGo m f (a * a % m) (n / 2) (if n % 2 = 1 then c * a % m else c)
def pw (a n m:Nat):Nat:=pwGo m 64 (a % m) n (1 % m)
theorem pwGo_eq (m:Nat):∀ (f a n c:Nat),n < 2 ^ f → pwGo m f a n c % m = c * a ^ n % m:=by
  intro f
  induction f with
  | zero => intro a n c h; have : n = 0 := by simpa using h
            subst this; simp [pwGo]
  | succ f ih =>
    intro a n c h
    rw [pwGo,ih _ _ _ (by rw [Nat.pow_succ] at h; omega)]
    have hn:n = 2 * (n / 2) + n % 2:=by omega
    have hs:(a * a % m) ^ (n / 2) % m = a ^ (2 * (n / 2)) % m:=by
      rw [Nat.pow_mul,← Nat.pow_mod,Nat.pow_two]
    split
    · rename_i h1
      rw [Nat.mul_mod,hs,Nat.mod_mod,← Nat.mul_mod]
      conv=>rhs; rw [hn,h1,Nat.pow_succ]
      rw [Nat.mul_assoc,Nat.mul_comm a]
    · rename_i h1
      rw [Nat.mul_mod,hs,← Nat.mul_mod]
      conv=>rhs; rw [hn]
      have:n % 2 = 0:=by omega
      rw [this]; simp
theorem pwGo_lt (m:Nat) (hm:0 < m):∀ (f a n c:Nat),c < m → pwGo m f a n c < m:=by
  intro f
  induction f with
  | zero=>intro a n c h; exact h
  | succ f ih =>
    intro a n c h
    rw [pwGo]
    apply ih
    split
    · exact Nat.mod_lt _ hm
    · exact h
theorem pw_eq (a n m:Nat) (hm:0 < m) (hn:n < 2 ^ 64):a ^ n % m = pw a n m:=by
  have h:=pwGo_eq m 64 (a % m) n (1 % m) hn
  rw [Nat.mod_eq_of_lt (pwGo_lt m hm _ _ _ _ (Nat.mod_lt _ hm))] at h
  rw [pw,h,Nat.mul_mod,Nat.mod_mod,← Nat.mul_mod,Nat.one_mul,← Nat.pow_mod]
theorem pow_add_mod (g a b n:Nat):g ^ (a + b) % n = (g ^ a % n) * (g ^ b % n) % n:=by
  rw [Nat.pow_add,Nat.mul_mod]
theorem pow_mul_one {g o n:Nat} (h:g ^ o % n = 1 % n) (k:Nat):g ^ (o * k) % n = 1 % n:=by
  rw [Nat.pow_mul,Nat.pow_mod,h,← Nat.pow_mod,Nat.one_pow]
theorem order_dvd {g n o N:Nat} (ho:g ^ o % n = 1 % n) (hpos:0 < o) (hmin:∀ i,0 < i → i < o → g ^ i % n ≠ 1 % n)
    (hN:g ^ N % n = 1 % n):o ∣ N:=by
  have h1:N = o * (N / o) + N % o:=(Nat.div_add_mod N o).symm
  have h2:g ^ (N % o) % n = 1 % n:=by
    rw [h1,Nat.pow_add,Nat.mul_mod,pow_mul_one ho,← Nat.mul_mod,Nat.one_mul] at hN
    exact hN
  by_cases h0:N % o = 0
  · exact Nat.dvd_of_mod_eq_zero h0
  · exact absurd h2 (hmin _ (by omega) (Nat.mod_lt _ hpos))
theorem exists_order {g n N:Nat} (hN:0 < N) (h:g ^ N % n = 1 % n) :
    ∃ o,0 < o ∧ g ^ o % n = 1 % n ∧ ∀ i,0 < i → i < o → g ^ i % n ≠ 1 % n:=by
  induction N using Nat.strongRecOn with
  | ind N ih =>
    by_cases hm:∀ i,0 < i → i < N → g ^ i % n ≠ 1 % n
    · exact ⟨N,hN,h,hm⟩
    · have:∃ i,0 < i ∧ i < N ∧ g ^ i % n = 1 % n:=by
        apply Classical.byContradiction
        intro hc
        apply hm
        intro i h1 h2 h3
        exact hc ⟨i,h1,h2,h3⟩
      obtain ⟨i,h1,h2,h3⟩:=this
      exact ih i h2 h1 h3
theorem order_full {g n N:Nat} (hN:0 < N) (h:g ^ N % n = 1 % n)
    (hq:∀ q,IsPrime q → q ∣ N → g ^ (N / q) % n ≠ 1 % n):∀ i,0 < i → i < N → g ^ i % n ≠ 1 % n:=by
  obtain ⟨o,ho,h1,hmin⟩:=exists_order hN h
  have hd:=order_dvd h1 ho hmin h
  obtain ⟨k,rfl⟩:=hd
  by_cases hk:k = 1
  · subst hk; rw [Nat.mul_one]; exact hmin
  · have hk0:k ≠ 0:=by rintro rfl; simp at hN
    obtain ⟨q,hqp,c,rfl⟩:=exists_prime k (by omega)
    have:=hq q hqp ⟨o * c,by rw [Nat.mul_left_comm]⟩
    rw [show o * (q * c) / q = o * c by rw [Nat.mul_left_comm,Nat.mul_div_cancel_left _ (by have:=hqp.1; omega)]] at this
    exact absurd (pow_mul_one h1 c) this
theorem pow_coprime {g n N:Nat} (hn:2 ≤ n) (hN:0 < N) (h:g ^ N % n = 1 % n) (i:Nat):Nat.Coprime (g ^ i % n) n:=by
  have hg:Nat.Coprime (g ^ i) n:=by
    have h1:Nat.Coprime (g ^ N) n:=by
      unfold Nat.Coprime
      rw [Nat.gcd_comm,Nat.gcd_rec,h,Nat.mod_eq_of_lt (by omega)]
      exact Nat.gcd_one_left n
    have h2:Nat.Coprime g n:=by
      have h3:g ∣ g ^ N:=by
        obtain ⟨m,rfl⟩:∃ m,N = m + 1:=⟨N - 1,by omega⟩
        exact ⟨g ^ m,by rw [Nat.pow_succ,Nat.mul_comm]⟩
      exact Nat.Coprime.coprime_dvd_left h3 h1
    exact Nat.Coprime.pow_left i h2
  unfold Nat.Coprime at *
  rw [← Nat.gcd_rec,Nat.gcd_comm]
  exact hg
theorem pow_inj {g n N:Nat} (h:g ^ N % n = 1 % n) (hmin:∀ i,0 < i → i < N → g ^ i % n ≠ 1 % n)
    {i j:Nat} (hi:i < N) (hj:j < N) (e:g ^ i % n = g ^ j % n):i = j:=by
  have key:∀ i j:Nat,i < j → j < N → g ^ i % n = g ^ j % n → False:=by
    intro i j hij hj e
    have e1:g ^ (j - i + (N - j) + i) % n = 1 % n:=by rw [show j - i + (N - j) + i = N by omega]; exact h
    have e2:g ^ (i + (N - j)) % n = 1 % n:=by
      rw [Nat.pow_add,Nat.mul_mod,e,← Nat.mul_mod,← Nat.pow_add,show j + (N - j) = N by omega]; exact h
    exact hmin (i + (N - j)) (by omega) (by omega) e2
  rcases Nat.lt_trichotomy i j with h1 | h1 | h1
  · exact (key i j h1 hj e).elim
  · exact h1
  · exact (key j i h1 hi e.symm).elim
theorem pigeon (n:Nat):∀ (l:List Nat),l.Nodup → (∀ x ∈ l,x < n) → l.length ≤ n:=by
  induction n with
  | zero =>
    intro l _ hx
    cases l with
    | nil=>simp
    | cons a l=>exact absurd (hx a (by simp)) (by omega)
  | succ n ih =>
    intro l hl hx
    have h1:(l.filter (· != n)).length ≤ n:=ih _ (hl.sublist List.filter_sublist) (by
      intro x hxm
      rw [List.mem_filter] at hxm
      have:=hx x hxm.1
      have h2:x ≠ n:=by simpa using hxm.2
      omega)
    have h2:(l.filter (· == n)).length ≤ 1:=by
      have:=List.nodup_iff_count.1 hl n
      rw [List.count_eq_length_filter] at this
      exact this
    have h3:∀ (l:List Nat),l.length = (l.filter (· == n)).length + (l.filter (· != n)).length:=by
      intro l
      induction l with
      | nil=>rfl
      | cons a l ih =>
        by_cases h:a = n
        · subst h; simp; omega
        · simp [h]; omega
    rw [h3 l]; omega
theorem surj {g n:Nat} (hn:2 ≤ n) (h:g ^ (n - 1) % n = 1 % n) (hmin:∀ i,0 < i → i < n - 1 → g ^ i % n ≠ 1 % n)
    {a:Nat} (ha:0 < a) (han:a < n):∃ i,i < n - 1 ∧ g ^ i % n = a:=by
  apply Classical.byContradiction
  intro hc
  have hne:∀ i,i < n - 1 → g ^ i % n ≠ a:=fun i hi e=>hc ⟨i,hi,e⟩
  let l:=(List.range (n - 1)).map (fun i=>g ^ i % n)
  have hnd:l.Nodup:=by
    rw [List.nodup_iff_pairwise_ne,List.pairwise_map]
    refine List.Pairwise.imp_of_mem ?_ (List.nodup_range (n:=n - 1))
    intro i j hi hj hij e
    rw [List.mem_range] at hi hj
    exact hij (pow_inj h hmin hi hj e)
  have hall:∀ x ∈ a :: 0 :: l,x < n:=by
    intro x hx
    simp only [List.mem_cons] at hx
    rcases hx with rfl | rfl | hx
    · exact han
    · omega
    · obtain ⟨i,_,rfl⟩:=List.mem_map.1 hx
      exact Nat.mod_lt _ (by omega)
  have hnd2:(a :: 0 :: l).Nodup:=by
    rw [List.nodup_cons,List.nodup_cons]
    refine ⟨?_,?_,hnd⟩
    · intro hx
      rcases List.mem_cons.1 hx with rfl | hx
      · omega
      · obtain ⟨i,hi,e⟩:=List.mem_map.1 hx
        exact hne i (List.mem_range.1 hi) e
    · intro hx
      obtain ⟨i,hi,e⟩:=List.mem_map.1 hx
      have:=pow_coprime hn (by omega) h i
      rw [e] at this
      unfold Nat.Coprime at this
      rw [Nat.gcd_zero_left] at this
      omega
  have:=pigeon n _ hnd2 hall
  simp [l] at this
  omega
theorem prime_of_root {g n:Nat} (hn:2 ≤ n) (h:g ^ (n - 1) % n = 1 % n) (hmin:∀ i,0 < i → i < n - 1 → g ^ i % n ≠ 1 % n):IsPrime n:=by
  refine ⟨hn,fun d hd=>?_⟩
  by_cases e:d = n
  · exact .inr e
  · have hle:=Nat.le_of_dvd (by omega) hd
    have h0:d ≠ 0:=by rintro rfl; have:=Nat.eq_zero_of_zero_dvd hd; omega
    obtain ⟨i,_,hi⟩:=surj hn h hmin (a:=d) (by omega) (by omega)
    have:=pow_coprime hn (by omega) h i
    rw [hi] at this
    unfold Nat.Coprime at this
    rw [Nat.gcd_eq_left hd] at this
    exact .inl this
theorem fermat_of_root {g n:Nat} (hn:2 ≤ n) (h:g ^ (n - 1) % n = 1 % n) (hmin:∀ i,0 < i → i < n - 1 → g ^ i % n ≠ 1 % n)
    {a:Nat} (ha:a % n ≠ 0):a ^ (n - 1) % n = 1:=by
  obtain ⟨i,_,hi⟩:=surj hn h hmin (a:=a % n) (by omega) (Nat.mod_lt _ (by omega))
  rw [Nat.pow_mod,← hi,← Nat.pow_mod,← Nat.pow_mul,Nat.mul_comm,Nat.pow_mul,Nat.pow_mod,h,← Nat.pow_mod,Nat.one_pow,Nat.mod_eq_of_lt (by omega)]
def noDiv (n:Nat):Nat → Nat → Bool
  | 0,_=>true
  | f + 1,d=>n % d != 0 && noDiv n f (d + 1)
theorem noDiv_spec (n:Nat):∀ f d,noDiv n f d = true → ∀ x,d ≤ x → x < d + f → ¬ x ∣ n:=by
  intro f
  induction f with
  | zero=>intro d _ x h1 h2; omega
  | succ f ih =>
    intro d h x h1 h2
    rw [noDiv,Bool.and_eq_true] at h
    by_cases e:x = d
    · subst e
      intro hd
      have:=Nat.mod_eq_zero_of_dvd hd
      simp [this] at h
    · exact ih (d + 1) h.2 x (by omega) (by omega)
theorem prime_of_noDiv {n f:Nat} (hn:2 ≤ n) (h:noDiv n f 2 = true) (hf:n < (f + 2) * (f + 2)):IsPrime n:=by
  refine ⟨hn,fun d hd=>?_⟩
  obtain ⟨c,rfl⟩:=hd
  have hd0:0 < d:=Nat.pos_of_ne_zero (by rintro rfl; simp at hn)
  have hc0:0 < c:=Nat.pos_of_ne_zero (by rintro rfl; simp at hn)
  by_cases h1:d = 1
  · exact .inl h1
  by_cases h2:c = 1
  · subst h2; exact .inr (by omega)
  exfalso
  by_cases h3:d < f + 2
  · exact noDiv_spec _ _ _ h d (by omega) (by omega) ⟨c,rfl⟩
  by_cases h4:c < f + 2
  · exact noDiv_spec _ _ _ h c (by omega) (by omega) ⟨d,by rw [Nat.mul_comm]⟩
  have:=Nat.mul_le_mul (Nat.le_of_not_lt h3) (Nat.le_of_not_lt h4)
  omega
theorem prime_2:IsPrime 2:=prime_of_noDiv (f:=0) (by omega) (by decide) (by omega)
theorem prime_3:IsPrime 3:=prime_of_noDiv (f:=0) (by omega) (by decide) (by omega)
theorem prime_73:IsPrime 73:=prime_of_noDiv (f:=10) (by omega) (by decide +kernel) (by omega)
theorem prime_2311:IsPrime 2311:=prime_of_noDiv (f:=50) (by omega) (by decide +kernel) (by omega)
theorem prime_11:IsPrime 11:=prime_of_noDiv (f:=2) (by omega) (by decide) (by omega)
theorem prime_17:IsPrime 17:=prime_of_noDiv (f:=3) (by omega) (by decide) (by omega)
theorem prime_7930907:IsPrime 7930907:=prime_of_noDiv (f:=2900) (by omega) (by decide +kernel) (by omega)
theorem root_of_pw {g n N:Nat} (hn:2 ≤ n) (hN:0 < N) (hl:N < 2 ^ 64) (h:pw g N n = 1) (hq:∀ q,IsPrime q → q ∣ N → pw g (N / q) n ≠ 1) :
    g ^ N % n = 1 % n ∧ ∀ i,0 < i → i < N → g ^ i % n ≠ 1 % n:=by
  have h1:g ^ N % n = 1 % n:=by rw [pw_eq _ _ _ (by omega) hl,h,Nat.mod_eq_of_lt (by omega)]
  refine ⟨h1,order_full hN h1 fun q hp hd=>?_⟩
  rw [pw_eq _ _ _ (by omega) (Nat.lt_of_le_of_lt (Nat.div_le_self _ _) hl),Nat.mod_eq_of_lt (a:=1) (by omega)]
  exact hq q hp hd
theorem prime_of_pw {g n:Nat} (hn:2 ≤ n) (hl:n - 1 < 2 ^ 64) (h:pw g (n - 1) n = 1) (hq:∀ q,IsPrime q → q ∣ n - 1 → pw g ((n - 1) / q) n ≠ 1):IsPrime n :=
  have r:=root_of_pw hn (by omega) hl h hq
  prime_of_root hn r.1 r.2
theorem prime_11864636873:IsPrime 11864636873:=by
  refine prime_of_pw (g:=5) (by decide) (by decide) (by decide +kernel) ?_
  intro q hq hd
  have hd':q ∣ 2 * (2 * (2 * (11 * (17 * 7930907)))):=hd
  have hc:q = 2 ∨ q = 11 ∨ q = 17 ∨ q = 7930907:=by
    have h2:∀ x,q ∣ 2 * x → q = 2 ∨ q ∣ x:=fun x hx=>(hq.dvd_mul hx).imp (hq.eq_of_dvd prime_2) id
    have h11:∀ x,q ∣ 11 * x → q = 11 ∨ q ∣ x:=fun x hx=>(hq.dvd_mul hx).imp (hq.eq_of_dvd prime_11) id
    have h17:∀ x,q ∣ 17 * x → q = 17 ∨ q ∣ x:=fun x hx=>(hq.dvd_mul hx).imp (hq.eq_of_dvd prime_17) id
    rcases h2 _ hd' with h1 | h1
    · exact .inl h1
    rcases h2 _ h1 with h1 | h1
    · exact .inl h1
    rcases h2 _ h1 with h1 | h1
    · exact .inl h1
    rcases h11 _ h1 with h1 | h1
    · exact .inr (.inl h1)
    rcases h17 _ h1 with h1 | h1
    · exact .inr (.inr (.inl h1))
    exact .inr (.inr (.inr (hq.eq_of_dvd prime_7930907 h1)))
  rcases hc with rfl | rfl | rfl | rfl <;> decide +kernel
theorem prime_1732236983459:IsPrime 1732236983459:=by
  refine prime_of_pw (g:=2) (by decide) (by decide) (by decide +kernel) ?_
  intro q hq hd
  have hd':q ∣ 2 * (73 * 11864636873):=hd
  have hc:q = 2 ∨ q = 73 ∨ q = 11864636873:=by
    have h2:∀ x,q ∣ 2 * x → q = 2 ∨ q ∣ x:=fun x hx=>(hq.dvd_mul hx).imp (hq.eq_of_dvd prime_2) id
    have h73:∀ x,q ∣ 73 * x → q = 73 ∨ q ∣ x:=fun x hx=>(hq.dvd_mul hx).imp (hq.eq_of_dvd prime_73) id
    rcases h2 _ hd' with h1 | h1
    · exact .inl h1
    rcases h73 _ h1 with h1 | h1
    · exact .inr (.inl h1)
    exact .inr (.inr (hq.eq_of_dvd prime_11864636873 h1))
  rcases hc with rfl | rfl | rfl <;> decide +kernel
theorem prime_249442125618097:IsPrime 249442125618097:=by
  refine prime_of_pw (g:=5) (by decide) (by decide) (by decide +kernel) ?_
  intro q hq hd
  have hd':q ∣ 2 * (2 * (2 * (2 * (3 * (3 * 1732236983459))))):=hd
  have hc:q = 2 ∨ q = 3 ∨ q = 1732236983459:=by
    have h2:∀ x,q ∣ 2 * x → q = 2 ∨ q ∣ x:=fun x hx=>(hq.dvd_mul hx).imp (hq.eq_of_dvd prime_2) id
    have h3:∀ x,q ∣ 3 * x → q = 3 ∨ q ∣ x:=fun x hx=>(hq.dvd_mul hx).imp (hq.eq_of_dvd prime_3) id
    rcases h2 _ hd' with h1 | h1
    · exact .inl h1
    rcases h2 _ h1 with h1 | h1
    · exact .inl h1
    rcases h2 _ h1 with h1 | h1
    · exact .inl h1
    rcases h2 _ h1 with h1 | h1
    · exact .inl h1
    rcases h3 _ h1 with h1 | h1
    · exact .inr (.inl h1)
    rcases h3 _ h1 with h1 | h1
    · exact .inr (.inl h1)
    exact .inr (.inr (hq.eq_of_dvd prime_1732236983459 h1))
  rcases hc with rfl | rfl | rfl <;> decide +kernel
def Q:Nat:=2305843009213688669
def P:Nat:=4611686018427377339
theorem root_Q:2 ^ (Q - 1) % Q = 1 % Q ∧ ∀ i,0 < i → i < Q - 1 → 2 ^ i % Q ≠ 1 % Q:=by
  refine root_of_pw (by decide) (by decide) (by decide) (by decide +kernel) ?_
  intro q hq hd
  have hd':q ∣ 2 * (2 * (2311 * 249442125618097)):=hd
  have hc:q = 2 ∨ q = 2311 ∨ q = 249442125618097:=by
    have h2:∀ x,q ∣ 2 * x → q = 2 ∨ q ∣ x:=fun x hx=>(hq.dvd_mul hx).imp (hq.eq_of_dvd prime_2) id
    have h2311:∀ x,q ∣ 2311 * x → q = 2311 ∨ q ∣ x:=fun x hx=>(hq.dvd_mul hx).imp (hq.eq_of_dvd prime_2311) id
    rcases h2 _ hd' with h1 | h1
    · exact .inl h1
    rcases h2 _ h1 with h1 | h1
    · exact .inl h1
    rcases h2311 _ h1 with h1 | h1
    · exact .inr (.inl h1)
    exact .inr (.inr (hq.eq_of_dvd prime_249442125618097 h1))
  rcases hc with rfl | rfl | rfl <;> decide +kernel
theorem prime_Q:IsPrime Q:=prime_of_root (g:=2) (by decide) root_Q.1 root_Q.2
theorem fermat_Q {a:Nat} (ha:a % Q ≠ 0):a ^ (Q - 1) % Q = 1:=fermat_of_root (by decide) root_Q.1 root_Q.2 ha
theorem four:4 ^ Q % P = 1 % P ∧ ∀ i,0 < i → i < Q → 4 ^ i % P ≠ 1 % P:=by
  refine root_of_pw (by decide) (by decide) (by decide) (by decide +kernel) ?_
  intro q hq hd
  have e:=hq.eq_of_dvd prime_Q hd
  subst e
  decide +kernel
end Num
end
section
namespace Dv
theorem half {a b:Nat} (ha:a < 4294967296) (hb:b < 4294967296):a * b ≤ 18446744065119617025:=by
  have:=Nat.mul_le_mul (show a ≤ 4294967295 by omega) (show b ≤ 4294967295 by omega)
  omega
theorem mul_hi {x0 x1 y0 y1 a b c d t w1:Nat} (ha:x0 * y0 = a) (hb:x1 * y0 = b) (hc:x0 * y1 = c) (hd:x1 * y1 = d) (ht:t = b + a / 4294967296) (hw:w1 = t % 4294967296 + c) :
    (x1 * 4294967296 + x0) * (y1 * 4294967296 + y0) / 18446744073709551616 = d + t / 4294967296 + w1 / 4294967296:=by
  have e:(x1 * 4294967296 + x0) * (y1 * 4294967296 + y0) = d * 18446744073709551616 + (b + c) * 4294967296 + a:=by
    rw [Nat.add_mul,Nat.mul_add,Nat.mul_add,← ha,← hb,← hc,← hd]
    have h1:x1 * 4294967296 * (y1 * 4294967296) = x1 * y1 * 18446744073709551616:=by
      rw [Nat.mul_assoc,Nat.mul_left_comm 4294967296,Nat.mul_assoc]
    have h2:x1 * 4294967296 * y0 = x1 * y0 * 4294967296:=Nat.mul_right_comm _ _ _
    have h3:x0 * (y1 * 4294967296) = x0 * y1 * 4294967296:=(Nat.mul_assoc _ _ _).symm
    rw [h1,h2,h3]
    generalize x1 * y1 = d at *
    generalize x1 * y0 = b at *
    generalize x0 * y1 = c at *
    generalize x0 * y0 = a at *
    omega
  rw [e]
  clear e ha hb hc hd
  subst ht hw
  omega
theorem split2 (x:Nat):x / 2 ^ 32 * 4294967296 + x % 2 ^ 32 = x:=by omega
theorem pow_step (b e i m:Nat):let a:=b ^ (e / 2 ^ (i + 1)) % m
    b ^ (e / 2 ^ i) % m = if e / 2 ^ i % 2 = 1 then (a * a % m) * b % m else a * a % m:=by
  intro a
  have h1:e / 2 ^ (i + 1) = e / 2 ^ i / 2:=by rw [Nat.pow_succ,Nat.div_div_eq_div_mul]
  have ha:a * a % m = b ^ (2 * (e / 2 ^ i / 2)) % m:=by
    show b ^ (e / 2 ^ (i + 1)) % m * (b ^ (e / 2 ^ (i + 1)) % m) % m = _
    rw [← Nat.mul_mod,← Nat.pow_add,h1,Nat.two_mul]
  rw [ha]
  have h2:=Nat.div_add_mod (e / 2 ^ i) 2
  by_cases h:e / 2 ^ i % 2 = 1
  · rw [if_pos h]
    rw [h] at h2
    conv=>lhs; rw [← h2]
    rw [Nat.pow_succ,Nat.mod_mul_mod]
  · rw [if_neg h]
    have h0:e / 2 ^ i % 2 = 0:=by omega
    rw [h0,Nat.add_zero] at h2
    rw [h2]
end Dv
namespace Dv
theorem prod_lt {x y p:Nat} (hx:x < p) (hy:y < p) (hp:p < 18446744073709551616):x * y / 18446744073709551616 < p:=by
  refine Nat.div_lt_of_lt_mul ?_
  rw [Nat.mul_comm]
  exact Nat.mul_lt_mul'' (Nat.lt_trans hy hp) hx
end Dv
namespace Eng
open Go Go.RowKit
section
variable {P:Program} {n:Nat} {D:List Deferred} {W:World} {Bo:List Nat} {F:List (Nat × Value)} {l:SH} {Q:Exit → Act → World → Prop}
theorem c_rangeN {gf:FuncId} [hf:HF P gf] {go:Operand} {prs:Array Tmp} {assign body:Code} {fs cs:List Value} {σ:Type} (lx:σ → SH) (φ:σ → Prop)
    (hcall:∀ (fn:FuncId) (tm:Array Value) (Dk L:Nat),(∀ D',Fr n F D' { tmps:=tm,defers:=D' }) → ∀ w,St W Bo w (.blk L (.loop { state:=.ready,pending:=none,fn,tmps:=tm,params:=prs,assign,body,defers:=Dk }) :: .blk Dk (.deferred (some [])) :: l) →
      Calls P gf (fs ++ [Value.func (.yield L) #[] #[]] ++ cs).toArray w fun e w'=>(∃ v,e = .returned v) ∧ ∃ x,φ x ∧ St W Bo w' (.blk L (.loop { state:=.ready,pending:=none,fn,tmps:=tm,params:=prs,assign,body,defers:=Dk }) :: .blk Dk (.deferred (some [])) :: lx x))
    (hx:∀ Dk x,φ x → QP n ({ target:=.collected Dk,args:=#[] } :: D) W Bo Q .normal F (.blk Dk (.deferred (some [])) :: lx x))
    (hgo:evO F go = some (.func (.func gf) fs.toArray cs.toArray):=by rfl):CP none P n D W Bo (.rangeFunc go prs assign body) Q F l:=by
  intro a w ha hw
  refine wpIn_rangeFunc ?_
  intro fn _
  obtain ⟨fnd,bc,h1,h2,h3⟩:=hf.h
  have hcf:∀ w':World,(callFunc gf (fs ++ [Value.func (.yield (w.heap.size + 1)) #[] #[]] ++ cs).toArray).run P w' = .ok (.enter gf (fs ++ [Value.func (.yield (w.heap.size + 1)) #[] #[]] ++ cs).toArray) w':=fun w'=>by
    have h4 : fnd.name ≠ "runtime.NumGoroutine" := by simpa using h3
    simp [callFunc,h1,h4,h2]
  have hw1:St W Bo ((w.alloc (.deferred (some []))).alloc (.loop { state:=.ready,pending:=none,fn,tmps:=a.tmps,params:=prs,assign,body,defers:=w.heap.size })) (.blk (w.heap.size + 1) (.loop { state:=.ready,pending:=none,fn,tmps:=a.tmps,params:=prs,assign,body,defers:=w.heap.size }) :: .blk w.heap.size (.deferred (some [])) :: l):=by
    have:=(hw.alloc (.deferred (some []))).alloc (.loop { state:=.ready,pending:=none,fn,tmps:=a.tmps,params:=prs,assign,body,defers:=w.heap.size })
    rwa [World.size_alloc] at this
  obtain ⟨W1,hW1⟩:∃ W1,W1 = (w.alloc (.deferred (some []))).alloc (.loop { state:=.ready,pending:=none,fn,tmps:=a.tmps,params:=prs,assign,body,defers:=w.heap.size }):=⟨_,rfl⟩
  rw [← hW1] at hw1
  refine ⟨w.heap.size + 1,[{ target:=.collected w.heap.size,args:=#[] }],W1,{ target:=.fn (.func gf) cs.toArray,args:=fs.toArray ++ #[Value.func (.yield (w.heap.size + 1)) #[] #[]] },W1,gf,(fs ++ [Value.func (.yield (w.heap.size + 1)) #[] #[]] ++ cs).toArray,W1,
    by rw [hW1]; exact run_enterLoop_outer _ _ _ _ _,?_,fun f' _=>trivial,?_,by simp [Fw,Fence.wide],?_⟩
  · simp only [resolve,ha.eval hgo]
    simp [go_sem,Deferred.ofValue]
  · simp only [invoke]
    simpa using hcf _
  · refine callsFw ((hcall fn a.tmps w.heap.size (w.heap.size + 1) (fun D'=>⟨ha.size,rfl,ha.slot⟩) _ hw1).mono ?_)
    rintro e w' ⟨⟨v,rfl⟩,x,hx',hw'⟩
    refine ⟨_,_,run_endLoop (hw'.own _ (.head _)).1 (by simp),?_⟩
    refine hx w.heap.size x hx' _ _ ⟨ha.size,by simp [ha.defers],ha.slot⟩ ?_
    have:=hw'.putObj (Rep.head (p':=.blk (w.heap.size + 1) (.loop { state:=.exhausted,pending:=none,fn,tmps:=a.tmps,params:=prs,assign,body,defers:=w.heap.size })) _)
    exact this.sub (.cons _ (.refl _))
theorem ret1E {fn:Func} {R:Ending → World → Prop} {a:ResultVar} {v:Value} {Dk:Nat} {l':SH} (hf:fn.results = #[a]) (hL:Rep (.blk Dk (.deferred (some []))) (.blk Dk (.deferred none)) l l') (h:RV P n W Bo F l' a v) (hR:∀ w,St W Bo w l' → R (.returned v) w) :
    QP n [{ target:=.collected Dk,args:=#[] }] W Bo (bodyPostM (Fw none) 0 P fn R) .ret F l:=by
  intro ac w ha hw
  have h0:QP n [] W Bo (bodyPost P fn R) .ret F l':=ret1 hf h hR
  have h3:=h0 { ac with defers:=[] } _ ⟨ha.size,rfl,ha.slot⟩ (hw.putObj hL)
  obtain ⟨hd,h4⟩:=h3
  show LeavesInM _ _ _ _ _ _ ac.defers .returning w
  rw [ha.defers]
  exact ⟨by simp,.inl ⟨Dk,_,rfl,run_takeDeferred (hw.own _ hL.mem).1,h4⟩⟩
end
end Eng
namespace Go.Proofs.YtegfmbefhpagmaaGreatDoor
open Go Eng Dv
theorem bits_Mul64_ok (w:World) (x y:Nat) (hx:x < 18446744073709551616) (hy:y < 18446744073709551616) :
    Pure Tryz.prog 170 [U x,U y] w (.tuple #[U (x * y / 18446744073709551616),U (x * y % 18446744073709551616)]):=by
  obtain ⟨x0,hx0⟩:∃ x0,x0 = x % 2 ^ 32:=⟨_,rfl⟩
  obtain ⟨x1,hx1⟩:∃ x1,x1 = x / 2 ^ 32:=⟨_,rfl⟩
  obtain ⟨y0,hy0⟩:∃ y0,y0 = y % 2 ^ 32:=⟨_,rfl⟩
  obtain ⟨y1,hy1⟩:∃ y1,y1 = y / 2 ^ 32:=⟨_,rfl⟩
  have bx0:x0 < 4294967296:=by omega
  have bx1:x1 < 4294967296:=by omega
  have by0:y0 < 4294967296:=by omega
  have by1:y1 < 4294967296:=by omega
  have ex:x1 * 4294967296 + x0 = x:=by rw [hx1,hx0]; exact split2 x
  have ey:y1 * 4294967296 + y0 = y:=by rw [hy1,hy0]; exact split2 y
  have ba:=half bx0 by0
  have bb:=half bx1 by0
  have bc:=half bx0 by1
  have bd:=half bx1 by1
  obtain ⟨a,ha⟩:∃ a,x0 * y0 = a:=⟨_,rfl⟩
  obtain ⟨b,hb⟩:∃ b,x1 * y0 = b:=⟨_,rfl⟩
  obtain ⟨c,hc⟩:∃ c,x0 * y1 = c:=⟨_,rfl⟩
  obtain ⟨d,hd⟩:∃ d,x1 * y1 = d:=⟨_,rfl⟩
  rw [ha] at ba
  rw [hb] at bb
  rw [hc] at bc
  rw [hd] at bd
  obtain ⟨t,ht⟩:∃ t,t = b + a / 4294967296:=⟨_,rfl⟩
  obtain ⟨w1,hw1⟩:∃ w1,w1 = t % 4294967296 + c:=⟨_,rfl⟩
  have hh:=mul_hi ha hb hc hd ht hw1
  rw [ex,ey] at hh
  have hlt:x * y / 18446744073709551616 < 18446744073709551616:=Nat.div_lt_of_lt_mul (Nat.mul_lt_mul'' hx hy)
  rw [hh] at hlt
  refine enter Tryz.func170 Tryz.ntmps170 ?_
  refine c_seq<|c_reg<|s_y y_as<|s_y y_as<|s_nil<|q_then<|c_seq<|c_reg<|s_y y_mv<|s_y (y_mask (p:=x) 32)<|?_
  rw [← hx0]
  refine s_y y_as<|s_nil<|q_then<|c_seq<|c_reg<|s_y y_mv<|s_y (y_shrW 32)<|?_
  rw [← hx1]
  refine s_y y_as<|s_nil<|q_then<|c_seq<|c_reg<|s_y y_mv<|s_y (y_mask (p:=y) 32)<|?_
  rw [← hy0]
  refine s_y y_as<|s_nil<|q_then<|c_seq<|c_reg<|s_y y_mv<|s_y (y_shrW 32)<|?_
  rw [← hy1]
  refine s_y y_as<|s_nil<|q_then<|c_seq<|c_reg<|s_y y_mv<|s_y y_mv<|s_y (y_mul64 (p:=x0) (q:=y0))<|?_
  rw [ha]
  refine s_y y_as<|s_nil<|q_then<|c_seq<|c_reg<|s_y y_mv<|s_y y_mv<|s_y (y_mul64 (p:=x1) (q:=y0))<|?_
  rw [hb]
  refine s_y y_mv<|s_y (y_shrW 32)<|s_y (y_add64 (p:=b) (q:=a / 2 ^ 32))<|?_
  rw [show b + a / 2 ^ 32 = t from ht.symm]
  refine s_y y_as<|s_nil<|q_then<|c_seq<|c_reg<|s_y y_mv<|s_y (y_mask (p:=t) 32)<|s_y y_as<|s_nil<|q_then<|c_seq<|c_reg<|s_y y_mv<|s_y (y_shrW 32)<|s_y y_as<|s_nil<|q_then<|c_seq<|c_reg<|s_y y_mv<|s_y y_mv<|s_y y_mv<|s_y (y_mul64 (p:=x0) (q:=y1))<|?_
  rw [hc]
  refine s_y (y_add64 (p:=t % 2 ^ 32) (q:=c))<|?_
  rw [show t % 2 ^ 32 + c = w1 from hw1.symm]
  refine s_y y_as<|s_nil<|q_then<|c_seq<|c_reg<|s_y y_mv<|s_y y_mv<|s_y (y_mul64 (p:=x1) (q:=y1))<|?_
  rw [hd]
  refine s_y y_mv<|s_y (y_add64 (p:=d) (q:=t / 2 ^ 32))<|s_y y_mv<|s_y (y_shrW 32)<|s_y (y_add64 (p:=d + t / 2 ^ 32) (q:=w1 / 2 ^ 32))<|?_
  rw [show d + t / 2 ^ 32 + w1 / 2 ^ 32 = x * y / 18446744073709551616 from hh.symm]
  refine s_y y_as<|s_nil<|q_then<|c_seq<|c_reg<|s_y y_mv<|s_y y_mv<|s_y (y_mulW (p:=x) (q:=y))<|s_y y_as<|s_nil<|q_then<|c_ret<|?_
  exact ret2 Tryz.results170 rv_t rv_t fun w' hw=>⟨rfl,hw⟩
theorem group_times_ok (w:World) (x y:Nat) (hx:x < 4611686018427377339) (hy:y < 4611686018427377339) :
    Pure Tryz.prog 167 [U x,U y] w (U (x * y % 4611686018427377339)):=by
  have hd:=Nat.div_add_mod (x * y) 18446744073709551616
  have hp:=prod_lt hx hy (by decide)
  refine enter Tryz.func167 Tryz.ntmps167 ?_
  refine c_seq<|c_reg<|s_y y_as<|s_nil<|q_then<|c_seq<|c_reg<|s_y y_mv<|s_y y_mv<|s_pure (fun w' hw=>bits_Mul64_ok w' x y (Nat.lt_trans hx (by decide)) (Nat.lt_trans hy (by decide)))<|s_y y_mv<|s_y y_ext<|s_y y_ext<|s_y y_as<|s_y y_as<|s_nil<|q_then<|c_seq<|c_reg<|s_y y_mv<|s_y y_mv<|s_pure (fun w' hw=>bits_Div64_ok w' (x * y / 18446744073709551616) (x * y % 18446744073709551616) 4611686018427377339 hp (Nat.mod_lt _ (by decide)) (by decide))<|?_
  rw [Nat.mul_comm (x * y / 18446744073709551616),hd]
  refine s_y y_mv<|s_y y_ext<|s_y y_ext<|s_y y_as<|s_y y_as<|s_nil<|q_then<|c_seq<|c_reg<|s_y y_mv<|s_y y_as<|s_nil<|q_then<|c_ret<|?_
  exact ret1 Tryz.results167 rv_t fun w' hw=>⟨rfl,hw⟩
end Go.Proofs.YtegfmbefhpagmaaGreatDoor
namespace Go.Proofs.YtegfmbefhpagmaaGreatDoor
open Go Eng Dv
theorem group_digits_ok (w:World) (e:Nat):Gives Tryz.prog 166 [U e] w [] (fun b:Nat=>.func (.func 195) #[] #[.pointer (some ⟨b,0,none⟩)]) (fun b=>[.blk b (.cells #[U e] 221 (0,0))]) (fun _=>True):=by
  refine enter Tryz.func166 Tryz.ntmps166 ?_
  refine c_seq<|c_reg<|s_box rfl fun b1=>s_y y_as<|s_nil<|q_then<|c_seq<|c_reg<|s_y y_func<|s_y y_as<|s_nil<|q_then<|c_ret<|?_
  exact ret1 Tryz.results166 rv_t fun w' hw=>⟨b1,trivial,rfl,hw⟩
def pwM (L Dk:Nat) (rc:Loop) (b5 b2 b1 e b acc:Nat):SH :=
  [.blk L (.loop rc),.blk Dk (.deferred (some [])),.blk b1 (.cells #[U e] 221 (0,0)),.blk b5 (.cells #[U acc] 221 (0,0)),.blk b2 (.cells #[U b] 221 (0,0))]
theorem digits1_ok (w':World) (rc:Loop) (L Dk b5 b2 b1 e b p:Nat) (he:e < 18446744073709551616) (hp:1 < p)
    (hs:∀ q ∈ pwM L Dk rc b5 b2 b1 e b 1,q.holds w') (hnd:(keys (pwM L Dk rc b5 b2 b1 e b 1)).Nodup) (hpz:rc.params.size = 1)
    (hround:∀ (i:Nat) (w2:World),St w' (keys (pwM L Dk rc b5 b2 b1 e b 1)) w2 (pwM L Dk rc b5 b2 b1 e b (b ^ (e / 2 ^ (i + 1)) % p)) →
      RoundIn (Fw none) 0 Tryz.prog L rc.fn ((rc.params.zip #[.bool (decide (e / 2 ^ i % 2 = 1))]).foldl (fun tmps (t,a)=>tmps.setIfInBounds t a) rc.tmps) rc.assign rc.body w2 fun e' w3=>∃ _:Unit,True ∧ e' = .returned (.bool true) ∧ St w' (keys (pwM L Dk rc b5 b2 b1 e b 1)) w3 (pwM L Dk { rc with state:=.ready,pending:=none } b5 b2 b1 e b (b ^ (e / 2 ^ i) % p)))
    (hrdy:rc = { rc with state:=.ready,pending:=none }:=by rfl) :
    Calls Tryz.prog 195 #[.func (.yield L) #[] #[],.pointer (some ⟨b1,0,none⟩)] w' fun e' w2=>(∃ v,e' = .returned v) ∧ St w' (keys (pwM L Dk rc b5 b2 b1 e b 1)) w2 (pwM L Dk rc b5 b2 b1 e b (b ^ e % p)):=by
  obtain ⟨len,hlen,hl1,_,hlz⟩:=bits_Len64_ok e he
  refine enterL (args:=[.func (.yield L) #[] #[],.pointer (some ⟨b1,0,none⟩)]) Tryz.func195 Tryz.ntmps195 hs hnd ?_
  obtain ⟨bo,hbo⟩:∃ bo,bo = keys (pwM L Dk rc b5 b2 b1 e b 1):=⟨_,rfl⟩
  rw [← hbo] at hround ⊢
  have h1p:b ^ (e / 2 ^ len) % p = 1:=by rw [Nat.div_eq_of_lt hl1,Nat.pow_zero,Nat.mod_eq_of_lt hp]
  refine c_seq<|c_reg<|s_y (y_ld (v:=U e))<|s_pure (fun w2 _=>hlz w2)<|s_y (y_sub (p:=len) (q:=1))<|s_y y_as<|s_nil<|q_then<|c_block<|?_
  refine c_loop (fun j:Nat=>[(0,.func (.yield L) #[] #[]),(1,.pointer (some ⟨b1,0,none⟩)),(3,I ((j:Int) - 1))]) (fun j=>pwM L Dk rc b5 b2 b1 e b (b ^ (e / 2 ^ j) % p)) (fun j=>j ≤ 64) (fun j=>j) len hlen ⟨rfl,rfl,rfl,trivial⟩ (by rw [h1p]; exact .refl _) ?_
  intro j hj
  refine c_seq<|c_seq<|c_reg<|s_y y_mv<|s_y (y_geq (p:=(j:Int) - 1) (q:=0))<|s_nil<|q_then<|c_ifd (fun h8=>?_) (fun h8=>?_)
  · obtain ⟨i,rfl⟩:∃ i,j = i + 1:=⟨j - 1,by omega⟩
    rw [show ((i + 1:Nat):Int) - 1 = (i:Int) by omega]
    refine c_skip<|q_then<|c_seq<|c_block<|c_seq<|c_reg<|s_y y_mv<|s_y (y_ld (v:=U e))<|s_y y_mv<|s_y (y_shrW i)<|s_y (y_mask (p:=e / 2 ^ i) 1 (hp:=by simp only [IntKind.bits]; exact Nat.lt_of_le_of_lt (Nat.div_le_self _ _) he))<|s_y (y_eql (p:=((e / 2 ^ i % 2 ^ 1:Nat):Int)) (q:=1))<|?_
    rw [show decide (((e / 2 ^ i % 2 ^ 1:Nat):Int) = 1) = decide (e / 2 ^ i % 2 = 1) from decide_eq_decide.2 ⟨fun h=>by omega,fun h=>by omega⟩]
    refine s_yield (L:=L) (rc:=rc) (σ:=Unit) (fun _=>.bool true) (fun _=>pwM L Dk { rc with state:=.ready,pending:=none } b5 b2 b1 e b (b ^ (e / 2 ^ i) % p)) (fun _=>True) (.head _) hpz (fun w2 h2=>hround i w2 h2) (fun _ _=>?_)
    rw [← hrdy]
    refine s_y (v:=.bool false) (y_not (b:=true))<|s_nil<|q_then<|c_f<|c_skip<|q_nb<|q_then<|c_reg<|s_y y_mv<|s_y (y_sub (p:=(i:Int)) (q:=1))<|s_y y_as<|s_nil<|q_round i (by omega) (by omega) ⟨rfl,rfl,rfl,trivial⟩ (.refl _)
  · obtain rfl:j = 0:=by omega
    rw [Nat.pow_zero,Nat.div_one]
    refine c_exit<|q_ex<|q_ex<|q_exb<|?_
    exact ret0 Tryz.results195 (fun w2 h2=>⟨⟨_,rfl⟩,h2⟩) _ (.inr rfl)
theorem group_power_ok (w:World) (b e:Nat) (hb:b < 4611686018427377339) (he:e < 18446744073709551616) :
    Pure Tryz.prog 137 [U b,U e] w (U (b ^ e % 4611686018427377339)):=by
  refine enterM Tryz.func137 Tryz.ntmps137 ?_
  refine c_seq<|c_reg<|s_box rfl fun b2=>s_y y_as<|s_nil<|q_then<|c_seq<|c_reg<|s_alloc fun b5=>s_st (b:=b5) (v:=U 1) (cs:=#[U 0]) (hl:=Nat.zero_lt_one) ?_
  refine s_nil<|q_then<|c_seq<|c_seq<|c_reg<|s_y y_mv<|s_gives (fun w' hw=>group_digits_ok w' e) fun b1 _=>s_nil<|q_then<|c_block<|?_
  refine c_rangeN (σ:=Unit) (fun _=>[.blk b1 (.cells #[U e] 221 (0,0)),.blk b5 (.cells #[U (b ^ e % 4611686018427377339)] 221 (0,0)),.blk b2 (.cells #[U b] 221 (0,0))]) (fun _=>True) (fun fn tm Dk L hfr w' hw'=>?_) (fun Dk _ _=>?_)
  rotate_left
  · refine q_nb<|q_then<|c_seq<|c_reg<|s_y (y_ld (b:=b5) (v:=U (b ^ e % 4611686018427377339)))<|s_y y_as<|s_nil<|q_then<|c_ret<|?_
    exact ret1E Tryz.results137 (.head _) rv_t fun w' hw=>⟨rfl,hw.sub (List.nil_sublist _)⟩
  · have hps:=(show St w [] w' (pwM L Dk _ b5 b2 b1 e b 1 ++ []) by rw [List.append_nil]; exact hw').has
    refine (digits1_ok w' _ L Dk b5 b2 b1 e b 4611686018427377339 he (by decide) hps.1 hps.2 rfl (fun i w2 h2=>?_)).mono fun e' w2 ⟨hv,h2⟩=>⟨hv,(),trivial,by have h9:=hw'.transL (l2:=[]) (by rw [List.append_nil]; exact .refl _) h2; rw [List.append_nil] at h9; exact h9⟩
    have hf9:=(hfr []).put 9 (.bool (decide (e / 2 ^ i % 2 = 1))) rfl
    have hst:=pow_step b e i 4611686018427377339
    dsimp only at hst
    obtain ⟨a,ha⟩:∃ a,b ^ (e / 2 ^ (i + 1)) % 4611686018427377339 = a:=⟨_,rfl⟩
    have hal:a < 4611686018427377339:=by rw [← ha]; exact Nat.mod_lt _ (by decide)
    rw [ha] at hst h2
    refine round_ok (F1:=[(2,.pointer (some ⟨b2,0,none⟩)),(5,.pointer (some ⟨b5,0,none⟩)),(6,.bool (decide (e / 2 ^ i % 2 = 1)))]) h2 hf9 (by simp [Act.put]) (by rfl) (.head _) (l1:=pwM L Dk _ b5 b2 b1 e b a) ?_ ?_
    · refine c_reg<|s_y y_as<|s_nil<|q_join ⟨rfl,rfl,rfl,trivial⟩ (List.Sublist.refl _)
    · refine c_block<|c_seq<|c_reg<|s_y (y_ld (b:=b5) (v:=U a))<|s_y (y_ld (b:=b5) (v:=U a))<|s_pure (fun w3 h3=>group_times_ok w3 a a hal hal)<|s_st (b:=b5) (v:=U (a * a % 4611686018427377339)) (cs:=#[U a]) (hl:=Nat.zero_lt_one) ?_
      refine s_nil<|q_then<|c_seq<|c_reg<|s_y y_mv<|s_nil<|q_then<|c_ifd (fun h13=>?_) (fun h13=>?_)
      · rw [if_pos h13] at hst
        refine c_reg<|s_y (y_ld (b:=b5) (v:=U (a * a % 4611686018427377339)))<|s_y (y_ld (b:=b2) (v:=U b))<|s_pure (fun w3 h3=>group_times_ok w3 (a * a % 4611686018427377339) b (Nat.mod_lt _ (by decide)) hb)<|s_st (b:=b5) (v:=U (a * a % 4611686018427377339 * b % 4611686018427377339)) (cs:=#[U (a * a % 4611686018427377339)]) (hl:=Nat.zero_lt_one) ?_
        refine s_nil<|q_nb<|q_rn (.head _) fun w3 h3=>⟨(),trivial,rfl,?_⟩
        rw [hst]; exact h3
      · rw [if_neg h13] at hst
        refine c_skip<|q_nb<|q_rn (.head _) fun w3 h3=>⟨(),trivial,rfl,?_⟩
        rw [hst]; exact h3
end Go.Proofs.YtegfmbefhpagmaaGreatDoor
namespace Go.Proofs.YtegfmbefhpagmaaGreatDoor
open Go Eng Sha Cod Dv
theorem four_Q:4 ^ Num.Q % 4611686018427377339 = 1:=by
  have h:=Num.four.1
  rw [show Num.P = 4611686018427377339 from rfl,show 1 % 4611686018427377339 = 1 from rfl] at h
  exact h
end Go.Proofs.YtegfmbefhpagmaaGreatDoor
end
section
namespace Gf
open Eng
theorem pp_ex:∃ f:Nat → Nat → Nat,∀ a k,f a k = a ^ k % 4611686018427377339:=⟨fun a k=>a ^ k % 4611686018427377339,fun _ _=>rfl⟩
noncomputable def pp:Nat → Nat → Nat:=Classical.choose pp_ex
theorem pp_def (a k:Nat):pp a k = a ^ k % 4611686018427377339:=Classical.choose_spec pp_ex a k
theorem qq_ex:∃ f:Nat → Nat → Nat,∀ a k,f a k = a ^ k % 2305843009213688669:=⟨fun a k=>a ^ k % 2305843009213688669,fun _ _=>rfl⟩
noncomputable def qq:Nat → Nat → Nat:=Classical.choose qq_ex
theorem qq_def (a k:Nat):qq a k = a ^ k % 2305843009213688669:=Classical.choose_spec qq_ex a k
noncomputable def el (a:Int):Bool:=decide (1 ≤ a) && (decide (a < 4611686018427377339) && decide (pp a.toNat Num.Q = 1))
noncomputable def chk (a:Int):Int:=bif el a then 0 else 40
def sc (a:Int):Bool:=decide (0 ≤ a) && decide (a < 2305843009213688669)
noncomputable def expE (a k:Int):Int:=bif el a then (bif sc k then 0 else 1) else 40
noncomputable def expV (a k:Int):Int:=bif el a && sc k then ((pp a.toNat k.toNat:Nat):Int) else 0
noncomputable def mulE (a b:Int):Int:=bif el a && el b then 0 else 40
noncomputable def mulV (a b:Int):Int:=bif el a && el b then ((a.toNat * b.toNat % 4611686018427377339:Nat):Int) else 0
theorem el_of {x:Nat} (h0:0 < x) (h1:x < 4611686018427377339):el (x:Int) = decide (pp x Num.Q = 1):=by
  unfold el
  rw [decide_eq_true (show (1:Int) ≤ (x:Int) by omega),decide_eq_true (show (x:Int) < 4611686018427377339 by omega),Int.toNat_natCast,Bool.true_and,Bool.true_and]
theorem el_nat {a:Int} (h:el a = true):∃ x:Nat,a = (x:Int) ∧ 0 < x ∧ x < 4611686018427377339 ∧ pp x Num.Q = 1:=by
  unfold el at h
  simp only [Bool.and_eq_true,decide_eq_true_eq] at h
  exact ⟨a.toNat,by omega,by omega,by omega,h.2.2⟩
theorem sc_nat {a:Int} (h:sc a = true):∃ x:Nat,a = (x:Int) ∧ x < 2305843009213688669:=by
  unfold sc at h
  simp only [Bool.and_eq_true,decide_eq_true_eq] at h
  exact ⟨a.toNat,by omega,by omega⟩
theorem sc_of {x:Nat} (h:x < 2305843009213688669):sc (x:Int) = true:=by
  unfold sc
  rw [decide_eq_true (show (0:Int) ≤ (x:Int) by omega),decide_eq_true (show (x:Int) < 2305843009213688669 by omega)]; rfl
theorem sc_lo {a:Int} (h:a < 0):sc a = false:=by unfold sc; rw [decide_eq_false (show ¬ 0 ≤ a by omega)]; rfl
theorem sc_hi {a:Int} (h:2305843009213688669 ≤ a):sc a = false:=by unfold sc; rw [decide_eq_false (show ¬ a < 2305843009213688669 by omega)]; simp
theorem pp_lt (a k:Nat):pp a k < 4611686018427377339:=by rw [pp_def]; exact Nat.mod_lt _ (by decide)
theorem qq_lt (a k:Nat):qq a k < 2305843009213688669:=by rw [qq_def]; exact Nat.mod_lt _ (by decide)
/-- an element: a number -/
structure El (x:Nat):Prop where
  pos:0 < x
  lt:x < 4611686018427377339
  one:pp x Num.Q = 1
theorem El.el {x:Nat} (h:El x):Gf.el (x:Int) = true:=by rw [el_of h.pos h.lt,decide_eq_true h.one]
theorem pp_add (a m n:Nat):pp a (m + n) = pp a m * pp a n % 4611686018427377339:=by rw [pp_def,pp_def,pp_def]; exact Num.pow_add_mod a m n _
theorem pp_pp (a m n:Nat):pp (pp a m) n = pp a (m * n):=by rw [pp_def,pp_def,pp_def,← Nat.pow_mod,← Nat.pow_mul]
theorem pp_mul (a b k:Nat):pp (a * b % 4611686018427377339) k = pp a k * pp b k % 4611686018427377339:=by
  rw [pp_def,pp_def,pp_def,← Nat.pow_mod,Nat.mul_pow,Nat.mul_mod]
theorem pp_one (k:Nat):pp 1 k = 1:=by rw [pp_def,Nat.one_pow]
theorem El.pos' {y:Nat} (h:pp y Num.Q = 1):0 < y:=by
  rcases Nat.eq_zero_or_pos y with h0 | h0
  · subst h0
    rw [pp_def,Nat.zero_pow (show 0 < Num.Q from (show 0 < 2305843009213688669 by decide))] at h
    exact absurd h (by decide)
  · exact h0
theorem El.mk' {y:Nat} (hl:y < 4611686018427377339) (h:pp y Num.Q = 1):El y:=⟨El.pos' h,hl,h⟩
theorem El.pow {x:Nat} (h:El x) (k:Nat):El (pp x k):=El.mk' (pp_lt _ _) (by rw [pp_pp,Nat.mul_comm,← pp_pp,h.one,pp_one])
theorem El.mul {x y:Nat} (hx:El x) (hy:El y):El (x * y % 4611686018427377339):=El.mk' (Nat.mod_lt _ (by decide)) (by rw [pp_mul,hx.one,hy.one])
theorem El.four:El 4:=El.mk' (by decide) (by rw [pp_def]; exact Go.Proofs.YtegfmbefhpagmaaGreatDoor.four_Q)
theorem El.pmod {x:Nat} (h:El x) (k:Nat):pp x (k % Num.Q) = pp x k:=by
  have e:k = Num.Q * (k / Num.Q) + k % Num.Q:=(Nat.div_add_mod k Num.Q).symm
  have h1:pp x (Num.Q * (k / Num.Q)) = 1:=by rw [← pp_pp,h.one,pp_one]
  have h2:=pp_add x (Num.Q * (k / Num.Q)) (k % Num.Q)
  rw [← e,h1,Nat.one_mul,Nat.mod_eq_of_lt (pp_lt _ _)] at h2
  exact h2.symm
theorem El.pcongr {x:Nat} (h:El x) {a b:Nat} (hab:a % Num.Q = b % Num.Q):pp x a = pp x b:=by rw [← h.pmod a,hab,h.pmod]
theorem Qeq:Num.Q = 2305843009213688669:=rfl
theorem qq_inv {x:Nat} (h0:0 < x) (h1:x < 2305843009213688669):x * qq x 2305843009213688667 % 2305843009213688669 = 1:=by
  have h:=Num.fermat_Q (a:=x) (by rw [Qeq,Nat.mod_eq_of_lt h1]; omega)
  rw [qq_def]
  have h2:=Num.pow_add_mod x 1 2305843009213688667 2305843009213688669
  rw [Nat.pow_one,Nat.mod_eq_of_lt h1] at h2
  rw [← h2,show 1 + 2305843009213688667 = Num.Q - 1 from rfl]
  exact h
end Gf
end
section
namespace Sig
open Go Eng Sha Gf Go.Proofs.YtegfmbefhpagmaaGreatDoor
abbrev tSign:List UInt8:=[115,105,103,110]
abbrev tNonce:List UInt8:=[110,111,110,99,101]
def chal (r p:Nat) (m:List UInt8):Nat:=scal tSign (be r 8 ++ be p 8 ++ m)
def nonce (x:Nat) (m:List UInt8):Nat:=scal tNonce (be x 8 ++ m)
noncomputable def sgR (x:Nat) (m:List UInt8):Nat:=pp 4 (nonce x m)
noncomputable def sgS (x:Nat) (m:List UInt8):Nat:=(nonce x m + chal (sgR x m) (pp 4 x) m * x % 2305843009213688669) % 2305843009213688669
noncomputable def vrf (p:Int) (m:List UInt8) (r s:Int):Bool :=
  el p && (el r && (sc s && decide (pp 4 s.toNat = r.toNat * pp p.toNat (chal r.toNat p.toNat m) % 4611686018427377339)))
theorem chal_lt (r p:Nat) (m:List UInt8):chal r p m < 2305843009213688669:=(scal_lt _ _).2
theorem nonce_lt (x:Nat) (m:List UInt8):nonce x m < 2305843009213688669:=(scal_lt _ _).2
theorem sgR_el (x:Nat) (m:List UInt8):El (sgR x m):=El.four.pow _
theorem sgS_lt (x:Nat) (m:List UInt8):sgS x m < 2305843009213688669:=Nat.mod_lt _ (by decide)
theorem vrf_sign (x:Nat) (m:List UInt8):vrf (pp 4 x:Nat) m (sgR x m:Nat) (sgS x m:Nat) = true:=by
  unfold vrf
  rw [(El.four.pow x).el,(sgR_el x m).el,sc_of (sgS_lt x m),Bool.true_and,Bool.true_and,Bool.true_and,Int.toNat_natCast,Int.toNat_natCast,Int.toNat_natCast]
  refine decide_eq_true ?_
  have h1:pp 4 (sgS x m) = pp 4 (nonce x m + chal (sgR x m) (pp 4 x) m * x):=El.four.pcongr (by
    unfold sgS
    rw [Qeq,Nat.mod_mod,Nat.add_mod_mod])
  rw [h1,pp_add,pp_pp,Nat.mul_comm x]
  rfl
end Sig
end
section
namespace Cha
open Go Eng Sha
def wle (b:List UInt8) (i:Nat):UInt32:=(b.getD i 0).toUInt32 ||| (b.getD (i + 1) 0).toUInt32 <<< 8 ||| (b.getD (i + 2) 0).toUInt32 <<< 16 ||| (b.getD (i + 3) 0).toUInt32 <<< 24
def ws4 (b:List UInt8) (n:Nat):List UInt32:=(List.range n).map fun i=>wle b (4 * i)
def cst:List UInt32:=[0x61707865,0x3320646e,0x79622d32,0x6b206574]
def first (k n:List UInt8) (c:UInt32):List UInt32:=cst ++ ws4 k 8 ++ [c] ++ ws4 n 3
theorem ws4_length (b:List UInt8) (n:Nat):(ws4 b n).length = n:=by simp [ws4]
theorem first_length (k n:List UInt8) (c:UInt32):(first k n c).length = 16:=by simp [first,ws4_length,cst]
def rl (v:UInt32) (n:Nat):UInt32:=rr v (32 - n)
def addAt (v:List UInt32) (a b:Nat):List UInt32:=v.set a (v.getD a 0 + v.getD b 0)
def xrAt (v:List UInt32) (d a n:Nat):List UInt32:=v.set d (rl (v.getD d 0 ^^^ v.getD a 0) n)
theorem addAt_length (v:List UInt32) (a b:Nat):(addAt v a b).length = v.length:=List.length_set
theorem xrAt_length (v:List UInt32) (d a n:Nat):(xrAt v d a n).length = v.length:=List.length_set
def mix (v:List UInt32) (a b c d:Nat):List UInt32:=xrAt (addAt (xrAt (addAt (xrAt (addAt (xrAt (addAt v a b) d a 16) c d) b c 12) a b) d a 8) c d) b c 7
theorem mix_length (v:List UInt32) (a b c d:Nat):(Cha.mix v a b c d).length = v.length:=by simp only [Cha.mix,xrAt_length,addAt_length]
def colU (v:List UInt32):Nat → List UInt32
  | 0=>v
  | i + 1=>Cha.mix (colU v i) i (4 + i) (8 + i) (12 + i)
def dgU (v:List UInt32):Nat → List UInt32
  | 0=>v
  | i + 1=>Cha.mix (dgU v i) i (4 + (i + 1) % 4) (8 + (i + 2) % 4) (12 + (i + 3) % 4)
def rndU (v:List UInt32):Nat → List UInt32
  | 0=>v
  | i + 1=>dgU (colU (rndU v i) 4) 4
theorem colU_length (v:List UInt32):∀ i,(colU v i).length = v.length
  | 0=>rfl
  | i + 1=>by rw [colU,mix_length,colU_length v i]
theorem dgU_length (v:List UInt32):∀ i,(dgU v i).length = v.length
  | 0=>rfl
  | i + 1=>by rw [dgU,mix_length,dgU_length v i]
theorem rndU_length (v:List UInt32):∀ i,(rndU v i).length = v.length
  | 0=>rfl
  | i + 1=>by rw [rndU,dgU_length,colU_length,rndU_length v i]
def le4 (x:UInt32):List UInt8:=[x.toUInt8,(x >>> 8).toUInt8,(x >>> 16).toUInt8,(x >>> 24).toUInt8]
def outU (v s:List UInt32) (n:Nat):List UInt8:=(List.range n).flatMap fun i=>le4 (v.getD i 0 + s.getD i 0)
theorem outU_succ (v s:List UInt32) (n:Nat):outU v s (n + 1) = outU v s n ++ le4 (v.getD n 0 + s.getD n 0):=by
  unfold outU; rw [List.range_succ,List.flatMap_append]; simp
theorem outU_length (v s:List UInt32):∀ n,(outU v s n).length = 4 * n
  | 0=>rfl
  | n + 1=>by rw [outU_succ,List.length_append,outU_length v s n]; rfl
def blk (k n:List UInt8) (c:UInt32):List UInt8:=outU (rndU (first k n c) 10) (first k n c) 16
theorem blk_length (k n:List UInt8) (c:UInt32):(blk k n c).length = 64:=outU_length _ _ 16
def ks (k n:List UInt8) (i:Nat):UInt8:=(blk k n (UInt32.ofNat (1 + i / 64))).getD (i % 64) 0
def strm (k n b:List UInt8):List UInt8:=b.mapIdx fun i x=>x ^^^ ks k n i
theorem strm_length (k n b:List UInt8):(strm k n b).length = b.length:=by unfold strm; exact List.length_mapIdx
theorem strm_strm (k n b:List UInt8):strm k n (strm k n b) = b:=by
  unfold strm
  refine List.ext_getElem? fun i=>?_
  rw [List.getElem?_mapIdx,List.getElem?_mapIdx]
  cases b[i]? with
  | none=>rfl
  | some x=>simp [UInt8.xor_assoc]
theorem strm_at (k n b:List UInt8) {i:Nat} (h:i < b.length):(strm k n b).getD i 0 = b.getD i 0 ^^^ ks k n i:=by
  unfold strm
  rw [List.getD_eq_getElem?_getD,List.getD_eq_getElem?_getD,List.getElem?_mapIdx,List.getElem?_eq_getElem h]; rfl
theorem getD_drop8 (b:List UInt8) (i j:Nat):(b.drop i).getD j 0 = b.getD (i + j) 0:=by
  rw [List.getD_eq_getElem?_getD,List.getD_eq_getElem?_getD,List.getElem?_drop]
theorem wle_drop (b:List UInt8) (i:Nat):wle (b.drop i) 0 = wle b i:=by
  unfold wle
  simp only [getD_drop8,Nat.zero_add,Nat.add_zero]
theorem ws4_succ (b:List UInt8) (n:Nat):ws4 b (n + 1) = ws4 b n ++ [wle b (4 * n)]:=by simp [ws4,List.range_succ]
theorem set_next (A:List UInt32) (m j:Nat) (x:UInt32) (h:A.length = j):(A ++ List.replicate (m + 1) 0).set j x = A ++ [x] ++ List.replicate m 0:=by
  subst h
  rw [List.set_append_right _ _ (Nat.le_refl _),Nat.sub_self,List.replicate_succ,List.set_cons_zero,List.append_assoc]; rfl
end Cha
end
section
namespace Eng
open Go Go.RowKit
section
variable {P:Program} {n:Nat} {D:List Deferred} {W:World} {Bo:List Nat} {F:List (Nat × Value)} {l:SH}
  {d:Option Tmp} {ty:TypeId} {ps:String} {af:Array Edge} {g:Option (Nat × Bool)} {x y:Operand} {t:TypeId}
theorem y_ldwb [hu:HT P t true] {b:Nat} {q:List UInt32} (j:Nat) (hj:j < q.length) {et:TypeId} {fz:Nat × Nat} (hx:evO F x = some (.pointer (some ⟨b,j,none⟩)):=by rfl)
    (hm:Res.blk b (.cells (ws q).toArray et fz) ∈ l:=by repeat (first | exact .head _ | apply List.Mem.tail)):Y P n D W Bo ⟨d,.load t x,ty,ps,af,g⟩ F l (W32 (q.getD j 0)) :=
  y_ld hx hm (by rw [List.getElem?_toArray]; exact ws_get hj)
end
section
variable {P:Program} {n:Nat} {D:List Deferred} {W:World} {Bo:List Nat} {F F':List (Nat × Value)} {l lp:SH}
  {dd:Nat} {ty:TypeId} {ps:String} {af:Array Edge} {g:Option (Nat × Bool)} {x:Operand}
  {Q:Exit → Act → World → Prop} {ops:Array Oper} {f fuel:Nat} {listed:Array Bool}
theorem AnyF.firstT {C:World → Prop} {f i:Nat} {oi:Oper} {v:Value} (hi:ops[i]? = some oi) (hsel:∀ (j:Nat) (o:Oper) cs b,ops[j]? = some o → o.op ≠ .select cs b)
    (hQ:∀ c a w,Q (.panic c) (a.put oi.dst v) w → Q (.panic c) a w) (hif:i ≠ f) :
    ∀ (fuel:Nat) (listed:Array Bool) (a:Act) (w:World),
      (∀ j oj,ops[j]? = some oj → j ≠ i → listed.getD j true = false → (∀ e ∈ oj.after,Region.binds .any e = true → e.on ≠ i) → oi.apart ops oj = true) →
      i ∈ Region.ready .any ops listed → YC P ops (fun _=>True) oi v a →
      AnyF P ops Q C f fuel (listed.setIfInBounds i true) (a.put oi.dst v) w → AnyF P ops Q C f (fuel + 1) listed a w:=by
  have hat:∀ {fuel:Nat} {listed:Array Bool} {a:Act} {w:World},AnyF P ops Q C f fuel (listed.setIfInBounds i true) a w → (listed.getD f false = true ∨ C w):=by
    intro fuel listed a w H
    rcases H.at with h | h
    · rw [getD_set_ne false hif] at h; exact .inl h
    · exact .inr h
  intro fuel
  induction fuel with
  | zero =>
    intro listed a w _ hr hy H
    refine ⟨hat H,fun h=>(by rw [h] at hr; cases hr),fun j hj=>?_⟩
    by_cases hji:j = i
    · subst hji; exact hy.op hi trivial H
    · have:=ready_mono hj hji
      rw [H.2.1] at this
      cases this
  | succ fuel ih =>
    intro listed a w hfree hr hy H
    refine ⟨hat H,fun h=>(by rw [h] at hr; cases hr),fun j hj=>?_⟩
    by_cases hji:j = i
    · subst hji; exact hy.op hi trivial H
    · have h1:=H.2.2 j (ready_mono hj hji)
      obtain ⟨hjun,oj,hoj,hall⟩:=mem_ready.1 hj
      have hnot:∀ e ∈ oj.after,Region.binds .any e = true → e.on ≠ i:=fun e he hb heq=>by
        have h1:=hall e he hb
        have h0:=(mem_ready.1 hr).1
        rw [heq] at h1
        rcases Nat.lt_or_ge i listed.size with h' | h'
        · simp [h'] at h0 h1; rw [h0] at h1; cases h1
        · simp [Array.getElem?_eq_none h'] at h1
      have h2:=opIn_put hoj (hfree j oj hoj hji hjun hnot) (fun cs b=>hsel i oi cs b hi) (fun cs b=>hsel j oj cs b hoj) hQ hy h1
      have hfree':∀ k ok,ops[k]? = some ok → k ≠ i → (listed.setIfInBounds j true).getD k true = false →
          (∀ e ∈ ok.after,Region.binds .any e = true → e.on ≠ i) → oi.apart ops ok = true:=fun k ok hk hki hun hno=>by
        refine hfree k ok hk hki ?_ hno
        by_cases hjk:j = k
        · subst hjk; exact hjun
        · rw [getD_set_ne true hjk] at hun; exact hun
      refine wpOpIn_mono (fun a' w' h3=>ih (listed.setIfInBounds j true) a' w' hfree' (ready_mono hr (Ne.symm hji)) h3.1 ?_) h2
      rw [Array.setIfInBounds_comm _ _ hji]
      exact h3.2
def okT (ops:Array Oper) (f:Nat) (listed:Array Bool) (i:Nat):Bool :=
  (Region.ready .any ops listed).contains i && (Region.free .any ops listed i && !Nat.beq i f)
theorem f_nc {a0:Addr} (i:Nat) (hi:ops[i]? = some ⟨some dd,.nilCheck x,ty,ps,af,g⟩) (h:DF P n D W Bo ops Q lp f fuel (listed.setIfInBounds i true) ((dd,.pointer (some a0)) :: F) l)
    (hx:evO F x = some (.pointer (some a0)):=by rfl) (hn:Nat.blt dd n = true:=by rfl) (hg:Wn ops F g:=by first | exact .none | exact .some rfl rfl) (hok:okT ops f listed i = true:=by kernel_rfl):DF P n D W Bo ops Q lp f (fuel + 1) listed F l:=by
  intro hs a w ha hw
  unfold okT at hok
  simp only [Bool.and_eq_true,Bool.not_eq_true',List.contains_iff_mem] at hok
  obtain ⟨h1,h2,h3⟩:=hok
  refine AnyF.firstT hi (Region.noSelect_spec hs) (fun c a w hq=>by cases hq.1) (Nat.ne_of_beq_eq_false h3) fuel listed a w (Region.free_spec hi h2) h1 (.inl ⟨hg.wanted rfl ha,fun w _=>?_⟩) (h hs _ w (ha.put dd _ hn) hw)
  simp only [execOp,ha.eval hx]; rfl
end
end Eng
namespace Go.Proofs.YtegfmbefhpagmaaGreatDoor
open Go Eng Sha Cha
set_option maxRecDepth 100000
theorem bits_RotateLeft32_pos (w:World) (v:UInt32) (k:Nat) (h0:0 < k) (h1:k < 32) :
    Pure Tryz.prog 199 [W32 v,I k] w (W32 (rl v k)):=by
  have e1:IntKind.u64.wrap (k:Int) = ((k:Nat):Int):=wrap_u64 (by omega) (by omega)
  have e2:k % 2 ^ 5 = k:=by omega
  refine enter Tryz.func199 Tryz.ntmps199 ?_
  refine c_seq<|c_reg<|s_y y_as<|s_nil<|q_then<|c_seq<|c_reg<|s_y y_mv<|s_y y_cvw<|?_
  rw [e1]
  refine s_y (y_mask 5)<|?_
  rw [e2]
  refine s_y y_as<|s_nil<|q_then<|c_seq<|c_reg<|s_y y_mv<|s_y y_mv<|s_y (y_shl32 (h0:=by omega) (h1:=by omega))<|s_y y_mv<|s_y y_mv<|s_y (y_sub64 (p:=32) (q:=k))<|s_y (y_shr32 (h0:=by omega) (h1:=by omega))<|s_y y_or32<|s_y y_as<|s_nil<|q_then<|c_ret<|?_
  rw [Int.toNat_natCast,Int.toNat_natCast]
  have e3:(v <<< UInt32.ofNat k) ||| (v >>> UInt32.ofNat (32 - k)) = rl v k:=by
    have:=rr_comm v (32 - k)
    rwa [show 32 - (32 - k) = k by omega] at this
  rw [e3]
  exact ret1 Tryz.results199 rv_t fun w' hw=>⟨rfl,hw⟩
theorem c_word_ok (w:World) (a:Option Addr) (m c:Nat) (q:List UInt8) (hr:Rd w a (bs q)) (hm:4 ≤ m) (hq:m ≤ q.length) :
    Pure Tryz.prog 206 [.slice a m c] w (W32 (wle q 0)):=by
  refine enter Tryz.func206 Tryz.ntmps206 ?_
  refine c_seq<|c_reg<|s_y y_as<|s_nil<|q_then<|c_seq<|c_regd<|d_y y_mv<|d_y (y_ixs1 (xs:=bs q) (i:=0) (hr:=rdW0 hr) (hl:=by rw [bs_length]; exact hq))<|d_y (y_ldb (q:=q) (i:=0) (hr:=rdW0 hr))<|d_y y_cv32<|d_y y_mv<|d_y (y_ixs1 (xs:=bs q) (i:=1) (hr:=rdW0 hr) (hl:=by rw [bs_length]; exact hq))<|d_y (y_ldb (q:=q) (i:=1) (hr:=rdW0 hr))<|d_y y_cv32<|d_y y_shl32<|d_y y_or32<|d_y y_mv<|d_y (y_ixs1 (xs:=bs q) (i:=2) (hr:=rdW0 hr) (hl:=by rw [bs_length]; exact hq))<|d_y (y_ldb (q:=q) (i:=2) (hr:=rdW0 hr))<|d_y y_cv32<|d_y y_shl32<|d_y y_or32<|d_y y_mv<|d_y (y_ixs1 (xs:=bs q) (i:=3) (hr:=rdW0 hr) (hl:=by rw [bs_length]; exact hq))<|d_y (y_ldb (q:=q) (i:=3) (hr:=rdW0 hr))<|d_y y_cv32<|d_y y_shl32<|d_y y_or32<|d_y y_as<|d_nil<|q_then<|c_ret<|?_
  exact ret1 Tryz.results206 rv_t fun w' hw=>⟨rfl,hw⟩
theorem c_mix_ok (w:World) (p:Nat) (et:TypeId) (v:List UInt32) (a b c d:Nat) (hp:w.heap[p]? = some (.cells (ws v).toArray et (0,0))) (hv:v.length = 16) (ha:a < 16) (hb:b < 16) (hc:c < 16) (hd:d < 16) :
    Gives Tryz.prog 203 [.pointer (some ⟨p,0,none⟩),I a,I b,I c,I d] w [p] (fun _:Unit=>.tuple #[]) (fun _=>[.blk p (.cells (ws (Cha.mix v a b c d)).toArray et (0,0))]) (fun _=>True):=by
  have h0:∀ i,i < 16 → i < v.length:=fun i hi=>by omega
  refine enterB Tryz.func203 Tryz.ntmps203 hp ?_
  refine c_seq<|c_regF 13<|f_y 0 rfl y_mv<|f_y 1 rfl y_mv<|f_y 2 rfl y_nc<|f_y 3 rfl (y_ixn a)<|f_y 4 rfl (y_ldwb (q:=v) a (h0 a ha))<|f_y 5 rfl y_mv<|f_y 6 rfl y_mv<|f_y 7 rfl y_nc<|f_y 8 rfl (y_ixn b)<|f_y 9 rfl (y_ldwb (q:=v) b (h0 b hb))<|f_y 10 rfl y_add32<|f_nc 11 rfl<|f_y 12 rfl (y_ixn a)<|f_w 13 rfl<|s_stw (?_) (hl:=h0 a ha)
  obtain ⟨v1,e1⟩:∃ u,addAt v a b = u:=⟨_,rfl⟩
  have h1:∀ i,i < 16 → i < v1.length:=fun i hi=>by rw [← e1]; simp only [addAt_length,xrAt_length]; exact h0 i hi
  rw [show (v).set a ((v).getD a 0 + (v).getD b 0) = v1 from e1]
  refine f_z<|q_then<|?_
  refine c_seq<|c_regF 16<|f_y 0 rfl y_mv<|f_y 1 rfl y_mv<|f_y 2 rfl y_mv<|f_y 3 rfl y_mv<|f_y 4 rfl y_nc<|f_y 5 rfl (y_ixn d)<|f_y 6 rfl (y_ldwb (q:=v1) d (h1 d hd))<|f_y 7 rfl y_mv<|f_y 8 rfl y_mv<|f_y 9 rfl y_nc<|f_y 10 rfl (y_ixn a)<|f_y 11 rfl (y_ldwb (q:=v1) a (h1 a ha))<|f_y 12 rfl y_xor32<|f_nc 14 rfl<|f_w 13 rfl<|s_pure (fun w' hw=>bits_RotateLeft32_pos w' _ 16 (by decide) (by decide))<|f_k<|f_y 15 rfl (y_ixn d)<|f_w 16 rfl<|s_stw (?_) (hl:=h1 d hd)
  obtain ⟨v2,e2⟩:∃ u,xrAt (v1) d a 16 = u:=⟨_,rfl⟩
  have h2:∀ i,i < 16 → i < v2.length:=fun i hi=>by rw [← e2]; simp only [addAt_length,xrAt_length]; exact h1 i hi
  rw [show (v1).set d (rl ((v1).getD d 0 ^^^ (v1).getD a 0) 16) = v2 from e2]
  refine f_z<|q_then<|?_
  refine c_seq<|c_regF 13<|f_y 0 rfl y_mv<|f_y 1 rfl y_mv<|f_y 2 rfl y_nc<|f_y 3 rfl (y_ixn c)<|f_y 4 rfl (y_ldwb (q:=v2) c (h2 c hc))<|f_y 5 rfl y_mv<|f_y 6 rfl y_mv<|f_y 7 rfl y_nc<|f_y 8 rfl (y_ixn d)<|f_y 9 rfl (y_ldwb (q:=v2) d (h2 d hd))<|f_y 10 rfl y_add32<|f_nc 11 rfl<|f_y 12 rfl (y_ixn c)<|f_w 13 rfl<|s_stw (?_) (hl:=h2 c hc)
  obtain ⟨v3,e3⟩:∃ u,addAt (v2) c d = u:=⟨_,rfl⟩
  have h3:∀ i,i < 16 → i < v3.length:=fun i hi=>by rw [← e3]; simp only [addAt_length,xrAt_length]; exact h2 i hi
  rw [show (v2).set c ((v2).getD c 0 + (v2).getD d 0) = v3 from e3]
  refine f_z<|q_then<|?_
  refine c_seq<|c_regF 16<|f_y 0 rfl y_mv<|f_y 1 rfl y_mv<|f_y 2 rfl y_mv<|f_y 3 rfl y_mv<|f_y 4 rfl y_nc<|f_y 5 rfl (y_ixn b)<|f_y 6 rfl (y_ldwb (q:=v3) b (h3 b hb))<|f_y 7 rfl y_mv<|f_y 8 rfl y_mv<|f_y 9 rfl y_nc<|f_y 10 rfl (y_ixn c)<|f_y 11 rfl (y_ldwb (q:=v3) c (h3 c hc))<|f_y 12 rfl y_xor32<|f_nc 14 rfl<|f_w 13 rfl<|s_pure (fun w' hw=>bits_RotateLeft32_pos w' _ 12 (by decide) (by decide))<|f_k<|f_y 15 rfl (y_ixn b)<|f_w 16 rfl<|s_stw (?_) (hl:=h3 b hb)
  obtain ⟨v4,e4⟩:∃ u,xrAt (v3) b c 12 = u:=⟨_,rfl⟩
  have h4:∀ i,i < 16 → i < v4.length:=fun i hi=>by rw [← e4]; simp only [addAt_length,xrAt_length]; exact h3 i hi
  rw [show (v3).set b (rl ((v3).getD b 0 ^^^ (v3).getD c 0) 12) = v4 from e4]
  refine f_z<|q_then<|?_
  refine c_seq<|c_regF 13<|f_y 0 rfl y_mv<|f_y 1 rfl y_mv<|f_y 2 rfl y_nc<|f_y 3 rfl (y_ixn a)<|f_y 4 rfl (y_ldwb (q:=v4) a (h4 a ha))<|f_y 5 rfl y_mv<|f_y 6 rfl y_mv<|f_y 7 rfl y_nc<|f_y 8 rfl (y_ixn b)<|f_y 9 rfl (y_ldwb (q:=v4) b (h4 b hb))<|f_y 10 rfl y_add32<|f_nc 11 rfl<|f_y 12 rfl (y_ixn a)<|f_w 13 rfl<|s_stw (?_) (hl:=h4 a ha)
  obtain ⟨v5,e5⟩:∃ u,addAt (v4) a b = u:=⟨_,rfl⟩
  have h5:∀ i,i < 16 → i < v5.length:=fun i hi=>by rw [← e5]; simp only [addAt_length,xrAt_length]; exact h4 i hi
  rw [show (v4).set a ((v4).getD a 0 + (v4).getD b 0) = v5 from e5]
  refine f_z<|q_then<|?_
  refine c_seq<|c_regF 16<|f_y 0 rfl y_mv<|f_y 1 rfl y_mv<|f_y 2 rfl y_mv<|f_y 3 rfl y_mv<|f_y 4 rfl y_nc<|f_y 5 rfl (y_ixn d)<|f_y 6 rfl (y_ldwb (q:=v5) d (h5 d hd))<|f_y 7 rfl y_mv<|f_y 8 rfl y_mv<|f_y 9 rfl y_nc<|f_y 10 rfl (y_ixn a)<|f_y 11 rfl (y_ldwb (q:=v5) a (h5 a ha))<|f_y 12 rfl y_xor32<|f_nc 14 rfl<|f_w 13 rfl<|s_pure (fun w' hw=>bits_RotateLeft32_pos w' _ 8 (by decide) (by decide))<|f_k<|f_y 15 rfl (y_ixn d)<|f_w 16 rfl<|s_stw (?_) (hl:=h5 d hd)
  obtain ⟨v6,e6⟩:∃ u,xrAt (v5) d a 8 = u:=⟨_,rfl⟩
  have h6:∀ i,i < 16 → i < v6.length:=fun i hi=>by rw [← e6]; simp only [addAt_length,xrAt_length]; exact h5 i hi
  rw [show (v5).set d (rl ((v5).getD d 0 ^^^ (v5).getD a 0) 8) = v6 from e6]
  refine f_z<|q_then<|?_
  refine c_seq<|c_regF 13<|f_y 0 rfl y_mv<|f_y 1 rfl y_mv<|f_y 2 rfl y_nc<|f_y 3 rfl (y_ixn c)<|f_y 4 rfl (y_ldwb (q:=v6) c (h6 c hc))<|f_y 5 rfl y_mv<|f_y 6 rfl y_mv<|f_y 7 rfl y_nc<|f_y 8 rfl (y_ixn d)<|f_y 9 rfl (y_ldwb (q:=v6) d (h6 d hd))<|f_y 10 rfl y_add32<|f_nc 11 rfl<|f_y 12 rfl (y_ixn c)<|f_w 13 rfl<|s_stw (?_) (hl:=h6 c hc)
  obtain ⟨v7,e7⟩:∃ u,addAt (v6) c d = u:=⟨_,rfl⟩
  have h7:∀ i,i < 16 → i < v7.length:=fun i hi=>by rw [← e7]; simp only [addAt_length,xrAt_length]; exact h6 i hi
  rw [show (v6).set c ((v6).getD c 0 + (v6).getD d 0) = v7 from e7]
  refine f_z<|q_then<|?_
  refine c_regF 16<|f_y 0 rfl y_mv<|f_y 1 rfl y_mv<|f_y 2 rfl y_mv<|f_y 3 rfl y_mv<|f_y 4 rfl y_nc<|f_y 5 rfl (y_ixn b)<|f_y 6 rfl (y_ldwb (q:=v7) b (h7 b hb))<|f_y 7 rfl y_mv<|f_y 8 rfl y_mv<|f_y 9 rfl y_nc<|f_y 10 rfl (y_ixn c)<|f_y 11 rfl (y_ldwb (q:=v7) c (h7 c hc))<|f_y 12 rfl y_xor32<|f_nc 14 rfl<|f_w 13 rfl<|s_pure (fun w' hw=>bits_RotateLeft32_pos w' _ 7 (by decide) (by decide))<|f_k<|f_y 15 rfl (y_ixn b)<|f_w 16 rfl<|s_stw (?_) (hl:=h7 b hb)
  subst e1; subst e2; subst e3; subst e4; subst e5; subst e6; subst e7
  refine f_z<|?_
  exact ret0 Tryz.results203 (fun w' hw=>⟨(),trivial,rfl,hw⟩) _ (.inr rfl)
end Go.Proofs.YtegfmbefhpagmaaGreatDoor
end
section
namespace Eng
open Go Go.RowKit
section
variable {r:Option Nat} {P:Program} {n:Nat} {D:List Deferred} {W:World} {Bo:List Nat} {F:List (Nat × Value)} {l l':SH}
  {d:Option Tmp} {dd:Nat} {ty:TypeId} {ps:String} {af:Array Edge} {g:Option (Nat × Bool)} {x y:Operand} {v:Value} {t ta tb e:TypeId}
  {Q:Exit → Act → World → Prop} {ops:Array Oper} {rest:List Oper}
theorem y_cv8w [hu:HU P tb (.int .u8)] {tb':Bool} [ha':HT P ta tb'] {p:UInt32} (hx:evO F x = some (W32 p):=by rfl):Y P n D W Bo ⟨d,.convert ta tb x,ty,ps,af,g⟩ F l (B p.toUInt8):=by
  have h:=y_cv8 (P:=P) (n:=n) (D:=D) (W:=W) (Bo:=Bo) (l:=l) (d:=d) (ty:=ty) (ps:=ps) (af:=af) (g:=g) (ta:=ta) (tb:=tb) (F:=F) (x:=x) (p:=((p.toNat:Nat):Int)) (k':=.u32) hx
  have e:UInt8.ofNat (((p.toNat:Nat):Int) % 256).toNat = p.toUInt8:=by
    apply UInt8.toNat_inj.1
    rw [UInt8.toNat_ofNat',UInt32.toNat_toUInt8]
    omega
  rwa [e] at h
theorem c_torow0 {c:Code} {b:Nat} {cs:Array Value} {e:TypeId} {s m:Nat} (hr:Rep (.blk b (.cells cs e (0,0))) (.row (some ⟨b,0,none⟩) m e s 0 []) l l') (hs:cs.size = m * s) (hm:m ≤ maxLen)
    (h:CP r P n D W Bo c Q F l'):CP r P n D W Bo c Q F l:=fun a w ha hw=>h a w ha (hw.change hr rfl rfl rfl (Nat.le_refl _) (fun _ _ _=>rfl)
    ⟨by simp,Nat.zero_le _,.inr ⟨b,cs,rfl,(hw.own _ hr.mem).1,hm,hs,by simp⟩⟩ (fun k hk=>.inl hk))
end
end Eng
namespace Go.Proofs.YtegfmbefhpagmaaGreatDoor
open Go Eng Sha Cha
set_option maxRecDepth 100000
def LC (w:World):Prop:=LS w ∧ Rd w (some ⟨5,0,none⟩) (ws cst)
theorem LC.st {W w:World} {l:SH} (h:LC W) (hs:St W [] w l):LC w:=⟨h.1.st hs,h.2.st hs⟩
theorem hzn {k:List UInt8} {m:Nat} (h:k.length = m):(bs k).toArray.size = m:=by simp [bs_length,h]
theorem hzw {v:List UInt32} {m:Nat} (h:v.length = m):(ws v).toArray.size = m:=by simp [ws_length,h]
theorem rd_drop {W:World} {Bo:List Nat} {l:SH} {b i:Nat} {q:List UInt8} {e:TypeId} {fz:Nat × Nat} (hm:Res.blk b (.cells (bs q).toArray e fz) ∈ l):RdS W Bo l (some ⟨b,i,none⟩) (bs (q.drop i)) :=
  rdB hm fun j v h=>by rw [bs_drop,List.getElem?_drop] at h; rw [List.getElem?_toArray]; exact h
theorem c_first_ok (w:World) (k n:List UInt8) (c:UInt32) (hg:LC w) (hk:k.length = 32) (hn:n.length = 12) :
    Pure Tryz.prog 202 [.agg (bs k).toArray,.agg (bs n).toArray,W32 c] w (.agg (ws (first k n c)).toArray):=by
  refine enter Tryz.func202 Tryz.ntmps202 ?_
  refine c_seq<|c_reg<|s_box rfl fun b3=>s_box rfl fun b4=>s_alloc fun b6=>s_nil<|q_then<|c_seq<|c_regL [.blk b4 (.cells (bs n).toArray 202 (0,0)),.blk b3 (.cells (bs k).toArray 23 (0,0))]<|r_y 0 rfl y_sla<|r_y 1 rfl y_sla<|r_W 2 rfl<|s_cpv (b:=b6) (off:=0) (m:=16) (k:=4) (cs:=(ws (List.replicate 16 0)).toArray) (ys:=ws cst) (?_) (rdW0 hg.2) (h1:=fun v hv=>ws_one hv) (hle:=by decide) (hrep:=.head _) (hfit:=by decide)
  rw [show (((ws (List.replicate 16 0)).toArray).toList.take 0 ++ (ws cst).take (Nat.min 4 16) ++ ((ws (List.replicate 16 0)).toArray).toList.drop (0 + Nat.min 4 16)).toArray = (ws (cst ++ ws4 k 0 ++ List.replicate 12 0)).toArray by rfl]
  refine r_K<|r_E<|q_then<|c_seq<|c_seq<|c_reg<|s_y y_mv<|s_nil<|q_then<|c_block<|?_
  refine c_loop (fun i:Nat=>[(2,W32 c),(3,.pointer (some ⟨b3,0,none⟩)),(4,.pointer (some ⟨b4,0,none⟩)),(6,.pointer (some ⟨b6,0,none⟩)),(12,I i)]) (fun i=>[.blk b6 (.cells (ws (cst ++ ws4 k i ++ List.replicate (12 - i) 0)).toArray 292 (0,0)),.blk b4 (.cells (bs n).toArray 202 (0,0)),.blk b3 (.cells (bs k).toArray 23 (0,0))]) (fun i=>i ≤ 8) (fun i=>8 - i) 0 (by omega) ⟨rfl,rfl,rfl,rfl,rfl,trivial⟩ (.refl _) ?_
  intro i hi
  by_cases h8:i < 8
  · have hA:(cst ++ ws4 k i).length = 4 + i:=by rw [List.length_append,ws4_length]; rfl
    have hs:=set_next (cst ++ ws4 k i) (11 - i) (4 + i) (wle k (4 * i)) hA
    rw [show 11 - i + 1 = 12 - i by omega,show cst ++ ws4 k i ++ [wle k (4 * i)] = cst ++ ws4 k (i + 1) by rw [ws4_succ,List.append_assoc]] at hs
    refine c_seq<|c_reg<|s_kt (y_lss (p:=((i:Nat):Int)) (q:=8)) (by omega)<|s_nil<|q_then<|c_seq<|c_t<|c_skip<|q_then<|c_seq<|c_block<|c_seq<|c_reg<|s_y y_mv<|s_y y_as<|s_nil<|q_then<|c_reg<|s_y y_mv<|s_y (y_add (p:=4) (q:=((i:Nat):Int)))<|s_y y_mv<|s_y (y_mul (p:=4) (q:=((i:Nat):Int)))<|s_y (y_slal (i:=4 * ((i:Nat):Int)))<|?_
    rw [show 0 + (4 * ((i:Nat):Int)).toNat * 1 = 4 * i by omega,show (4 * ((i:Nat):Int)).toNat = 4 * i by omega]
    refine s_pure (fun w' hw=>by
      have h9:=c_word_ok w' (some ⟨b3,4 * i,none⟩) (32 - 4 * i) (32 - 4 * i) (k.drop (4 * i)) (rd_drop (.tail _ (.tail _ (.head _))) w' hw) (by omega) (by rw [List.length_drop]; omega)
      rw [wle_drop] at h9
      exact h9)<|s_y (y_ixn (4 + i) (m:=16))<|s_stw (?_) (hl:=by simp only [List.length_append,ws4_length,List.length_replicate,show cst.length = 4 from rfl]; omega)
    rw [hs]
    refine s_nil<|q_nb<|q_then<|c_reg<|s_y (y_add (p:=((i:Nat):Int)) (q:=1))<|s_y y_mv<|s_nil<|?_
    rw [show ((i:Nat):Int) + 1 = ((i + 1:Nat):Int) by omega,show 11 - i = 12 - (i + 1) by omega]
    exact q_round (i + 1) (by omega) (by omega) ⟨rfl,rfl,rfl,rfl,rfl,trivial⟩ (.refl _)
  obtain rfl:i = 8:=by omega
  have hs12:(cst ++ ws4 k 8 ++ List.replicate (12 - 8) (0:UInt32)).set 12 c = cst ++ ws4 k 8 ++ [c] ++ ws4 n 0 ++ List.replicate 3 0:=by
    rw [show ws4 n 0 = [] from rfl,List.append_nil]
    exact set_next (cst ++ ws4 k 8) 3 12 c (by rw [List.length_append,ws4_length]; rfl)
  refine c_seq<|c_reg<|s_kf (y_lss (p:=((8:Nat):Int)) (q:=8)) (by omega)<|s_nil<|q_then<|c_seq<|c_f<|c_exit<|q_ex<|q_ex<|q_exb<|q_then<|c_seq<|c_reg<|s_y y_mv<|s_y (y_ixn 12 (m:=16))<|s_stw (?_) (hl:=by simp only [List.length_append,ws4_length,List.length_replicate]; decide)
  rw [hs12]
  refine s_nil<|q_then<|c_seq<|c_seq<|c_reg<|s_y y_mv<|s_nil<|q_then<|c_block<|?_
  refine c_loop (fun i:Nat=>[(4,.pointer (some ⟨b4,0,none⟩)),(6,.pointer (some ⟨b6,0,none⟩)),(25,I i)]) (fun i=>[.blk b6 (.cells (ws (cst ++ ws4 k 8 ++ [c] ++ ws4 n i ++ List.replicate (3 - i) 0)).toArray 292 (0,0)),.blk b4 (.cells (bs n).toArray 202 (0,0))]) (fun i=>i ≤ 3) (fun i=>3 - i) 0 (by omega) ⟨rfl,rfl,rfl,trivial⟩ (.cons_cons _ (.cons_cons _ (List.nil_sublist _))) ?_
  intro i hi
  by_cases h3:i < 3
  · have hA:(cst ++ ws4 k 8 ++ [c] ++ ws4 n i).length = 13 + i:=by simp only [List.length_append,ws4_length]; rw [show cst.length + 8 + [c].length = 13 from rfl]
    have hs:=set_next (cst ++ ws4 k 8 ++ [c] ++ ws4 n i) (2 - i) (13 + i) (wle n (4 * i)) hA
    rw [show 2 - i + 1 = 3 - i by omega,show cst ++ ws4 k 8 ++ [c] ++ ws4 n i ++ [wle n (4 * i)] = cst ++ ws4 k 8 ++ [c] ++ ws4 n (i + 1) by rw [ws4_succ n i,List.append_assoc (cst ++ ws4 k 8 ++ [c])]] at hs
    refine c_seq<|c_reg<|s_kt (y_lss (p:=((i:Nat):Int)) (q:=3)) (by omega)<|s_nil<|q_then<|c_seq<|c_t<|c_skip<|q_then<|c_seq<|c_block<|c_seq<|c_reg<|s_y y_mv<|s_y y_as<|s_nil<|q_then<|c_reg<|s_y y_mv<|s_y (y_add (p:=13) (q:=((i:Nat):Int)))<|s_y y_mv<|s_y (y_mul (p:=4) (q:=((i:Nat):Int)))<|s_y (y_slal (i:=4 * ((i:Nat):Int)))<|?_
    rw [show 0 + (4 * ((i:Nat):Int)).toNat * 1 = 4 * i by omega,show (4 * ((i:Nat):Int)).toNat = 4 * i by omega]
    refine s_pure (fun w' hw=>by
      have h9:=c_word_ok w' (some ⟨b4,4 * i,none⟩) (12 - 4 * i) (12 - 4 * i) (n.drop (4 * i)) (rd_drop (.tail _ (.head _)) w' hw) (by omega) (by rw [List.length_drop]; omega)
      rw [wle_drop] at h9
      exact h9)<|s_y (y_ixn (13 + i) (m:=16))<|s_stw (?_) (hl:=by rw [List.length_append,hA,List.length_replicate]; omega)
    rw [hs]
    refine s_nil<|q_nb<|q_then<|c_reg<|s_y (y_add (p:=((i:Nat):Int)) (q:=1))<|s_y y_mv<|s_nil<|?_
    rw [show ((i:Nat):Int) + 1 = ((i + 1:Nat):Int) by omega,show 2 - i = 3 - (i + 1) by omega]
    exact q_round (i + 1) (by omega) (by omega) ⟨rfl,rfl,rfl,trivial⟩ (.refl _)
  obtain rfl:i = 3:=by omega
  rw [show cst ++ ws4 k 8 ++ [c] ++ ws4 n 3 ++ List.replicate (3 - 3) 0 = first k n c by rw [Nat.sub_self,List.replicate_zero,List.append_nil]; rfl]
  have hl:=first_length k n c
  obtain ⟨S,hS⟩:∃ S,first k n c = S:=⟨_,rfl⟩
  rw [hS] at hl ⊢
  refine c_seq<|c_reg<|s_kf (y_lss (p:=((3:Nat):Int)) (q:=3)) (by omega)<|s_nil<|q_then<|c_seq<|c_f<|c_exit<|q_ex<|q_ex<|q_exb<|q_then<|c_seq<|c_reg<|s_y (y_lda (b:=b6) (cs:=(ws S).toArray) (hl:=hzw hl))<|s_sta (b:=b6) (vs:=(ws S).toArray) (cs:=(ws S).toArray) (h1:=fun u hu=>ws_one (by simpa using hu)) (hl:=rfl) (hs1:=hzw hl) ?_
  refine s_nil<|q_then<|c_ret<|?_
  exact ret1 Tryz.results202 (rv_ca (b:=b6) (hl:=hzw hl)) fun w' hw=>⟨rfl,hw.sub (List.nil_sublist _)⟩
theorem c_block_ok (w:World) (k n:List UInt8) (c:UInt32) (hg:LC w) (hk:k.length = 32) (hn:n.length = 12) :
    Gives Tryz.prog 185 [.agg (bs k).toArray,.agg (bs n).toArray,W32 c] w [] (fun y:Option Addr × Nat=>.slice y.1 64 y.2) (fun y=>[.row y.1 y.2 5 1 64 (bs (blk k n c))]) (fun _=>True):=by
  have hl:=first_length k n c
  have hblk:blk k n c = outU (rndU (first k n c) 10) (first k n c) 16:=rfl
  obtain ⟨S,hS⟩:∃ S,first k n c = S:=⟨_,rfl⟩
  rw [hS] at hl hblk
  have hR:∀ r,(rndU S r).length = 16:=fun r=>by rw [rndU_length]; exact hl
  refine enter Tryz.func185 Tryz.ntmps185 ?_
  refine c_seq<|c_reg<|s_box rfl fun b3=>s_box rfl fun b4=>s_y y_as<|s_nil<|q_then<|c_seq<|c_reg<|s_y (y_lda (b:=b3) (cs:=(bs k).toArray) (hl:=hzn hk))<|s_y (y_lda (b:=b4) (cs:=(bs n).toArray) (hl:=hzn hn))<|s_y y_mv<|s_pure (fun w' hw=>c_first_ok w' k n c (hg.st hw) hk hn)<|?_
  rw [hS]
  refine s_alloc fun b7=>s_sta (b:=b7) (vs:=(ws S).toArray) (cs:=(ws (List.replicate 16 0)).toArray) (h1:=fun u hu=>ws_one (by simpa using hu)) (hl:=by rw [hzw hl]; rfl) (hs1:=hzw hl) ?_
  refine s_nil<|q_then<|c_seq<|c_reg<|s_y (y_lda (b:=b7) (cs:=(ws S).toArray) (hl:=hzw hl))<|s_alloc fun b8=>s_sta (b:=b8) (vs:=(ws S).toArray) (cs:=(ws (List.replicate 16 0)).toArray) (h1:=fun u hu=>ws_one (by simpa using hu)) (hl:=by rw [hzw hl]; rfl) (hs1:=hzw hl) ?_
  refine s_nil<|q_then<|c_seq<|c_reg<|s_y y_func<|s_y y_as<|s_nil<|q_then<|c_seq<|c_seq<|c_reg<|s_y y_mv<|s_nil<|q_then<|c_block<|?_
  refine c_loop (fun i:Nat=>[(7,.pointer (some ⟨b7,0,none⟩)),(8,.pointer (some ⟨b8,0,none⟩)),(9,.func (.func 203) #[.pointer (some ⟨b8,0,none⟩)] #[]),(21,I i)]) (fun i=>[.blk b8 (.cells (ws (rndU S i)).toArray 292 (0,0)),.blk b7 (.cells (ws S).toArray 292 (0,0))]) (fun i=>i ≤ 10) (fun i=>10 - i) 0 (by omega) ⟨rfl,rfl,rfl,rfl,trivial⟩ (.cons_cons _ (.cons_cons _ (List.nil_sublist _))) ?_
  intro r hr
  by_cases h10:r < 10
  · have hVl:=hR r
    have hnx:dgU (colU (rndU S r) 4) 4 = rndU S (r + 1):=rfl
    obtain ⟨V,hV⟩:∃ V,rndU S r = V:=⟨_,rfl⟩
    rw [hV] at hVl hnx ⊢
    refine c_seq<|c_reg<|s_kt (y_lss (p:=((r:Nat):Int)) (q:=10)) (by omega)<|s_nil<|q_then<|c_seq<|c_t<|c_skip<|q_then<|c_seq<|c_block<|c_seq<|c_seq<|c_reg<|s_y y_mv<|s_nil<|q_then<|c_block<|?_
    refine c_loop (fun i:Nat=>[(7,.pointer (some ⟨b7,0,none⟩)),(8,.pointer (some ⟨b8,0,none⟩)),(9,.func (.func 203) #[.pointer (some ⟨b8,0,none⟩)] #[]),(21,I r),(23,I i)]) (fun i=>[.blk b8 (.cells (ws (colU V i)).toArray 292 (0,0)),.blk b7 (.cells (ws S).toArray 292 (0,0))]) (fun i=>i ≤ 4) (fun i=>4 - i) 0 (by omega) ⟨rfl,rfl,rfl,rfl,rfl,trivial⟩ (.refl _) ?_
    intro i hi
    by_cases h4:i < 4
    · have hCl:(colU V i).length = 16:=by rw [colU_length]; exact hVl
      refine c_seq<|c_reg<|s_kt (y_lss (p:=((i:Nat):Int)) (q:=4)) (by omega)<|s_nil<|q_then<|c_seq<|c_t<|c_skip<|q_then<|c_seq<|c_block<|c_seq<|c_reg<|s_y y_mv<|s_y y_as<|s_nil<|q_then<|c_reg<|s_y y_mv<|s_y y_mv<|s_y y_mv<|s_y (y_add (p:=4) (q:=((i:Nat):Int)))<|s_y y_mv<|s_y (y_add (p:=8) (q:=((i:Nat):Int)))<|s_y y_mv<|s_y (y_add (p:=12) (q:=((i:Nat):Int)))<|s_chg (σ:=Unit) (val:=fun _=>.tuple #[]) (b:=b8) (o':=fun _=>.cells (ws (colU V (i + 1))).toArray 292 (0,0)) (lx:=fun _=>[]) (φ:=fun _=>True) (hc:=fun w' hw=>(by
        have h9:=c_mix_ok w' b8 292 (colU V i) i (4 + i) (8 + i) (12 + i) hw.blk_at hCl (by omega) (by omega) (by omega) (by omega)
        rw [show ((4 + i:Nat):Int) = 4 + ((i:Nat):Int) by omega,show ((8 + i:Nat):Int) = 8 + ((i:Nat):Int) by omega,show ((12 + i:Nat):Int) = 12 + ((i:Nat):Int) by omega] at h9
        exact h9)) (hrep:=fun _=>.head _) fun _ _=>s_nil<|q_nb<|q_then<|c_reg<|s_y (y_add (p:=((i:Nat):Int)) (q:=1))<|s_y y_mv<|s_nil<|?_
      rw [show ((i:Nat):Int) + 1 = ((i + 1:Nat):Int) by omega]
      exact q_round (i + 1) (by omega) (by omega) ⟨rfl,rfl,rfl,rfl,rfl,trivial⟩ (.refl _)
    obtain rfl:i = 4:=by omega
    have hUl:(colU V 4).length = 16:=by rw [colU_length]; exact hVl
    obtain ⟨U',hU⟩:∃ U',colU V 4 = U':=⟨_,rfl⟩
    rw [hU] at hUl hnx ⊢
    refine c_seq<|c_reg<|s_kf (y_lss (p:=((4:Nat):Int)) (q:=4)) (by omega)<|s_nil<|q_then<|c_seq<|c_f<|c_exit<|q_ex<|q_ex<|q_exb<|q_then<|c_seq<|c_reg<|s_y y_mv<|s_nil<|q_then<|c_block<|?_
    refine c_loop (fun i:Nat=>[(7,.pointer (some ⟨b7,0,none⟩)),(8,.pointer (some ⟨b8,0,none⟩)),(9,.func (.func 203) #[.pointer (some ⟨b8,0,none⟩)] #[]),(21,I r),(36,I i)]) (fun i=>[.blk b8 (.cells (ws (dgU U' i)).toArray 292 (0,0)),.blk b7 (.cells (ws S).toArray 292 (0,0))]) (fun i=>i ≤ 4) (fun i=>4 - i) 0 (by omega) ⟨rfl,rfl,rfl,rfl,rfl,trivial⟩ (.refl _) ?_
    intro i hi
    by_cases h4:i < 4
    · have hCl:(dgU U' i).length = 16:=by rw [dgU_length]; exact hUl
      refine c_seq<|c_reg<|s_kt (y_lss (p:=((i:Nat):Int)) (q:=4)) (by omega)<|s_nil<|q_then<|c_seq<|c_t<|c_skip<|q_then<|c_seq<|c_block<|c_seq<|c_reg<|s_y y_mv<|s_y y_as<|s_nil<|q_then<|c_reg<|s_y y_mv<|s_y y_mv<|s_y y_mv<|s_y (y_add (p:=((i:Nat):Int)) (q:=1))<|s_y (y_rem (p:=((i:Nat):Int) + 1) (q:=4))<|s_y (y_add (p:=4) (q:=(((i:Nat):Int) + 1) % 4))<|s_y y_mv<|s_y (y_add (p:=((i:Nat):Int)) (q:=2))<|s_y (y_rem (p:=((i:Nat):Int) + 2) (q:=4))<|s_y (y_add (p:=8) (q:=(((i:Nat):Int) + 2) % 4))<|s_y y_mv<|s_y (y_add (p:=((i:Nat):Int)) (q:=3))<|s_y (y_rem (p:=((i:Nat):Int) + 3) (q:=4))<|s_y (y_add (p:=12) (q:=(((i:Nat):Int) + 3) % 4))<|s_chg (σ:=Unit) (val:=fun _=>.tuple #[]) (b:=b8) (o':=fun _=>.cells (ws (dgU U' (i + 1))).toArray 292 (0,0)) (lx:=fun _=>[]) (φ:=fun _=>True) (hc:=fun w' hw=>(by
        have h9:=c_mix_ok w' b8 292 (dgU U' i) i (4 + (i + 1) % 4) (8 + (i + 2) % 4) (12 + (i + 3) % 4) hw.blk_at hCl (by omega) (by omega) (by omega) (by omega)
        rw [show ((4 + (i + 1) % 4:Nat):Int) = 4 + (((i:Nat):Int) + 1) % 4 by omega,show ((8 + (i + 2) % 4:Nat):Int) = 8 + (((i:Nat):Int) + 2) % 4 by omega,show ((12 + (i + 3) % 4:Nat):Int) = 12 + (((i:Nat):Int) + 3) % 4 by omega] at h9
        exact h9)) (hrep:=fun _=>.head _) fun _ _=>s_nil<|q_nb<|q_then<|c_reg<|s_y (y_add (p:=((i:Nat):Int)) (q:=1))<|s_y y_mv<|s_nil<|?_
      rw [show ((i:Nat):Int) + 1 = ((i + 1:Nat):Int) by omega]
      exact q_round (i + 1) (by omega) (by omega) ⟨rfl,rfl,rfl,rfl,rfl,trivial⟩ (.refl _)
    obtain rfl:i = 4:=by omega
    rw [hnx]
    refine c_seq<|c_reg<|s_kf (y_lss (p:=((4:Nat):Int)) (q:=4)) (by omega)<|s_nil<|q_then<|c_seq<|c_f<|c_exit<|q_ex<|q_ex<|q_exb<|q_nb<|q_then<|c_reg<|s_y (y_add (p:=((r:Nat):Int)) (q:=1))<|s_y y_mv<|s_nil<|?_
    rw [show ((r:Nat):Int) + 1 = ((r + 1:Nat):Int) by omega]
    exact q_round (r + 1) (by omega) (by omega) ⟨rfl,rfl,rfl,rfl,trivial⟩ (.refl _)
  obtain rfl:r = 10:=by omega
  have hVl:=hR 10
  obtain ⟨V,hV⟩:∃ V,rndU S 10 = V:=⟨_,rfl⟩
  rw [hV] at hVl hblk ⊢
  refine c_seq<|c_reg<|s_kf (y_lss (p:=((10:Nat):Int)) (q:=10)) (by omega)<|s_nil<|q_then<|c_seq<|c_f<|c_exit<|q_ex<|q_ex<|q_exb<|q_then<|c_seq<|c_reg<|s_mkb (i:=0) (j:=64) fun b12=>s_y y_as<|s_nil<|q_then<|?_
  rw [show (64:Int).toNat = 64 from rfl,show (0:Int).toNat = 0 from rfl]
  refine c_torow0 (b:=b12) (s:=1) (m:=64) (cs:=(bs (List.replicate 64 0)).toArray) (e:=5) (.head _) (hzn List.length_replicate) (by unfold maxLen; omega) ?_
  refine c_seq<|c_seq<|c_reg<|s_y (y_lda (b:=b8) (cs:=(ws V).toArray) (hl:=hzw hVl))<|s_y y_mv<|s_nil<|q_then<|c_block<|?_
  refine c_loop3 (fun (i:Nat) (a:Option Addr) (cc:Nat)=>[(7,.pointer (some ⟨b7,0,none⟩)),(12,.slice a (4 * i) cc),(57,.agg (ws V).toArray),(58,I i)]) (fun i a cc=>[.row a cc 5 1 (4 * i) (bs (outU V S i)),.blk b7 (.cells (ws S).toArray 292 (0,0))]) (fun i _ _=>i ≤ 16) (fun i _ _=>16 - i) 0 (some ⟨b12,0,none⟩) 64 (by omega) ⟨rfl,rfl,rfl,rfl,trivial⟩ (.cons_cons _ (.cons _ (.cons_cons _ (List.nil_sublist _)))) ?_
  intro i a cc hi
  by_cases h16:i < 16
  · have hix:(ws V).toArray[i]? = some (W32 (V.getD i 0)):=by rw [List.getElem?_toArray]; exact ws_get (by omega)
    refine c_seq<|c_reg<|s_kt (y_lss (p:=((i:Nat):Int)) (q:=16)) (by omega)<|s_nil<|q_then<|c_seq<|c_t<|c_skip<|q_then<|c_seq<|c_block<|c_seq<|c_reg<|s_y y_mv<|s_y (y_ixv (v:=W32 (V.getD i 0)) i hix)<|s_y y_as<|s_y y_as<|s_nil<|q_then<|c_seq<|c_reg<|s_y y_mv<|s_y y_mv<|s_y (y_ixn i (m:=16))<|s_y (y_ldwb (q:=S) i (by omega))<|s_y y_add32<|s_y y_as<|s_nil<|q_then<|?_
    have hsucc:=outU_succ V S i
    obtain ⟨z,hz⟩:∃ z,V.getD i 0 + S.getD i 0 = z:=⟨_,rfl⟩
    rw [hz] at hsucc ⊢
    refine c_reg<|s_y y_mv<|s_y y_mv<|s_y y_cv8w<|s_y y_mv<|s_y y_shr32<|s_y y_cv8w<|s_y y_mv<|s_y y_shr32<|s_y y_cv8w<|s_y y_mv<|s_y y_shr32<|s_y y_cv8w<|s_bslr (cs:=bs (le4 z)) fun b79=>s_app (m:=4) (srcB (q:=le4 z) (rdR (.head _)) rfl) (h1:=fun v hv=>bs_one hv) (hm:=.tail _ (.head _)) (hrep:=fun _ _=>.tail _ (.head _)) fun a80 c80 h80=>?_
    rw [← bs_append,← hsucc,show 4 * i + 4 = 4 * (i + 1) by omega]
    refine s_y y_as<|s_nil<|q_nb<|q_then<|c_reg<|s_y (y_add (p:=((i:Nat):Int)) (q:=1))<|s_y y_mv<|s_nil<|?_
    rw [show ((i:Nat):Int) + 1 = ((i + 1:Nat):Int) by omega]
    exact q_round3 (x:=i) (y:=a) (z:=cc) (i + 1) a80 c80 (by omega) (by omega) ⟨rfl,rfl,rfl,rfl,trivial⟩ (.cons _ (.refl _))
  obtain rfl:i = 16:=by omega
  rw [← hblk]
  refine c_seq<|c_reg<|s_kf (y_lss (p:=((16:Nat):Int)) (q:=16)) (by omega)<|s_nil<|q_then<|c_seq<|c_f<|c_exit<|q_ex<|q_ex<|q_exb<|q_then<|c_seq<|c_reg<|s_y y_mv<|s_y y_as<|s_nil<|q_then<|c_ret<|?_
  exact ret1 Tryz.results185 rv_t fun w' hw=>⟨(a,cc),trivial,rfl,hw.sub (.cons_cons _ (List.nil_sublist _))⟩
end Go.Proofs.YtegfmbefhpagmaaGreatDoor
end
section
namespace Eng
open Go Go.RowKit
section
variable {P:Program} {n:Nat} {D:List Deferred} {W:World} {Bo:List Nat} {F:List (Nat × Value)} {l:SH}
  {d:Option Tmp} {ty:TypeId} {ps:String} {af:Array Edge} {g:Option (Nat × Bool)} {x y:Operand} {ta tb:TypeId}
theorem y_min {p q:Int} (hx:evO F x = some (I p):=by rfl) (hy:evO F y = some (I q):=by rfl):Y P n D W Bo ⟨d,.call ⟨.builtin .min,#[x,y],#[ta,tb]⟩,ty,ps,af,g⟩ F l (I (min p q)) :=
  y_b (vs:=[I p,I q]) (by simp [evL,hx,hy]) fun w _ cs=>by
    by_cases h:q < p
    · simp [builtin,Builtin.min_,Builtin.min2,h,Int.min_eq_right (Int.le_of_lt h)]
    · simp [builtin,Builtin.min_,Builtin.min2,h,Int.min_eq_left (Int.not_lt.1 h)]
end
end Eng
namespace Go.Proofs.YtegfmbefhpagmaaGreatDoor
open Go Eng Sha Cha
theorem Clone_ok (w:World) (a:Option Addr) (c:Nat) (q:List UInt8) (hr:Rd w a (bs q)) (hl:q.length < 1000000000) (hne:a ≠ none) :
    Gives Tryz.prog 183 [.slice a q.length c] w [] (fun y:Option Addr × Nat=>.slice y.1 q.length y.2) (fun y=>[.row y.1 y.2 5 1 q.length (bs q)]) (fun y=>y.1 ≠ none):=by
  have hn:a.isNone = false:=by cases a with
    | none=>exact absurd rfl hne
    | some _=>rfl
  refine enter Tryz.func183 Tryz.ntmps183 ?_
  refine c_seq<|c_reg<|s_y y_as<|s_nil<|q_then<|c_seq<|c_seq<|c_reg<|s_y y_mv<|s_y y_eqln<|?_
  rw [hn]
  refine s_nil<|q_then<|c_f<|c_skip<|q_then<|c_seq<|c_reg<|s_bsl0 fun b5=>s_y y_mv<|s_app (m:=q.length) (srcB (q:=q) (rdW0 hr) rfl) (h1:=fun v hv=>bs_one hv) (hm:=.head _) (hrep:=fun _ _=>.head _) fun a7 c7 h7=>?_
  rw [List.nil_append,Nat.zero_add]
  refine s_y y_as<|s_nil<|q_then<|c_ret<|?_
  exact ret1 Tryz.results183 rv_t fun w' hw=>⟨(a7,c7),(fun h=>by cases (h7 h).1),rfl,hw⟩
theorem Clone_nil (w:World) (n c:Nat):Pure Tryz.prog 183 [.slice none n c] w (.slice none 0 0):=by
  refine enter Tryz.func183 Tryz.ntmps183 ?_
  refine c_seq<|c_reg<|s_y y_as<|s_nil<|q_then<|c_seq<|c_seq<|c_reg<|s_y y_mv<|s_y y_eqln<|s_nil<|q_then<|c_t<|c_seq<|c_reg<|s_y y_as<|s_nil<|q_then<|c_ret<|q_ret<|?_
  exact ret1 Tryz.results183 rv_t fun w' hw=>⟨rfl,hw⟩
theorem Chunk_ok (w:World) (a:Option Addr) (n c:Nat):Gives Tryz.prog 184 [.slice a n c,I 64] w [] (fun y:Nat × Nat=>.func (.func 201) #[] #[.pointer (some ⟨y.1,0,none⟩),.pointer (some ⟨y.2,0,none⟩)]) (fun y=>[.blk y.2 (.cells #[I 64] 3 (0,0)),.blk y.1 (.cells #[.slice a n c] 24 (0,0))]) (fun _=>True):=by
  refine enter Tryz.func184 Tryz.ntmps184 ?_
  refine c_seq<|c_reg<|s_box rfl fun b2=>s_box rfl fun b3=>s_y y_as<|s_nil<|q_then<|c_seq<|c_seq<|c_reg<|s_y (y_ld (b:=b3) (v:=I 64))<|s_kf (y_lss (p:=64) (q:=1)) (by omega)<|s_nil<|q_then<|c_f<|c_skip<|q_then<|c_seq<|c_reg<|s_y y_func<|s_y y_as<|s_nil<|q_then<|c_ret<|?_
  exact ret1 Tryz.results184 rv_t fun w' hw=>⟨(b2,b3),trivial,rfl,hw⟩
def chl (n i:Nat):Nat:=min 64 (n - 64 * i)
theorem chunk1_ok (w':World) (rc:Loop) (Lp b1 b2:Nat) (pa:Option Addr) (n pc:Nat) (M:Nat → SH) (hs:∀ p ∈ M 0,p.holds w') (hnd:(keys (M 0)).Nodup) (hpz:rc.params.size = 1)
    (hL:∀ i,Res.blk Lp (.loop rc) ∈ M i) (h1:∀ i,Res.blk b1 (.cells #[.slice pa n pc] 24 (0,0)) ∈ M i) (h2:∀ i,Res.blk b2 (.cells #[I 64] 3 (0,0)) ∈ M i) (hn:n ≤ 1000000) (hnc:n ≤ pc)
    (hround:∀ (i:Nat) (_:64 * i < n) (w2:World),St w' (keys (M 0)) w2 (M i) →
      RoundIn (Fw none) 0 Tryz.prog Lp rc.fn ((rc.params.zip #[Value.slice (sa pa (64 * i) (64 * i + chl n i) 1) (chl n i) (chl n i)]).foldl (fun tmps (t,a)=>tmps.setIfInBounds t a) rc.tmps) rc.assign rc.body w2 fun e' w3=>∃ _:Unit,True ∧ e' = .returned (.bool true) ∧ St w' (keys (M 0)) w3 (M (i + 1))) :
    Calls Tryz.prog 201 #[.func (.yield Lp) #[] #[],.pointer (some ⟨b1,0,none⟩),.pointer (some ⟨b2,0,none⟩)] w' fun e' w2=>(∃ v,e' = .returned v) ∧ ∃ i,n ≤ 64 * i ∧ St w' (keys (M 0)) w2 (M i):=by
  refine enterL (args:=[.func (.yield Lp) #[] #[],.pointer (some ⟨b1,0,none⟩),.pointer (some ⟨b2,0,none⟩)]) Tryz.func201 Tryz.ntmps201 hs hnd ?_
  refine c_seq<|c_reg<|s_y y_as<|s_nil<|q_then<|c_block<|?_
  refine c_loop (fun i:Nat=>[(0,.func (.yield Lp) #[] #[]),(1,.pointer (some ⟨b1,0,none⟩)),(2,.pointer (some ⟨b2,0,none⟩)),(4,I (64 * i:Nat))]) M (fun i=>64 * i ≤ n + 63) (fun i=>n + 64 - 64 * i) 0 (by omega) ⟨rfl,rfl,rfl,rfl,trivial⟩ (.refl _) ?_
  intro i hi
  by_cases hin:64 * i < n
  · obtain ⟨ch,hch⟩:∃ ch,chl n i = ch:=⟨_,rfl⟩
    have hch':min (64:Int) ((n - 64 * i:Nat):Int) = ((ch:Nat):Int):=by rw [← hch]; unfold chl; omega
    have hch1:1 ≤ ch ∧ ch ≤ 64 ∧ 64 * i + ch ≤ n:=by rw [← hch]; unfold chl; omega
    have hr9:=hround i hin
    rw [hch] at hr9
    refine c_seq<|c_seq<|c_reg<|s_y y_mv<|s_y (y_ld (b:=b1) (hm:=h1 _) (v:=.slice pa n pc))<|s_y y_len<|s_kt (y_lss (p:=((64 * i:Nat):Int)) (q:=((n:Nat):Int))) (by omega)<|s_nil<|q_then<|c_t<|c_skip<|q_then<|c_seq<|c_block<|c_seq<|c_regd<|d_y (y_ld (b:=b2) (hm:=h2 _) (v:=I 64))<|d_y (y_ld (b:=b1) (hm:=h1 _) (v:=.slice pa n pc))<|d_y y_mv<|d_y (y_sll (i:=((64 * i:Nat):Int)))<|d_y y_len<|d_y (y_min (p:=64) (q:=((n - 64 * i:Nat):Int)))<|?_
    rw [hch']
    refine d_y y_as<|d_nil<|q_then<|c_seq<|c_reg<|s_y y_mv<|s_y (y_ld (b:=b1) (hm:=h1 _) (v:=.slice pa n pc))<|s_y y_mv<|s_y y_mv<|s_y y_mv<|s_y (y_add (p:=((64 * i:Nat):Int)) (q:=((ch:Nat):Int)))<|s_y y_mv<|s_y y_mv<|s_y (y_add (p:=((64 * i:Nat):Int)) (q:=((ch:Nat):Int)))<|?_
    rw [show ((64 * i:Nat):Int) + ((ch:Nat):Int) = ((64 * i + ch:Nat):Int) by omega]
    refine s_y (y_sllhm (i:=((64 * i:Nat):Int)) (j:=((64 * i + ch:Nat):Int)) (h:=((64 * i + ch:Nat):Int)))<|?_
    rw [Int.toNat_natCast,Int.toNat_natCast,show 64 * i + ch - 64 * i = ch by omega]
    refine s_yield (L:=Lp) (rc:=rc) (σ:=Unit) (fun _=>.bool true) (fun _=>M (i + 1)) (fun _=>True) (hL _) hpz (fun w2 h2=>hr9 w2 h2) (fun _ _=>?_)
    refine s_y (v:=.bool false) (y_not (b:=true))<|s_nil<|q_then<|c_f<|c_skip<|q_nb<|q_then<|c_reg<|s_y y_mv<|s_y (y_ld (b:=b2) (hm:=h2 _) (v:=I 64))<|s_y (y_add (p:=((64 * i:Nat):Int)) (q:=64))<|s_y y_as<|s_nil<|?_
    rw [show ((64 * i:Nat):Int) + 64 = ((64 * (i + 1):Nat):Int) by omega]
    exact q_round (i + 1) (by omega) (by omega) ⟨rfl,rfl,rfl,rfl,trivial⟩ (.refl _)
  · refine c_seq<|c_seq<|c_reg<|s_y y_mv<|s_y (y_ld (b:=b1) (hm:=h1 _) (v:=.slice pa n pc))<|s_y y_len<|s_kf (y_lss (p:=((64 * i:Nat):Int)) (q:=((n:Nat):Int))) (by omega)<|s_nil<|q_then<|c_f<|c_exit<|q_ex<|q_ex<|q_exb<|?_
    exact ret0 Tryz.results201 (fun w2 h2=>⟨⟨_,rfl⟩,i,by omega,h2⟩) _ (.inr rfl)
end Go.Proofs.YtegfmbefhpagmaaGreatDoor
end
section
namespace Eng
open Go Go.RowKit
section
variable {r:Option Nat} {P:Program} {n:Nat} {D:List Deferred} {W:World} {Bo:List Nat} {F:List (Nat × Value)} {l:SH} {Q:Exit → Act → World → Prop} {c:Code}
theorem c_gen {rc:Loop} (lx:Loop → SH) (h:∀ rb,rb = rc → CP r P n D W Bo c Q F (lx rb)):CP r P n D W Bo c Q F (lx rc):=h rc rfl
end
theorem Rd.none {W:World} {xs:List Value} (h:Rd W none xs):xs = []:=by
  rcases h with h | ⟨b,off,cs,t,fz,e,_⟩
  · exact h
  · cases e
theorem rdO3 {W0 w:World} {l0 l:SH} (hs:St W0 [] w l0) {a:Option Addr} {xs:List Value} (h:Rd W0 a xs):RdS w (keys l0) l a xs:=fun w' hw=>by
  by_cases hne:xs = []
  · rw [hne]; exact Rd.nil _ _
  · refine Rd.congr h fun b hb=>?_
    have h1:b < W0.heap.size:=h.lt hne hb
    rw [hw.old b (Nat.lt_of_lt_of_le h1 hs.size) ?_,hs.old b h1 (by simp)]
    intro hm
    obtain ⟨q,hq,hk⟩:=mem_keys.1 hm
    rcases (hs.own q hq).2 b hk with h2 | h2
    · omega
    · simp at h2
end Eng
namespace Cha
open Go Eng Sha
def cur (k n q:List UInt8) (t:Nat):List UInt8:=(strm k n q).take t ++ q.drop t
theorem cur_length (k n q:List UInt8) (t:Nat):(cur k n q t).length = q.length:=by
  unfold cur; rw [List.length_append,List.length_take,List.length_drop,strm_length]; omega
theorem cur_all (k n q:List UInt8) {t:Nat} (h:q.length ≤ t):cur k n q t = strm k n q:=by
  unfold cur
  rw [List.take_of_length_le (by rw [strm_length]; exact h),List.drop_eq_nil_of_le h,List.append_nil]
theorem cur_get (k n q:List UInt8) {t:Nat} (h:t < q.length):(cur k n q t).getD t 0 = q.getD t 0:=Go.Proofs.YtegfmbefhpagmaaGreatDoor.mix_get (strm k n q) q 0 t h (strm_length k n q)
theorem cur_set (k n q:List UInt8) {t:Nat} (h:t < q.length):(cur k n q t).set t (q.getD t 0 ^^^ ks k n t) = cur k n q (t + 1) :=
  Go.Proofs.YtegfmbefhpagmaaGreatDoor.mix_set (strm k n q) q 0 _ t h (strm_length k n q) (strm_at k n q h)
theorem ks_in (k n:List UInt8) (i j:Nat) (h:j < 64):ks k n (64 * i + j) = (blk k n (UInt32.ofNat (1 + i))).getD j 0:=by
  unfold ks
  rw [show (64 * i + j) / 64 = i by omega,show (64 * i + j) % 64 = j by omega]
theorem ofNat_succ (i:Nat):UInt32.ofNat (1 + i) + 1 = UInt32.ofNat (1 + (i + 1)):=by
  apply UInt32.toNat_inj.1
  rw [UInt32.toNat_add,UInt32.toNat_ofNat',UInt32.toNat_ofNat']
  show ((1 + i) % 2 ^ 32 + 1) % 2 ^ 32 = (1 + (i + 1)) % 2 ^ 32
  omega
theorem bs_lset (q:List UInt8) (i:Nat) (x:UInt8):(bs q).set i (B x) = bs (q.set i x):=by unfold bs; rw [List.map_set]
end Cha
namespace Go.Proofs.YtegfmbefhpagmaaGreatDoor
open Go Eng Sha Cha
set_option maxRecDepth 100000
theorem Clone_any (w:World) (a:Option Addr) (c:Nat) (q:List UInt8) (hr:Rd w a (bs q)) (hl:q.length < 1000000000) :
    Gives Tryz.prog 183 [.slice a q.length c] w [] (fun y:Option Addr × Nat=>.slice y.1 q.length y.2) (fun y=>[.row y.1 y.2 5 1 q.length (bs q)]) (fun y=>0 < q.length → y.1 ≠ none):=by
  by_cases hne:a = none
  · subst hne
    have h1:q.length = 0:=by have:=hr.none; rw [← bs_length,this]; rfl
    obtain rfl:q = []:=List.length_eq_zero_iff.1 h1
    exact (Clone_nil w 0 c).mono fun e w' ⟨h1,h2⟩=>⟨(none,0),(fun h=>absurd h (by decide)),h1,h2.nilRow _ _⟩
  · exact (Clone_ok w a c q hr hl hne).mono fun e w' ⟨y,h1,h2⟩=>⟨y,(fun _=>h1),h2⟩
theorem c_Stream_ok (w:World) (a:Option Addr) (c:Nat) (k n q:List UInt8) (hg:LC w) (hk:k.length = 32) (hn:n.length = 12) (hr:Rd w a (bs q)) (hl:q.length ≤ 65536) :
    Gives Tryz.prog 152 [.agg (bs k).toArray,.agg (bs n).toArray,.slice a q.length c] w [] (fun y:Option Addr × Nat=>.tuple #[.slice y.1 q.length y.2,I 0]) (fun y=>[.row y.1 y.2 5 1 q.length (bs (strm k n q))]) (fun _=>True):=by
  refine enterM Tryz.func152 Tryz.ntmps152 ?_
  refine c_seq<|c_reg<|s_box rfl fun b3=>s_box rfl fun b4=>s_y y_as<|s_y y_as<|s_nil<|q_then<|c_seq<|c_seq<|c_reg<|s_y y_mv<|s_y y_len<|s_kf (y_gtr (p:=((q.length:Nat):Int)) (q:=65536)) (by omega)<|s_nil<|q_then<|c_f<|c_skip<|q_then<|c_seq<|c_reg<|s_y y_mv<|s_gives (fun w' hw=>Clone_any w' a c q (hr.st hw) (by omega)) (fun y hy=>?_)
  obtain ⟨a0,c0⟩:=y
  refine s_row (fun hkc _=>?_) (hm:=.head _)
  refine s_y y_as<|s_nil<|q_then<|c_seq<|c_reg<|s_alloc fun b8=>s_st (b:=b8) (v:=W32 (UInt32.ofNat (1 + 0))) (cs:=#[.int .u32 0]) (hl:=Nat.zero_lt_one) ?_
  refine s_nil<|q_then<|c_seq<|c_seq<|c_reg<|s_y y_mv<|s_gives (fun w' hw=>Chunk_ok w' a0 q.length c0) (fun y _=>?_)
  obtain ⟨b62,b63⟩:=y
  refine s_nil<|q_then<|c_block<|?_
  let M:Nat → Loop → Nat → Nat → SH:=fun i rc L Dk=>[.blk L (.loop rc),.blk Dk (.deferred (some [])),.blk b63 (.cells #[I 64] 3 (0,0)),.blk b62 (.cells #[.slice a0 q.length c0] 24 (0,0)),.blk b8 (.cells #[W32 (UInt32.ofNat (1 + i))] 267 (0,0)),.row a0 c0 5 1 q.length (bs (cur k n q (64 * i))),.blk b4 (.cells (bs n).toArray 202 (0,0)),.blk b3 (.cells (bs k).toArray 23 (0,0))]
  refine c_rangeN (σ:=Nat) (fun i=>[.blk b63 (.cells #[I 64] 3 (0,0)),.blk b62 (.cells #[.slice a0 q.length c0] 24 (0,0)),.blk b8 (.cells #[W32 (UInt32.ofNat (1 + i))] 267 (0,0)),.row a0 c0 5 1 q.length (bs (cur k n q (64 * i))),.blk b4 (.cells (bs n).toArray 202 (0,0)),.blk b3 (.cells (bs k).toArray 23 (0,0))]) (fun i=>q.length ≤ 64 * i) (fun fn tm Dk L hfr w' hw'=>?_) (fun Dk i hi=>?_)
  rotate_left
  · rw [cur_all k n q hi]
    refine q_nb<|q_then<|c_seq<|c_reg<|s_y y_mv<|s_y y_as<|s_y y_as<|s_nil<|q_then<|c_ret<|?_
    exact ret2D Tryz.results152 (.head _) rv_t rv_t fun w' hw=>⟨(a0,c0),trivial,rfl,hw.sub (.cons _ (.cons _ (.cons _ (.cons _ (.cons_cons _ (List.nil_sublist _))))))⟩
  · have hps9:∀ rc,St w [] w' (M 0 rc L Dk) → St w [] w' (M 0 rc L Dk ++ []):=fun rc h=>by rw [List.append_nil]; exact h
    have hps0:=(hps9 _ hw').has
    have hb:=chunk1_ok w' _ L b62 b63 a0 q.length c0 (fun i=>M i _ L Dk) hps0.1 hps0.2 rfl (fun i=>.head _) (fun i=>.tail _ (.tail _ (.tail _ (.head _)))) (fun i=>.tail _ (.tail _ (.head _))) (by omega) hkc (fun i hi w2 h2=>?_)
    · exact hb.mono fun e' w2 ⟨hv,i,hi,h2⟩=>⟨hv,i,hi,by have h9:=hw'.transL (l2:=[]) (by rw [List.append_nil] <;> exact .refl _) h2; rw [List.append_nil] at h9; exact h9⟩
    · obtain ⟨g,rfl⟩:∃ g,a0 = some ⟨g,0,none⟩:=by
        have h5:=(h2.own (.row a0 c0 5 1 q.length (bs (cur k n q (64 * i)))) (.tail _ (.tail _ (.tail _ (.tail _ (.tail _ (.head _))))))).1
        obtain ⟨_,_,h6⟩:=h5
        rcases h6 with ⟨h7,_⟩ | ⟨g,cc,h7,_⟩
        · exact absurd h7 (hy (by omega))
        · exact ⟨g,h7⟩
      obtain ⟨ch,hch⟩:∃ ch,chl q.length i = ch:=⟨_,rfl⟩
      have hch1:1 ≤ ch ∧ ch ≤ 64 ∧ 64 * i + ch ≤ q.length ∧ (ch = 64 ∨ 64 * i + ch = q.length):=by rw [← hch]; unfold chl; omega
      rw [hch,sa_lt (by omega),Nat.zero_add,Nat.mul_one]
      have hf9:=(hfr []).put 19 (.slice (some ⟨g,64 * i,none⟩) ch ch) rfl
      refine round_ok (F1:=[(3,.pointer (some ⟨b3,0,none⟩)),(4,.pointer (some ⟨b4,0,none⟩)),(8,.pointer (some ⟨b8,0,none⟩)),(9,.slice (some ⟨g,64 * i,none⟩) ch ch)]) h2 hf9 (by simp [Act.put]) (by rfl) (.head _) (l1:=M i _ L Dk) ?_ ?_
      · refine c_reg<|s_y y_as<|s_nil<|q_join ⟨rfl,rfl,rfl,rfl,trivial⟩ (List.Sublist.refl _)
      · refine c_gen (fun rb=>[.blk L (.loop rb),.blk Dk (.deferred (some [])),.blk b63 (.cells #[I 64] 3 (0,0)),.blk b62 (.cells #[.slice (some ⟨g,0,none⟩) q.length c0] 24 (0,0)),.blk b8 (.cells #[W32 (UInt32.ofNat (1 + i))] 267 (0,0)),.row (some ⟨g,0,none⟩) c0 5 1 q.length (bs (cur k n q (64 * i))),.blk b4 (.cells (bs n).toArray 202 (0,0)),.blk b3 (.cells (bs k).toArray 23 (0,0))]) fun rb hrb=>?_
        refine c_block<|c_seq<|c_seq<|c_reg<|s_y (y_lda (b:=b3) (cs:=(bs k).toArray) (hl:=hzn hk))<|s_y (y_lda (b:=b4) (cs:=(bs n).toArray) (hl:=hzn hn))<|s_y (y_ld (b:=b8) (v:=W32 (UInt32.ofNat (1 + i))))<|s_gives (fun w3 h3=>c_block_ok w3 k n (UInt32.ofNat (1 + i)) ⟨⟨rdO3 hw' hg.1.1 w3 h3,rdO3 hw' hg.1.2 w3 h3⟩,rdO3 hw' hg.2 w3 h3⟩ hk hn) (fun y _=>?_)
        obtain ⟨ya,yc⟩:=y
        have hbl:=blk_length k n (UInt32.ofNat (1 + i))
        have hkin:=fun j hj=>ks_in k n i j hj
        obtain ⟨BL,hBL⟩:∃ BL,blk k n (UInt32.ofNat (1 + i)) = BL:=⟨_,rfl⟩
        rw [hBL] at hbl ⊢
        simp only [hBL] at hkin
        refine s_row (fun hyc _=>?_) (hm:=.head _)
        refine s_y y_mv<|s_y y_len<|s_y (y_slh (j:=((ch:Nat):Int)))<|?_
        rw [Int.toNat_natCast]
        refine s_y y_len<|s_y y_mv<|s_nil<|q_then<|c_block<|?_
        refine c_loop (fun j:Nat=>[(8,.pointer (some ⟨b8,0,none⟩)),(9,.slice (some ⟨g,64 * i,none⟩) ch ch),(26,.slice ya ch yc),(27,I ch),(28,I j)]) (fun j=>[.row ya yc 5 1 64 (bs BL),.blk L (.loop rb),.blk Dk (.deferred (some [])),.blk b63 (.cells #[I 64] 3 (0,0)),.blk b62 (.cells #[.slice (some ⟨g,0,none⟩) q.length c0] 24 (0,0)),.blk b8 (.cells #[W32 (UInt32.ofNat (1 + i))] 267 (0,0)),.row (some ⟨g,0,none⟩) c0 5 1 q.length (bs (cur k n q (64 * i + j))),.blk b4 (.cells (bs n).toArray 202 (0,0)),.blk b3 (.cells (bs k).toArray 23 (0,0))]) (fun j=>j ≤ ch) (fun j=>ch - j) 0 (Nat.zero_le _) ⟨rfl,rfl,rfl,rfl,rfl,trivial⟩ (.refl _) ?_
        intro j hj
        by_cases hjc:j < ch
        · have hcg:=cur_get k n q (t:=64 * i + j) (by omega)
          have hcs:=cur_set k n q (t:=64 * i + j) (by omega)
          have hcl:=cur_length k n q (64 * i + j)
          have hkj:=hkin j (by omega)
          rw [hkj] at hcs
          obtain ⟨CU,hCU⟩:∃ CU,cur k n q (64 * i + j) = CU:=⟨_,rfl⟩
          rw [hCU] at hcg hcs hcl ⊢
          have hrow:∀ {l:SH},Res.row (some ⟨g,0,none⟩) c0 5 1 q.length (bs CU) ∈ l → RdS w' (keys (M 0 { state:=.ready,pending:=none,fn:=fn,tmps:=tm,params:=#[19],assign:=.skip,body:=.skip,defers:=Dk } L Dk)) l (some ⟨g,64 * i,none⟩) (bs (CU.drop (64 * i))):=fun hm=>by
            have h5:=(rdR (W:=w') (Bo:=keys (M 0 { state:=.ready,pending:=none,fn:=fn,tmps:=tm,params:=#[19],assign:=.skip,body:=.skip,defers:=Dk } L Dk)) hm).sa (i:=64 * i) (c:=q.length) (s:=1) (by rw [bs_length]; omega)
            rw [sa_lt (by omega),Nat.mul_one,Nat.zero_add,← bs_drop] at h5
            exact h5
          have hgd:(CU.drop (64 * i)).getD j 0 = q.getD (64 * i + j) 0:=by rw [getD_drop8,hcg]
          refine c_seq<|c_reg<|s_kt (y_lss (p:=((j:Nat):Int)) (q:=((ch:Nat):Int))) (by omega)<|s_nil<|q_then<|c_seq<|c_t<|c_skip<|q_then<|c_seq<|c_block<|c_seq<|c_reg<|s_y y_mv<|s_y (y_ixs1 (xs:=bs BL) (i:=((j:Nat):Int)) (hr:=rdR (.head _)) (hl:=by rw [bs_length]; omega))<|s_y (y_ldb (q:=BL) (i:=j) (hr:=rdR (.head _)) (hi:=by omega))<|s_y y_as<|s_y y_as<|s_nil<|q_then<|c_reg<|s_y y_mv<|s_y y_mv<|s_y (y_ixs1 (xs:=bs (CU.drop (64 * i))) (i:=((j:Nat):Int)) (hr:=hrow (.tail _ (.tail _ (.tail _ (.tail _ (.tail _ (.tail _ (.head _)))))))) (hl:=by rw [bs_length,List.length_drop]; omega))<|s_y (y_ldb (q:=CU.drop (64 * i)) (i:=j) (hr:=hrow (.tail _ (.tail _ (.tail _ (.tail _ (.tail _ (.tail _ (.head _)))))))) (hi:=by rw [List.length_drop]; omega))<|?_
          rw [hgd]
          refine s_y y_mv<|s_y y_xor8<|s_y (y_ixs1 (xs:=bs (CU.drop (64 * i))) (i:=((j:Nat):Int)) (hr:=hrow (.tail _ (.tail _ (.tail _ (.tail _ (.tail _ (.tail _ (.head _)))))))) (hl:=by rw [bs_length,List.length_drop]; omega))<|?_
          rw [show ad (some ⟨g,64 * i,none⟩) ((j:Nat):Int).toNat = ad (some ⟨g,0,none⟩) (64 * i + j) by simp [ad]]
          refine s_str (a:=some ⟨g,0,none⟩) (i:=64 * i + j) (?_) (hi:=by rw [bs_length]; omega)
          rw [bs_lset,hcs]
          refine s_nil<|q_nb<|q_then<|c_reg<|s_y (y_add (p:=((j:Nat):Int)) (q:=1))<|s_y y_mv<|s_nil<|?_
          rw [show ((j:Nat):Int) + 1 = ((j + 1:Nat):Int) by omega]
          exact q_round (j + 1) (by omega) (by omega) ⟨rfl,rfl,rfl,rfl,rfl,trivial⟩ (.refl _)
        · obtain rfl:j = ch:=by omega
          have hnx:cur k n q (64 * i + j) = cur k n q (64 * (i + 1)):=by
            rcases hch1.2.2.2 with h5 | h5
            · rw [show 64 * i + j = 64 * (i + 1) by omega]
            · rw [cur_all k n q (show q.length ≤ 64 * i + j by omega),cur_all k n q (show q.length ≤ 64 * (i + 1) by omega)]
          rw [hnx]
          refine c_seq<|c_reg<|s_kf (y_lss (p:=((j:Nat):Int)) (q:=((j:Nat):Int))) (by omega)<|s_nil<|q_then<|c_seq<|c_f<|c_exit<|q_ex<|q_ex<|q_exb<|q_then<|c_reg<|s_y (y_ld (b:=b8) (v:=W32 (UInt32.ofNat (1 + i))))<|s_y (y_add32 (p:=UInt32.ofNat (1 + i)) (q:=1))<|?_
          rw [ofNat_succ]
          refine s_st (b:=b8) (v:=W32 (UInt32.ofNat (1 + (i + 1)))) (cs:=#[W32 (UInt32.ofNat (1 + i))]) (hl:=Nat.zero_lt_one) ?_
          subst hrb
          exact s_nil<|q_nb<|q_rn (.tail _ (.head _)) fun w3 h3=>⟨(),trivial,rfl,h3.sub (.cons _ (.refl _))⟩
end Go.Proofs.YtegfmbefhpagmaaGreatDoor
end
section
namespace Go.Proofs.YtegfmbefhpagmaaGreatDoor
open Go Eng Sha Cod
def stM (b4 b3 b2 b1:Nat) (key box:List UInt8) (acc:Array Value) (m:Int):SH :=
  [.blk b1 (.cells (bs box).toArray 23 (0,0)),.blk b4 (.cells acc 23 (0,0)),.blk b3 (.cells #[I m] 3 (0,0)),.blk b2 (.cells (bs key).toArray 23 (0,0))]
end Go.Proofs.YtegfmbefhpagmaaGreatDoor
end
section
namespace Eng
open Go Go.RowKit
section
variable {P:Program} {n:Nat} {D:List Deferred} {W:World} {Bo:List Nat} {F:List (Nat × Value)} {l:SH}
  {d:Option Tmp} {ty:TypeId} {ps:String} {af:Array Edge} {g:Option (Nat × Bool)} {x y:Operand} {ta tb e:TypeId}
theorem run_part1 [hf:HT P e true] {by':Nat} [hs:HS P e 1 by'] {cs:Array Value} {v:Value} {i:Nat} (hv:cs[i]? = some v) (w:World):(part e cs i).run P w = .ok v w:=by
  simp [part,run_isAgg hf,run_sizeOf' hs,hv]
theorem eqItems_b [hf:HT P e true] {by':Nat} [hs:HS P e 1 by'] [hi:HU P e (.int .u8)] {p q:List UInt8} (w:World):∀ is:List Nat,(∀ i ∈ is,i < p.length ∧ i < q.length) →
    (Op.eqItems 9999 e 1 (bs p).toArray (bs q).toArray is).run P w = .ok (is.all fun i=>p[i]? == q[i]?) w
  | [],_=>by simp [Op.eqItems]
  | i :: is,h=>by
    obtain ⟨h1,h2⟩:=h i (.head _)
    have e1:(bs p).toArray[i]? = some (B p[i]):=by rw [List.getElem?_toArray,bs_get h1]; simp [List.getD_eq_getElem?_getD,List.getElem?_eq_getElem h1]
    have e2:(bs q).toArray[i]? = some (B q[i]):=by rw [List.getElem?_toArray,bs_get h2]; simp [List.getD_eq_getElem?_getD,List.getElem?_eq_getElem h2]
    have e3:(Op.equalIn 9999 e (B p[i]) (B q[i])).run P w = .ok (((p[i].toNat:Nat):Int) == ((q[i].toNat:Nat):Int)) w:=run_equalIn_int w 9998 e .u8 .u8 _ _ hi.h
    have e4:(((p[i].toNat:Nat):Int) == ((q[i].toNat:Nat):Int)) = (p[i]? == q[i]?):=by
      rw [List.getElem?_eq_getElem h1,List.getElem?_eq_getElem h2]
      by_cases hpq:p[i] = q[i]
      · simp [hpq]
      · have:p[i].toNat ≠ q[i].toNat:=fun e=>hpq (UInt8.toNat_inj.1 e)
        have h5:(((p[i].toNat:Nat):Int) == ((q[i].toNat:Nat):Int)) = false:=by rw [beq_eq_false_iff_ne]; omega
        have h6:(some p[i] == some q[i]) = false:=by simpa using hpq
        rw [h5,h6]
    simp only [Op.eqItems,Sem.run_bind,Nat.mul_one,run_part1 e1,run_part1 e2,Result.andThen_ok,e3,List.all_cons,← e4]
    cases ((p[i].toNat:Nat):Int) == ((q[i].toNat:Nat):Int) with
    | false=>simp
    | true=>simpa using eqItems_b w is fun j hj=>h j (.tail _ hj)
theorem all_eq {p q:List UInt8} {m:Nat} (hp:p.length = m) (hq:q.length = m):((List.range m).all fun i=>p[i]? == q[i]?) = decide (p = q):=by
  by_cases h:p = q
  · subst h; simp
  · rw [decide_eq_false h,List.all_eq_false]
    apply Classical.byContradiction
    intro hc
    refine h (List.ext_getElem? fun i=>?_)
    rcases Nat.lt_or_ge i m with hi | hi
    · apply Classical.byContradiction
      intro hne
      exact hc ⟨i,List.mem_range.2 hi,by simpa using hne⟩
    · rw [List.getElem?_eq_none (by omega),List.getElem?_eq_none (by omega)]
theorem run_eqa {m:Nat} [hu:HU P ta (.array m e)] [hf:HT P e true] {by':Nat} [hs:HS P e 1 by'] [hi:HU P e (.int .u8)] {p q:List UInt8} (hp:p.length = m) (hq:q.length = m) (w:World) :
    (Op.equalIn 10000 ta (.agg (bs p).toArray) (.agg (bs q).toArray)).run P w = .ok (decide (p = q)) w:=by
  obtain ⟨inf,h1,h2,h3⟩:=hs.h
  have h4:=run_equalIn_array w 9999 (bs p).toArray (bs q).toArray hu.h h1
  have h5:P.cellsOf e = 1:=by simp [Program.cellsOf,h1,h2]
  rw [h5,eqItems_b w (List.range m) (fun i hi=>by have:=List.mem_range.1 hi; omega),all_eq hp hq] at h4
  exact h4
theorem y_eqla {m:Nat} [hu:HU P ta (.array m e)] [hf:HT P e true] {by':Nat} [hs:HS P e 1 by'] [hi:HU P e (.int .u8)] {p q:List UInt8} (hp:p.length = m) (hq:q.length = m) (hgd:P.eqGuardType P.depth ta = false)
    (hx:evO F x = some (.agg (bs p).toArray):=by rfl) (hy:evO F y = some (.agg (bs q).toArray):=by rfl):Y P n D W Bo ⟨d,.binOp .eql ta x y tb,ty,ps,af,g⟩ F l (.bool (decide (p = q))) :=
  .mk (by simp) fun ac w ha _=>by
    simp only [execOp,ha.eval hx,ha.eval hy,Sem.run_bind,run_eqGuard_agg w .eql ta x y _ _ hgd,Result.andThen_ok,run_eql_struct,run_eqa hp hq,Sem.run_pure]
end
end Eng
end
section
namespace Eng
open Go Go.RowKit
def K32 (l:List (List UInt8)):Prop:=∀ k ∈ l,k.length = 32
theorem K32.nil:K32 []:=fun _ h=>by cases h
theorem K32.one {k:List UInt8} (h:k.length = 32):K32 [k]:=fun x hx=>by rw [List.mem_singleton] at hx; rw [hx]; exact h
theorem K32.get {l:List (List UInt8)} (h:K32 l) {i:Nat} (hi:i < l.length):(l.getD i []).length = 32:=by
  rw [List.getD_eq_getElem?_getD,List.getElem?_eq_getElem hi]; exact h _ (List.getElem_mem hi)
theorem K32.drop {l:List (List UInt8)} (h:K32 l) (i:Nat):K32 (l.drop i):=fun k hk=>h k (List.mem_of_mem_drop hk)
section
variable {r:Option Nat} {P:Program} {n:Nat} {D:List Deferred} {W:World} {Bo:List Nat} {F:List (Nat × Value)} {l l':SH}
  {d:Option Tmp} {dd:Nat} {ty:TypeId} {ps:String} {af:Array Edge} {g:Option (Nat × Bool)} {x y z:Operand} {v u:Value} {ta tb t e:TypeId}
  {Q:Exit → Act → World → Prop} {ops:Array Oper} {rest:List Oper} {td:TypeDesc} {c:Code}
section
variable {lp:SH} {fuel:Nat} {listed:Array Bool}
theorem r_kt {op:Op} {p:Prop} [dp:Decidable p] (i:Nat) (hi:ops[i]? = some ⟨some dd,op,ty,ps,af,g⟩) (hy:Y P n D W Bo ⟨some dd,op,ty,ps,af,g⟩ F lp (.bool (decide p))) (hp:p) (h:DC P n D W Bo ops Q lp fuel (listed.setIfInBounds i true) ((dd,.bool true) :: F) l)
    (hn:Nat.blt dd n = true:=by rfl) (hg:Wn ops F g:=by first | exact .none | exact .some rfl rfl)
    (hr:(Region.ready .any ops listed).contains i = true:=by kernel_rfl) (hf:Region.free .any ops listed i = true:=by kernel_rfl):DC P n D W Bo ops Q lp (fuel + 1) listed F l :=
  r_y i hi hy (by rw [decide_eq_true hp]; exact h) hn hg hr hf
theorem r_kf {op:Op} {p:Prop} [dp:Decidable p] (i:Nat) (hi:ops[i]? = some ⟨some dd,op,ty,ps,af,g⟩) (hy:Y P n D W Bo ⟨some dd,op,ty,ps,af,g⟩ F lp (.bool (decide p))) (hp:¬ p) (h:DC P n D W Bo ops Q lp fuel (listed.setIfInBounds i true) ((dd,.bool false) :: F) l)
    (hn:Nat.blt dd n = true:=by rfl) (hg:Wn ops F g:=by first | exact .none | exact .some rfl rfl)
    (hr:(Region.ready .any ops listed).contains i = true:=by kernel_rfl) (hf:Region.free .any ops listed i = true:=by kernel_rfl):DC P n D W Bo ops Q lp (fuel + 1) listed F l :=
  r_y i hi hy (by rw [decide_eq_false hp]; exact h) hn hg hr hf
end
end
theorem fillK {k:List UInt8} (h:k.length = 32):fillL (fun i=>some (i * 32,32)) (repL 1 (Value.cells (.agg (List.replicate 32 (.int .u8 0)).toArray)).toList) [(0,.agg (bs k).toArray)] = some (bs k):=by
  have e1:(Value.cells (.agg (bs k).toArray)).toList = bs k:=rfl
  have e2:(repL 1 (Value.cells (.agg (List.replicate 32 (.int .u8 0)).toArray)).toList) = List.replicate 32 (.int .u8 0):=rfl
  rw [e2]
  unfold fillL
  simp only [Nat.zero_mul,e1,bs_length,h,Nat.zero_add,List.length_replicate]
  rw [show (Nat.beq 32 32 && Nat.ble 32 32) = true from rfl]
  simp only [cond_true,List.take_zero,List.nil_append]
  rw [show List.drop 32 (List.replicate 32 (Value.int .u8 0)) = [] from rfl,List.append_nil]
  rfl
end Eng
namespace Go.Proofs.YtegfmbefhpagmaaGreatDoor
open Go Eng Sha Cod
theorem hz32 {k:List UInt8} (h:k.length = 32):(bs k).toArray.size = 32:=by simp [bs_length,h]
theorem mix_length (t a b:List UInt8):(mix t a b).length = 32:=tagged_length _ _
end Go.Proofs.YtegfmbefhpagmaaGreatDoor
end
section
namespace Cha
open Go Eng Sha
abbrev lbTag:List UInt8:=[116,97,103]
def tg (k n h c:List UInt8):List UInt8:=(tagged lbTag (k ++ n ++ be h.length 8 ++ h ++ c)).take 16
theorem tg_length (k n h c:List UInt8):(tg k n h c).length = 16:=by unfold tg; rw [List.length_take,tagged_length]; rfl
theorem sar8 (n k:Nat):UInt8.ofNat (((n:Int) / 2 ^ k) % 256).toNat = UInt8.ofNat (n / 2 ^ k):=by
  apply UInt8.toNat_inj.1
  have e3:(n:Int) / 2 ^ k = ((n / 2 ^ k:Nat):Int):=by simp
  rw [e3,UInt8.toNat_ofNat',UInt8.toNat_ofNat']
  omega
theorem cvn8 (m:Nat):UInt8.ofNat (((m:Nat):Int) % 256).toNat = UInt8.ofNat m:=by
  apply UInt8.toNat_inj.1
  rw [UInt8.toNat_ofNat',UInt8.toNat_ofNat']
  omega
def sealB (k n h b:List UInt8):List UInt8:=strm k n b ++ tg k n h (strm k n b)
theorem sealB_length (k n h b:List UInt8):(sealB k n h b).length = b.length + 16:=by unfold sealB; rw [List.length_append,strm_length,tg_length]
def xs (k n:List UInt8) (i:Nat):List UInt8:=if i = 0 then [] else blk k n (UInt32.ofNat (1 + (i - 1) / 64))
end Cha
namespace Go.Proofs.YtegfmbefhpagmaaGreatDoor
open Go Eng Sha Cha
set_option maxRecDepth 100000
theorem c_eight_ok (w:World) (n:Nat) (hn:n ≤ 1000000):Gives Tryz.prog 186 [I n] w [] (fun y:Option Addr × Nat=>.slice y.1 8 y.2) (fun y=>[.row y.1 y.2 5 1 8 (bs (be n 8))]) (fun _=>True):=by
  have hbl:=be_length n 8
  refine enter Tryz.func186 Tryz.ntmps186 ?_
  refine c_seq<|c_reg<|s_y y_as<|s_nil<|q_then<|c_seq<|c_seq<|c_reg<|s_y y_mv<|s_nil<|q_then<|c_nilrow 5 1<|c_block<|?_
  refine c_loop3 (fun (i:Nat) (a:Option Addr) (c:Nat)=>[(0,I n),(2,.slice a i c),(4,I i)]) (fun i a c=>[.row a c 5 1 i (bs ((be n 8).take i))]) (fun i _ _=>i ≤ 8) (fun i _ _=>8 - i) 0 none 0 (by omega) ⟨rfl,rfl,rfl,trivial⟩ (.refl _) ?_
  intro i a c hi
  by_cases h8:i < 8
  · refine c_seq<|c_reg<|s_kt (y_lss (p:=((i:Nat):Int)) (q:=8)) (by omega)<|s_nil<|q_then<|c_seq<|c_t<|c_skip<|q_then<|c_seq<|c_block<|c_seq<|c_reg<|s_y y_mv<|s_y y_as<|s_nil<|q_then<|c_reg<|s_y y_mv<|s_y y_mv<|s_y y_mv<|s_y (y_mul (p:=8) (q:=((i:Nat):Int)))<|s_y (y_sub (p:=56) (q:=8 * ((i:Nat):Int)))<|?_
    rw [show (56:Int) - 8 * ((i:Nat):Int) = ((56 - 8 * i:Nat):Int) by omega]
    refine s_y (y_sar (p:=((n:Nat):Int)) (q:=((56 - 8 * i:Nat):Int)))<|?_
    rw [Int.toNat_natCast]
    refine s_y y_cv8<|?_
    rw [sar8,show UInt8.ofNat (n / 2 ^ (56 - 8 * i)) = (be n 8).getD i 0 by rw [be_get n 8 i h8,show 8 * (8 - 1 - i) = 56 - 8 * i by omega]]
    refine s_bslr (cs:=bs [(be n 8).getD i 0]) fun b14=>s_app (m:=1) (srcB (q:=[(be n 8).getD i 0]) (rdR (.head _)) rfl) (h1:=fun v hv=>bs_one hv) (hm:=.tail _ (.head _)) (hrep:=fun _ _=>.tail _ (.head _)) fun a15 c15 h15=>?_
    rw [← bs_append,← Eng.take_snoc (be n 8) i 0 (by omega)]
    refine s_y y_as<|s_nil<|q_nb<|q_then<|c_reg<|s_y (y_add (p:=((i:Nat):Int)) (q:=1))<|s_y y_mv<|s_nil<|?_
    rw [show ((i:Nat):Int) + 1 = ((i + 1:Nat):Int) by omega]
    exact q_round3 (x:=i) (y:=a) (z:=c) (i + 1) a15 c15 (by omega) (by omega) ⟨rfl,rfl,rfl,trivial⟩ (.cons _ (.refl _))
  · obtain rfl:i = 8:=by omega
    rw [List.take_of_length_le (by omega)]
    refine c_seq<|c_reg<|s_kf (y_lss (p:=((8:Nat):Int)) (q:=8)) (by omega)<|s_nil<|q_then<|c_seq<|c_f<|c_exit<|q_ex<|q_ex<|q_exb<|q_then<|c_seq<|c_reg<|s_y y_mv<|s_y y_as<|s_nil<|q_then<|c_ret<|?_
    exact ret1 Tryz.results186 rv_t fun w' hw=>⟨(a,c),trivial,rfl,hw⟩
theorem c_tag_ok (w:World) (ha ca:Option Addr) (hc cc:Nat) (k n h c:List UInt8) (hg:LS w) (hk:k.length = 32) (hn:n.length = 12) (hrh:Rd w ha (bs h)) (hrc:Rd w ca (bs c)) (hlh:h.length ≤ 100000) (hlc:c.length ≤ 100000) :
    Gives Tryz.prog 153 [.agg (bs k).toArray,.agg (bs n).toArray,.slice ha h.length hc,.slice ca c.length cc] w [] (fun b:Nat=>.slice (some ⟨b,0,none⟩) 16 32) (fun b=>[.blk b (.cells (bs (tagged lbTag (k ++ n ++ be h.length 8 ++ h ++ c))).toArray 69 (0,0))]) (fun _=>True):=by
  have hbe:=be_length h.length 8
  refine enter Tryz.func153 Tryz.ntmps153 ?_
  refine c_seq<|c_reg<|s_box rfl fun b4=>s_box rfl fun b5=>s_y y_as<|s_nil<|q_then<|c_seq<|c_regL [.blk b5 (.cells (bs n).toArray 202 (0,0)),.blk b4 (.cells (bs k).toArray 23 (0,0))]<|r_y 0 rfl y_sla<|r_y 1 rfl y_sla<|r_y 2 rfl y_mv<|r_y 3 rfl y_len<|r_y 5 rfl y_mv<|r_y 6 rfl y_mv<|r_w2 4 10 rfl rfl ?_ ?_ (hsub:=by repeat (first | exact List.nil_sublist _ | exact List.Sublist.refl _ | apply List.Sublist.cons_cons | apply List.Sublist.cons))
  · refine s_gives (fun w' hw=>c_eight_ok w' h.length (by omega)) fun x14 _=>r_K<|r_w2 7 10 rfl rfl ?_ ?_ (hsub:=by repeat (first | exact List.nil_sublist _ | exact List.Sublist.refl _ | apply List.Sublist.cons_cons | apply List.Sublist.cons))
    · refine s_bslr (cs:=[.slice (some ⟨b4,0,none⟩) 32 32,.slice (some ⟨b5,0,none⟩) 12 12,.slice x14.1 8 x14.2,.slice ha h.length hc,.slice ca c.length cc]) fun b17=>r_K<|r_w2 8 10 rfl rfl ?_ ?_ (hsub:=by repeat (first | exact List.nil_sublist _ | exact List.Sublist.refl _ | apply List.Sublist.cons_cons | apply List.Sublist.cons))
      · refine s_gives (fun w' hw=>slices_Concat_ok w' (some ⟨b17,0,none⟩) 5 [.slice (some ⟨b4,0,none⟩) 32 32,.slice (some ⟨b5,0,none⟩) 12 12,.slice x14.1 8 x14.2,.slice ha h.length hc,.slice ca c.length cc] [k,n,be h.length 8,h,c] (rdR (.head _) w' hw) (by have h9:=(SlL.cons (c:=32) (rd_blkB (e:=23) (.tail _ (.tail _ (.tail _ (.head _)))) w' hw) (SlL.cons (c:=12) (rd_blkB (e:=202) (.tail _ (.tail _ (.head _))) w' hw) (SlL.cons (c:=x14.2) (rdR (.tail _ (.head _)) w' hw) (SlL.cons (c:=hc) (hrh.st hw) (SlL.cons (c:=cc) (hrc.st hw) (SlL.nil w')))))); simp only [hk,hn,be_length h.length 8] at h9; exact h9) (by simp only [List.flatten_cons,List.flatten_nil,List.length_append,List.length_nil]; omega) (show 5 < 1000000000 by decide)) fun x18 _=>?_
        rw [show [k,n,be h.length 8,h,c].flatten = k ++ n ++ (be h.length 8) ++ h ++ c by simp]
        refine r_K<|r_w2 9 10 rfl rfl ?_ ?_ (hsub:=by repeat (first | exact List.nil_sublist _ | exact List.Sublist.refl _ | apply List.Sublist.cons_cons | apply List.Sublist.cons))
        · refine s_pure (fun w' hw=>digest_Tagged_ok w' lbTag x18.1 x18.2 (k ++ n ++ (be h.length 8) ++ h ++ c) (hg.st hw) (by decide) (rdR (.head _) w' hw) (by simp only [List.length_append]; omega))<|r_K<|r_W 10 rfl<|s_alloc fun b9=>r_K<|r_W 11 rfl<|s_sta (b:=b9) (vs:=(bs (tagged lbTag (k ++ n ++ (be h.length 8) ++ h ++ c))).toArray) (cs:=(bs (List.replicate 32 0)).toArray) (h1:=fun v hv=>bs_one (by simpa using hv)) (hl:=((hz32 (tagged_length _ _))).trans ((hz32 List.length_replicate)).symm) (hs1:=(hz32 (tagged_length _ _))) ?_
          refine r_K<|r_E<|q_then<|c_seq<|c_reg<|s_y (y_slah (j:=16))<|s_y y_as<|s_nil<|q_then<|c_ret<|?_
          exact ret1 Tryz.results153 rv_t fun w' hw=>⟨b9,trivial,rfl,hw.sub (.cons_cons _ (List.nil_sublist _))⟩
        · refine s_alloc fun b9=>r_K<|r_W 9 rfl<|s_pure (fun w' hw=>digest_Tagged_ok w' lbTag x18.1 x18.2 (k ++ n ++ (be h.length 8) ++ h ++ c) (hg.st hw) (by decide) (rdR (.tail _ (.head _)) w' hw) (by simp only [List.length_append]; omega))<|r_K<|r_W 11 rfl<|s_sta (b:=b9) (vs:=(bs (tagged lbTag (k ++ n ++ (be h.length 8) ++ h ++ c))).toArray) (cs:=(bs (List.replicate 32 0)).toArray) (h1:=fun v hv=>bs_one (by simpa using hv)) (hl:=((hz32 (tagged_length _ _))).trans ((hz32 List.length_replicate)).symm) (hs1:=(hz32 (tagged_length _ _))) ?_
          refine r_K<|r_E<|q_then<|c_seq<|c_reg<|s_y (y_slah (j:=16))<|s_y y_as<|s_nil<|q_then<|c_ret<|?_
          exact ret1 Tryz.results153 rv_t fun w' hw=>⟨b9,trivial,rfl,hw.sub (.cons_cons _ (List.nil_sublist _))⟩
      · refine s_alloc fun b9=>r_K<|r_W 8 rfl<|s_gives (fun w' hw=>slices_Concat_ok w' (some ⟨b17,0,none⟩) 5 [.slice (some ⟨b4,0,none⟩) 32 32,.slice (some ⟨b5,0,none⟩) 12 12,.slice x14.1 8 x14.2,.slice ha h.length hc,.slice ca c.length cc] [k,n,be h.length 8,h,c] (rdR (.tail _ (.head _)) w' hw) (by have h9:=(SlL.cons (c:=32) (rd_blkB (e:=23) (.tail _ (.tail _ (.tail _ (.tail _ (.head _))))) w' hw) (SlL.cons (c:=12) (rd_blkB (e:=202) (.tail _ (.tail _ (.tail _ (.head _)))) w' hw) (SlL.cons (c:=x14.2) (rdR (.tail _ (.tail _ (.head _))) w' hw) (SlL.cons (c:=hc) (hrh.st hw) (SlL.cons (c:=cc) (hrc.st hw) (SlL.nil w')))))); simp only [hk,hn,be_length h.length 8] at h9; exact h9) (by simp only [List.flatten_cons,List.flatten_nil,List.length_append,List.length_nil]; omega) (show 5 < 1000000000 by decide)) fun x18 _=>?_
        rw [show [k,n,be h.length 8,h,c].flatten = k ++ n ++ (be h.length 8) ++ h ++ c by simp]
        refine r_K<|r_W 9 rfl<|s_pure (fun w' hw=>digest_Tagged_ok w' lbTag x18.1 x18.2 (k ++ n ++ (be h.length 8) ++ h ++ c) (hg.st hw) (by decide) (rdR (.head _) w' hw) (by simp only [List.length_append]; omega))<|r_K<|r_W 11 rfl<|s_sta (b:=b9) (vs:=(bs (tagged lbTag (k ++ n ++ (be h.length 8) ++ h ++ c))).toArray) (cs:=(bs (List.replicate 32 0)).toArray) (h1:=fun v hv=>bs_one (by simpa using hv)) (hl:=((hz32 (tagged_length _ _))).trans ((hz32 List.length_replicate)).symm) (hs1:=(hz32 (tagged_length _ _))) ?_
        refine r_K<|r_E<|q_then<|c_seq<|c_reg<|s_y (y_slah (j:=16))<|s_y y_as<|s_nil<|q_then<|c_ret<|?_
        exact ret1 Tryz.results153 rv_t fun w' hw=>⟨b9,trivial,rfl,hw.sub (.cons _ (.cons_cons _ (List.nil_sublist _)))⟩
    · refine s_alloc fun b9=>r_K<|r_W 7 rfl<|s_bslr (cs:=[.slice (some ⟨b4,0,none⟩) 32 32,.slice (some ⟨b5,0,none⟩) 12 12,.slice x14.1 8 x14.2,.slice ha h.length hc,.slice ca c.length cc]) fun b17=>r_K<|r_W 8 rfl<|s_gives (fun w' hw=>slices_Concat_ok w' (some ⟨b17,0,none⟩) 5 [.slice (some ⟨b4,0,none⟩) 32 32,.slice (some ⟨b5,0,none⟩) 12 12,.slice x14.1 8 x14.2,.slice ha h.length hc,.slice ca c.length cc] [k,n,be h.length 8,h,c] (rdR (.head _) w' hw) (by have h9:=(SlL.cons (c:=32) (rd_blkB (e:=23) (.tail _ (.tail _ (.tail _ (.tail _ (.head _))))) w' hw) (SlL.cons (c:=12) (rd_blkB (e:=202) (.tail _ (.tail _ (.tail _ (.head _)))) w' hw) (SlL.cons (c:=x14.2) (rdR (.tail _ (.tail _ (.head _))) w' hw) (SlL.cons (c:=hc) (hrh.st hw) (SlL.cons (c:=cc) (hrc.st hw) (SlL.nil w')))))); simp only [hk,hn,be_length h.length 8] at h9; exact h9) (by simp only [List.flatten_cons,List.flatten_nil,List.length_append,List.length_nil]; omega) (show 5 < 1000000000 by decide)) fun x18 _=>?_
      rw [show [k,n,be h.length 8,h,c].flatten = k ++ n ++ (be h.length 8) ++ h ++ c by simp]
      refine r_K<|r_W 9 rfl<|s_pure (fun w' hw=>digest_Tagged_ok w' lbTag x18.1 x18.2 (k ++ n ++ (be h.length 8) ++ h ++ c) (hg.st hw) (by decide) (rdR (.head _) w' hw) (by simp only [List.length_append]; omega))<|r_K<|r_W 11 rfl<|s_sta (b:=b9) (vs:=(bs (tagged lbTag (k ++ n ++ (be h.length 8) ++ h ++ c))).toArray) (cs:=(bs (List.replicate 32 0)).toArray) (h1:=fun v hv=>bs_one (by simpa using hv)) (hl:=((hz32 (tagged_length _ _))).trans ((hz32 List.length_replicate)).symm) (hs1:=(hz32 (tagged_length _ _))) ?_
      refine r_K<|r_E<|q_then<|c_seq<|c_reg<|s_y (y_slah (j:=16))<|s_y y_as<|s_nil<|q_then<|c_ret<|?_
      exact ret1 Tryz.results153 rv_t fun w' hw=>⟨b9,trivial,rfl,hw.sub (.cons _ (.cons _ (.cons_cons _ (List.nil_sublist _))))⟩
  · refine s_alloc fun b9=>r_K<|r_W 4 rfl<|s_gives (fun w' hw=>c_eight_ok w' h.length (by omega)) fun x14 _=>r_K<|r_W 7 rfl<|s_bslr (cs:=[.slice (some ⟨b4,0,none⟩) 32 32,.slice (some ⟨b5,0,none⟩) 12 12,.slice x14.1 8 x14.2,.slice ha h.length hc,.slice ca c.length cc]) fun b17=>r_K<|r_W 8 rfl<|s_gives (fun w' hw=>slices_Concat_ok w' (some ⟨b17,0,none⟩) 5 [.slice (some ⟨b4,0,none⟩) 32 32,.slice (some ⟨b5,0,none⟩) 12 12,.slice x14.1 8 x14.2,.slice ha h.length hc,.slice ca c.length cc] [k,n,be h.length 8,h,c] (rdR (.head _) w' hw) (by have h9:=(SlL.cons (c:=32) (rd_blkB (e:=23) (.tail _ (.tail _ (.tail _ (.tail _ (.head _))))) w' hw) (SlL.cons (c:=12) (rd_blkB (e:=202) (.tail _ (.tail _ (.tail _ (.head _)))) w' hw) (SlL.cons (c:=x14.2) (rdR (.tail _ (.head _)) w' hw) (SlL.cons (c:=hc) (hrh.st hw) (SlL.cons (c:=cc) (hrc.st hw) (SlL.nil w')))))); simp only [hk,hn,be_length h.length 8] at h9; exact h9) (by simp only [List.flatten_cons,List.flatten_nil,List.length_append,List.length_nil]; omega) (show 5 < 1000000000 by decide)) fun x18 _=>?_
    rw [show [k,n,be h.length 8,h,c].flatten = k ++ n ++ (be h.length 8) ++ h ++ c by simp]
    refine r_K<|r_W 9 rfl<|s_pure (fun w' hw=>digest_Tagged_ok w' lbTag x18.1 x18.2 (k ++ n ++ (be h.length 8) ++ h ++ c) (hg.st hw) (by decide) (rdR (.head _) w' hw) (by simp only [List.length_append]; omega))<|r_K<|r_W 11 rfl<|s_sta (b:=b9) (vs:=(bs (tagged lbTag (k ++ n ++ (be h.length 8) ++ h ++ c))).toArray) (cs:=(bs (List.replicate 32 0)).toArray) (h1:=fun v hv=>bs_one (by simpa using hv)) (hl:=((hz32 (tagged_length _ _))).trans ((hz32 List.length_replicate)).symm) (hs1:=(hz32 (tagged_length _ _))) ?_
    refine r_K<|r_E<|q_then<|c_seq<|c_reg<|s_y (y_slah (j:=16))<|s_y y_as<|s_nil<|q_then<|c_ret<|?_
    exact ret1 Tryz.results153 rv_t fun w' hw=>⟨b9,trivial,rfl,hw.sub (.cons _ (.cons _ (.cons _ (.cons_cons _ (List.nil_sublist _)))))⟩
end Go.Proofs.YtegfmbefhpagmaaGreatDoor
end
section
namespace Cha
open Go Eng Sha
def opOk (k n h c:List UInt8):Bool:=decide (16 ≤ c.length) && (decide (c.length ≤ 65552) && decide (c.drop (c.length - 16) = tg k n h (c.take (c.length - 16))))
def opB (k n h c:List UInt8):List UInt8:=if opOk k n h c = true then strm k n (c.take (c.length - 16)) else []
theorem sealB_open {k n h b:List UInt8} (hb:b.length ≤ 65536):opOk k n h (sealB k n h b) = true ∧ opB k n h (sealB k n h b) = b:=by
  have hl:=sealB_length k n h b
  have ht:(sealB k n h b).take ((sealB k n h b).length - 16) = strm k n b:=by
    rw [hl,Nat.add_sub_cancel]; unfold sealB; exact List.take_left' (strm_length _ _ _)
  have hd:(sealB k n h b).drop ((sealB k n h b).length - 16) = tg k n h (strm k n b):=by
    rw [hl,Nat.add_sub_cancel]; unfold sealB; exact List.drop_left' (strm_length _ _ _)
  have h1:opOk k n h (sealB k n h b) = true:=by
    unfold opOk
    rw [ht,hd,hl,decide_eq_true (by omega),decide_eq_true (by omega),decide_eq_true rfl]; rfl
  refine ⟨h1,?_⟩
  unfold opB
  rw [if_pos h1,ht,strm_strm]
end Cha
namespace Go.Proofs.YtegfmbefhpagmaaGreatDoor
open Go Eng Sha Cha
set_option maxRecDepth 100000
theorem Equal_ok (w:World) (a a':Option Addr) (m m' c c':Nat) (p q:List UInt8) (hp:p.length = m) (hq:q.length = m') (hr:Rd w a (bs p)) (hr':Rd w a' (bs q)) :
    Pure Tryz.prog 187 [.slice a m c,.slice a' m' c'] w (.bool (decide (p = q))):=by
  refine enter Tryz.func187 Tryz.ntmps187 ?_
  refine c_seq<|c_reg<|s_y y_as<|s_nil<|q_then<|c_seq<|c_reg<|s_y y_mv<|s_y (y_b2s (q:=p) (hr:=rdW0 hr) (hm:=hp))<|s_y y_mv<|s_y (y_b2s (q:=q) (hr:=rdW0 hr') (hm:=hq))<|s_y (y_eqls (a:=sb p) (b:=sb q))<|s_y y_as<|s_nil<|q_then<|c_ret<|?_
  exact ret1 Tryz.results187 rv_t fun w' hw=>⟨by rw [show decide (sb p = sb q) = decide (p = q) from decide_eq_decide.2 sb_inj],hw⟩
section
variable (w:World) (ha ca:Option Addr) (hc cc:Nat) (k n h c:List UInt8) (hk:k.length = 32) (hn:n.length = 12) (hrh:Rd w ha (bs h)) (hlh:h.length ≤ 100000)
include hk hn
include hrh hlh
theorem c_Seal_ok (hg:LC w) (hrc:Rd w ca (bs c)) (hlc:c.length ≤ 65536) :
    Gives Tryz.prog 117 [.agg (bs k).toArray,.agg (bs n).toArray,.slice ha h.length hc,.slice ca c.length cc] w [] (fun y:Option Addr × Nat=>.tuple #[.slice y.1 (c.length + 16) y.2,I 0]) (fun y=>[.row y.1 y.2 5 1 (c.length + 16) (bs (sealB k n h c))]) (fun _=>True):=by
  have hsl:=strm_length k n c
  refine enter Tryz.func117 Tryz.ntmps117 ?_
  refine c_seq<|c_reg<|s_box rfl fun b4=>s_box rfl fun b5=>s_y y_as<|s_y y_as<|s_nil<|q_then<|c_seq<|c_reg<|s_y (y_lda (b:=b4) (cs:=(bs k).toArray) (hl:=hzn hk))<|s_y (y_lda (b:=b5) (cs:=(bs n).toArray) (hl:=hzn hn))<|s_y y_mv<|s_gives (fun w' hw=>c_Stream_ok w' ca cc k n c (hg.st hw) hk hn (hrc.st hw) hlc) (fun y _=>?_)
  obtain ⟨xa,xc⟩:=y
  refine s_y y_mv<|s_y y_ext<|s_y y_ext<|s_y y_as<|s_y y_as<|s_nil<|q_then<|c_seq<|c_seq<|c_reg<|s_y y_mv<|s_nf (y_neq (p:=0) (q:=0)) rfl<|s_nil<|q_then<|c_f<|c_skip<|q_then<|c_seq<|c_reg<|s_y y_mv<|s_y (y_lda (b:=b4) (cs:=(bs k).toArray) (hl:=hzn hk))<|s_y (y_lda (b:=b5) (cs:=(bs n).toArray) (hl:=hzn hn))<|s_y y_mv<|s_y y_mv<|s_gives (fun w' hw=>by
    have h9:=c_tag_ok w' ha xa hc xc k n h (strm k n c) (hg.st hw).1 hk hn (hrh.st hw) (rdR (.head _) w' hw) hlh (by omega)
    rw [hsl] at h9
    exact h9) (fun b25 _=>?_)
  refine s_app (m:=16) (srcB (q:=tg k n h (strm k n c)) (fun w' hw=>(by
    have h9:=((rd_blkB (e:=69) (.head _):RdS w [] _ (some ⟨b25,0,none⟩) (bs (tagged lbTag (k ++ n ++ be h.length 8 ++ h ++ strm k n c)))) w' hw).take 16
    rw [← bs_take] at h9
    exact h9)) (tg_length _ _ _ _)) (h1:=fun v hv=>bs_one hv) (hm:=.tail _ (.head _)) (hrep:=fun _ _=>.tail _ (.head _)) fun a26 c26 h26=>?_
  rw [← bs_append]
  refine s_y y_as<|s_y y_as<|s_nil<|q_then<|c_ret<|?_
  exact ret2 Tryz.results117 rv_t rv_t fun w' hw=>⟨(a26,c26),trivial,rfl,hw.sub (.cons _ (.cons_cons _ (List.nil_sublist _)))⟩
theorem c_Open_no (hg:LC w) (hrc:Rd w ca (bs c)) (hlc:c.length ≤ 100000) (hcc:c.length ≤ cc) (hno:opOk k n h c = false) :
    Pure Tryz.prog 156 [.agg (bs k).toArray,.agg (bs n).toArray,.slice ha h.length hc,.slice ca c.length cc] w (.tuple #[.slice none 0 0,I 60]):=by
  refine enter Tryz.func156 Tryz.ntmps156 ?_
  refine c_seq<|c_reg<|s_box rfl fun b4=>s_box rfl fun b5=>s_y y_as<|s_y y_as<|s_nil<|q_then<|c_seq<|c_reg<|s_y y_mv<|s_y y_len<|s_y (y_sub (p:=((c.length:Nat):Int)) (q:=16))<|s_y y_as<|s_nil<|q_then<|?_
  by_cases h1:c.length < 16
  · refine c_seq<|c_seq<|c_regL []<|r_y 0 rfl y_mv<|r_kt 1 rfl (y_lss (p:=((c.length:Nat):Int) - 16) (q:=0)) (by omega)<|r_y 2 rfl y_mv<|r_no 3 rfl<|r_no 4 rfl<|r_y 5 rfl y_pk<|r_y 6 rfl y_mv<|r_no 7 rfl<|r_no 8 rfl<|r_no 9 rfl<|r_no 10 rfl<|r_no 11 rfl<|r_no 12 rfl<|r_no 13 rfl<|r_no 14 rfl<|r_no 15 rfl<|r_no 16 rfl<|r_no 17 rfl<|r_no 18 rfl<|r_y 19 rfl y_pk<|r_E<|q_then<|c_t<|c_seq<|c_reg<|s_y y_as<|s_y y_as<|s_nil<|q_then<|c_ret<|q_ret<|?_
    exact ret2 Tryz.results156 rv_t rv_t fun w' hw=>⟨rfl,hw.sub (List.nil_sublist _)⟩
  obtain ⟨M,hM⟩:∃ M,c.length - 16 = M:=⟨_,rfl⟩
  rw [show ((c.length:Nat):Int) - 16 = ((M:Nat):Int) by omega]
  by_cases h2:65536 < M
  · refine c_seq<|c_seq<|c_regL []<|r_y 0 rfl y_mv<|r_kf 1 rfl (y_lss (p:=((M:Nat):Int)) (q:=0)) (by omega)<|r_y 2 rfl y_mv<|r_y 3 rfl y_mv<|r_kt 4 rfl (y_gtr (p:=((M:Nat):Int)) (q:=65536)) (by omega)<|r_y 5 rfl y_pk<|r_y 6 rfl y_mv<|r_no 7 rfl<|r_no 8 rfl<|r_no 9 rfl<|r_no 10 rfl<|r_no 11 rfl<|r_no 12 rfl<|r_no 13 rfl<|r_no 14 rfl<|r_no 15 rfl<|r_no 16 rfl<|r_no 17 rfl<|r_no 18 rfl<|r_y 19 rfl y_pk<|r_E<|q_then<|c_t<|c_seq<|c_reg<|s_y y_as<|s_y y_as<|s_nil<|q_then<|c_ret<|q_ret<|?_
    exact ret2 Tryz.results156 rv_t rv_t fun w' hw=>⟨rfl,hw.sub (List.nil_sublist _)⟩
  have hne:decide (c.drop M = tg k n h (c.take M)) = false:=by
    unfold opOk at hno
    rw [decide_eq_true (show 16 ≤ c.length by omega),decide_eq_true (show c.length ≤ 65552 by omega),hM] at hno
    exact hno
  have htl:(c.take M).length = M:=by rw [List.length_take]; omega
  refine c_seq<|c_seq<|c_regL [.blk b5 (.cells (bs n).toArray 202 (0,0)),.blk b4 (.cells (bs k).toArray 23 (0,0))]<|r_y 0 rfl y_mv<|r_kf 1 rfl (y_lss (p:=((M:Nat):Int)) (q:=0)) (by omega)<|r_y 2 rfl y_mv<|r_y 3 rfl y_mv<|r_kf 4 rfl (y_gtr (p:=((M:Nat):Int)) (q:=65536)) (by omega)<|r_y 5 rfl y_pk<|r_y 6 rfl y_mv<|r_y 7 rfl y_mv<|r_y 8 rfl y_mv<|r_y 9 rfl (y_sll (i:=((M:Nat):Int)))<|r_y 10 rfl (y_lda (b:=b4) (cs:=(bs k).toArray) (hl:=hzn hk))<|r_y 11 rfl (y_lda (b:=b5) (cs:=(bs n).toArray) (hl:=hzn hn))<|r_y 12 rfl y_mv<|r_y 13 rfl y_mv<|r_y 14 rfl y_mv<|r_y 15 rfl (y_slh (j:=((M:Nat):Int)))<|?_
  rw [Int.toNat_natCast]
  refine r_W 16 rfl<|s_gives (fun w' hw=>by
    have h9:=c_tag_ok w' ha ca hc cc k n h (c.take M) (hg.st hw).1 hk hn (hrh.st hw) (by have:=(hrc.st hw).take M; rwa [← bs_take] at this) hlh (by omega)
    rw [htl] at h9
    exact h9) (fun b30 _=>?_)
  refine r_K<|r_W 17 rfl<|s_pure (fun w' hw=>(by
    have h9:=Equal_ok w' (sa ca M cc 1) (some ⟨b30,0,none⟩) (c.length - M) 16 (cc - M) 32 (c.drop M) (tg k n h (c.take M)) (by rw [List.length_drop]) (tg_length _ _ _ _) (by have:=(rdW0 (hrc.st hw)).sa (i:=M) (c:=cc) (s:=1) (by rw [bs_length]; omega) w' (St.refl w'); rwa [Nat.mul_one,← bs_drop] at this) (by
      have h9:=((rd_blkB (e:=69) (.head _):RdS w [] _ (some ⟨b30,0,none⟩) (bs (tagged lbTag (k ++ n ++ be h.length 8 ++ h ++ c.take M)))) w' hw).take 16
      rw [← bs_take] at h9
      exact h9)
    rw [hne] at h9
    exact h9))<|r_K<|r_y 18 rfl (y_not (b:=false))<|r_y 19 rfl y_pk<|r_E<|q_then<|c_t<|c_seq<|c_reg<|s_y y_as<|s_y y_as<|s_nil<|q_then<|c_ret<|q_ret<|?_
  exact ret2 Tryz.results156 rv_t rv_t fun w' hw=>⟨rfl,hw.sub (List.nil_sublist _)⟩
theorem c_Open_yes (hg:LC w) (hrc:Rd w ca (bs c)) (hcc:c.length ≤ cc) (hyes:opOk k n h c = true) :
    Gives Tryz.prog 156 [.agg (bs k).toArray,.agg (bs n).toArray,.slice ha h.length hc,.slice ca c.length cc] w [] (fun y:Option Addr × Nat=>.tuple #[.slice y.1 (opB k n h c).length y.2,I 0]) (fun y=>[.row y.1 y.2 5 1 (opB k n h c).length (bs (opB k n h c))]) (fun _=>True):=by
  have hob:opB k n h c = strm k n (c.take (c.length - 16)):=by unfold opB; rw [if_pos hyes]
  obtain ⟨M,hM⟩:∃ M,c.length - 16 = M:=⟨_,rfl⟩
  unfold opOk at hyes
  simp only [Bool.and_eq_true,decide_eq_true_eq] at hyes
  obtain ⟨h1,h2,h3⟩:=hyes
  rw [hM] at h3 hob
  have htl:(c.take M).length = M:=by rw [List.length_take]; omega
  rw [hob,strm_length,htl]
  refine enter Tryz.func156 Tryz.ntmps156 ?_
  refine c_seq<|c_reg<|s_box rfl fun b4=>s_box rfl fun b5=>s_y y_as<|s_y y_as<|s_nil<|q_then<|c_seq<|c_reg<|s_y y_mv<|s_y y_len<|s_y (y_sub (p:=((c.length:Nat):Int)) (q:=16))<|?_
  rw [show ((c.length:Nat):Int) - 16 = ((M:Nat):Int) by omega]
  refine s_y y_as<|s_nil<|q_then<|?_
  refine c_seq<|c_seq<|c_regL [.blk b5 (.cells (bs n).toArray 202 (0,0)),.blk b4 (.cells (bs k).toArray 23 (0,0))]<|r_y 0 rfl y_mv<|r_kf 1 rfl (y_lss (p:=((M:Nat):Int)) (q:=0)) (by omega)<|r_y 2 rfl y_mv<|r_y 3 rfl y_mv<|r_kf 4 rfl (y_gtr (p:=((M:Nat):Int)) (q:=65536)) (by omega)<|r_y 5 rfl y_pk<|r_y 6 rfl y_mv<|r_y 7 rfl y_mv<|r_y 8 rfl y_mv<|r_y 9 rfl (y_sll (i:=((M:Nat):Int)))<|r_y 10 rfl (y_lda (b:=b4) (cs:=(bs k).toArray) (hl:=hzn hk))<|r_y 11 rfl (y_lda (b:=b5) (cs:=(bs n).toArray) (hl:=hzn hn))<|r_y 12 rfl y_mv<|r_y 13 rfl y_mv<|r_y 14 rfl y_mv<|r_y 15 rfl (y_slh (j:=((M:Nat):Int)))<|?_
  rw [Int.toNat_natCast]
  refine r_W 16 rfl<|s_gives (fun w' hw=>by
    have h9:=c_tag_ok w' ha ca hc cc k n h (c.take M) (hg.st hw).1 hk hn (hrh.st hw) (by have:=(hrc.st hw).take M; rwa [← bs_take] at this) hlh (by omega)
    rw [htl] at h9
    exact h9) (fun b30 _=>?_)
  refine r_K<|r_W 17 rfl<|s_pure (fun w' hw=>(by
    have h9:=Equal_ok w' (sa ca M cc 1) (some ⟨b30,0,none⟩) (c.length - M) 16 (cc - M) 32 (c.drop M) (tg k n h (c.take M)) (by rw [List.length_drop]) (tg_length _ _ _ _) (by have:=(rdW0 (hrc.st hw)).sa (i:=M) (c:=cc) (s:=1) (by rw [bs_length]; omega) w' (St.refl w'); rwa [Nat.mul_one,← bs_drop] at this) (by
      have h9:=((rd_blkB (e:=69) (.head _):RdS w [] _ (some ⟨b30,0,none⟩) (bs (tagged lbTag (k ++ n ++ be h.length 8 ++ h ++ c.take M)))) w' hw).take 16
      rw [← bs_take] at h9
      exact h9)
    rw [decide_eq_true h3] at h9
    exact h9))<|r_K<|r_y 18 rfl (y_not (b:=true))<|r_y 19 rfl y_pk<|r_E<|q_then<|c_f<|c_skip<|q_then<|?_
  refine c_seq<|c_regL [.blk b5 (.cells (bs n).toArray 202 (0,0)),.blk b4 (.cells (bs k).toArray 23 (0,0))]<|r_y 0 rfl (y_lda (b:=b4) (cs:=(bs k).toArray) (hl:=hzn hk))<|r_y 1 rfl (y_lda (b:=b5) (cs:=(bs n).toArray) (hl:=hzn hn))<|r_y 2 rfl y_mv<|r_y 3 rfl y_mv<|r_y 4 rfl (y_slh (j:=((M:Nat):Int)))<|?_
  rw [Int.toNat_natCast]
  refine r_W 5 rfl<|s_gives (fun w' hw=>by
    have h9:=c_Stream_ok w' ca cc k n (c.take M) (hg.st hw) hk hn (by have:=(hrc.st hw).take M; rwa [← bs_take] at this) (by omega)
    rw [htl] at h9
    exact h9) (fun y _=>?_)
  obtain ⟨ya,yc⟩:=y
  refine r_K<|r_y 6 rfl y_ext<|r_y 7 rfl y_ext<|r_y 8 rfl y_as<|r_y 9 rfl y_as<|r_E<|q_then<|c_ret<|?_
  exact ret2 Tryz.results156 rv_t rv_t fun w' hw=>⟨(ya,yc),trivial,rfl,hw.sub (.cons_cons _ (List.nil_sublist _))⟩
end
end Go.Proofs.YtegfmbefhpagmaaGreatDoor
end
section
namespace Go.Proofs.YtegfmbefhpagmaaGreatDoor
open Go Eng Gf
theorem gpow_ok (w:World) (b e:Nat) (hb:b < 4611686018427377339) (he:e < 18446744073709551616):Pure Tryz.prog 137 [U b,U e] w (U (pp b e)):=by
  rw [pp_def]; exact group_power_ok w b e hb he
theorem gpowQ_ok (w:World) (b:Nat) (hb:b < 4611686018427377339):Pure Tryz.prog 137 [U b,U 2305843009213688669] w (U (pp b Num.Q)):=gpow_ok w b Num.Q hb (show 2305843009213688669 < 18446744073709551616 by decide)
theorem gCheck_yes (w:World) (x:Nat) (h:El x):Pure Tryz.prog 78 [I x] w (I 0):=by
  have hx0:=h.pos
  have hx1:=h.lt
  refine enter Tryz.func78 Tryz.ntmps78 ?_
  refine c_seq<|c_reg<|s_y y_as<|s_nil<|q_then<|c_seq<|c_seq<|c_reg<|s_y y_mv<|s_kf (y_lss (p:=(x:Int)) (q:=1)) (by have:=h.pos; omega)<|s_y y_mv<|s_y y_mv<|s_kf (y_geq (p:=(x:Int)) (q:=4611686018427377339)) (by have:=h.lt; omega)<|s_y y_pk<|s_y y_mv<|s_y y_mv<|s_y (y_cvn (k:=.u64) (p:=(x:Int)) (hw:=wrap_u64 (by omega) (by omega)))<|s_pure (fun w' hw=>gpowQ_ok w' x (by omega))<|s_nf (y_neq) (by rw [h.one]; rfl)<|s_y y_pk<|s_nil<|q_then<|c_f<|c_skip<|q_then<|c_seq<|c_reg<|s_y y_as<|s_nil<|q_then<|c_ret<|?_
  exact ret1 Tryz.results78 rv_t fun w' hw=>⟨rfl,hw.sub (List.nil_sublist _)⟩
theorem gCheck_in (w:World) (x:Nat) (hx0:0 < x) (hx1:x < 4611686018427377339) (h:¬ pp x Num.Q = 1):Pure Tryz.prog 78 [I x] w (I 40):=by
  refine enter Tryz.func78 Tryz.ntmps78 ?_
  refine c_seq<|c_reg<|s_y y_as<|s_nil<|q_then<|c_seq<|c_seq<|c_reg<|s_y y_mv<|s_kf (y_lss (p:=(x:Int)) (q:=1)) (by omega)<|s_y y_mv<|s_y y_mv<|s_kf (y_geq (p:=(x:Int)) (q:=4611686018427377339)) (by omega)<|s_y y_pk<|s_y y_mv<|s_y y_mv<|s_y (y_cvn (k:=.u64) (p:=(x:Int)) (hw:=wrap_u64 (by omega) (by omega)))<|s_pure (fun w' hw=>gpowQ_ok w' x (by omega))<|s_nt (y_neq) (by omega)<|s_y y_pk<|s_nil<|q_then<|c_t<|c_seq<|c_reg<|s_y y_as<|s_nil<|q_then<|c_ret<|q_ret<|?_
  exact ret1 Tryz.results78 rv_t fun w' hw=>⟨rfl,hw.sub (List.nil_sublist _)⟩
theorem gCheck_lo (w:World) (a:Int) (h:a < 1):Pure Tryz.prog 78 [I a] w (I 40):=by
  refine enter Tryz.func78 Tryz.ntmps78 ?_
  refine c_seq<|c_reg<|s_y y_as<|s_nil<|q_then<|c_seq<|c_seq<|c_reg<|s_y y_mv<|s_kt (y_lss (p:=a) (q:=1)) h<|s_y y_mv<|s_no<|s_no<|s_y y_pk<|s_y y_mv<|s_no<|s_no<|s_no<|s_no<|s_y y_pk<|s_nil<|q_then<|c_t<|c_seq<|c_reg<|s_y y_as<|s_nil<|q_then<|c_ret<|q_ret<|?_
  exact ret1 Tryz.results78 rv_t fun w' hw=>⟨rfl,hw.sub (List.nil_sublist _)⟩
theorem gCheck_hi (w:World) (a:Int) (h:4611686018427377339 ≤ a):Pure Tryz.prog 78 [I a] w (I 40):=by
  refine enter Tryz.func78 Tryz.ntmps78 ?_
  refine c_seq<|c_reg<|s_y y_as<|s_nil<|q_then<|c_seq<|c_seq<|c_reg<|s_y y_mv<|s_kf (y_lss (p:=a) (q:=1)) (by omega)<|s_y y_mv<|s_y y_mv<|s_kt (y_geq (p:=a) (q:=4611686018427377339)) h<|s_y y_pk<|s_y y_mv<|s_no<|s_no<|s_no<|s_no<|s_y y_pk<|s_nil<|q_then<|c_t<|c_seq<|c_reg<|s_y y_as<|s_nil<|q_then<|c_ret<|q_ret<|?_
  exact ret1 Tryz.results78 rv_t fun w' hw=>⟨rfl,hw.sub (List.nil_sublist _)⟩
theorem gCheck_no (w:World) (a:Int) (h:el a = false):Pure Tryz.prog 78 [I a] w (I 40):=by
  by_cases h1:a < 1
  · exact gCheck_lo w a h1
  by_cases h2:4611686018427377339 ≤ a
  · exact gCheck_hi w a h2
  obtain ⟨x,rfl⟩:∃ x:Nat,a = (x:Int):=⟨a.toNat,by omega⟩
  rw [el_of (by omega) (by omega)] at h
  exact gCheck_in w x (by omega) (by omega) (of_decide_eq_false h)
theorem gCheck_ok (w:World) (a:Int):Pure Tryz.prog 78 [I a] w (I (chk a)):=by
  cases h:el a with
  | true =>
    obtain ⟨x,rfl,h0,h1,h2⟩:=el_nat h
    rw [chk,h]
    exact gCheck_yes w x ⟨h0,h1,h2⟩
  | false=>rw [chk,h]; exact gCheck_no w a h
theorem gExp_bad (w:World) (a k:Int) (h:el a = false):Pure Tryz.prog 77 [I a,I k] w (.tuple #[I 0,I 40]):=by
  refine enter Tryz.func77 Tryz.ntmps77 ?_
  refine c_seq<|c_reg<|s_y y_as<|s_y y_as<|s_nil<|q_then<|c_seq<|c_seq<|c_reg<|s_y y_mv<|s_pure (fun w' hw=>gCheck_no w' a h)<|s_y y_as<|s_nil<|q_then<|c_seq<|c_reg<|s_y y_mv<|s_nt (y_neq (p:=40) (q:=0)) (by omega)<|s_nil<|q_then<|c_t<|c_seq<|c_reg<|s_y y_mv<|s_y y_as<|s_y y_as<|s_nil<|q_then<|c_ret<|q_ret<|?_
  exact ret2 Tryz.results77 rv_t rv_t fun w' hw=>⟨rfl,hw.sub (List.nil_sublist _)⟩
theorem gExp_lo (w:World) (x:Nat) (k:Int) (h:El x) (hk:k < 0):Pure Tryz.prog 77 [I x,I k] w (.tuple #[I 0,I 1]):=by
  refine enter Tryz.func77 Tryz.ntmps77 ?_
  refine c_seq<|c_reg<|s_y y_as<|s_y y_as<|s_nil<|q_then<|c_seq<|c_seq<|c_reg<|s_y y_mv<|s_pure (fun w' hw=>gCheck_yes w' x h)<|s_y y_as<|s_nil<|q_then<|c_seq<|c_reg<|s_y y_mv<|s_nf (y_neq (p:=0) (q:=0)) (by omega)<|s_nil<|q_then<|c_f<|c_skip<|q_then<|c_seq<|c_seq<|c_reg<|s_y y_mv<|s_kt (y_lss (p:=k) (q:=0)) (by omega)<|s_y y_mv<|s_no<|s_no<|s_y y_pk<|s_nil<|q_then<|c_t<|c_seq<|c_reg<|s_y y_as<|s_y y_as<|s_nil<|q_then<|c_ret<|q_ret<|?_
  exact ret2 Tryz.results77 rv_t rv_t fun w' hw=>⟨rfl,hw.sub (List.nil_sublist _)⟩
theorem gExp_hi (w:World) (x:Nat) (k:Int) (h:El x) (hk:2305843009213688669 ≤ k):Pure Tryz.prog 77 [I x,I k] w (.tuple #[I 0,I 1]):=by
  refine enter Tryz.func77 Tryz.ntmps77 ?_
  refine c_seq<|c_reg<|s_y y_as<|s_y y_as<|s_nil<|q_then<|c_seq<|c_seq<|c_reg<|s_y y_mv<|s_pure (fun w' hw=>gCheck_yes w' x h)<|s_y y_as<|s_nil<|q_then<|c_seq<|c_reg<|s_y y_mv<|s_nf (y_neq (p:=0) (q:=0)) (by omega)<|s_nil<|q_then<|c_f<|c_skip<|q_then<|c_seq<|c_seq<|c_reg<|s_y y_mv<|s_kf (y_lss (p:=k) (q:=0)) (by omega)<|s_y y_mv<|s_y y_mv<|s_kt (y_geq (p:=k) (q:=2305843009213688669)) (by omega)<|s_y y_pk<|s_nil<|q_then<|c_t<|c_seq<|c_reg<|s_y y_as<|s_y y_as<|s_nil<|q_then<|c_ret<|q_ret<|?_
  exact ret2 Tryz.results77 rv_t rv_t fun w' hw=>⟨rfl,hw.sub (List.nil_sublist _)⟩
theorem gExp_yes (w:World) (x k:Nat) (h:El x) (hk:k < 2305843009213688669):Pure Tryz.prog 77 [I x,I k] w (.tuple #[I (pp x k:Nat),I 0]):=by
  have hx0:=h.pos
  have hx1:=h.lt
  have hpl:=pp_lt x k
  refine enter Tryz.func77 Tryz.ntmps77 ?_
  refine c_seq<|c_reg<|s_y y_as<|s_y y_as<|s_nil<|q_then<|c_seq<|c_seq<|c_reg<|s_y y_mv<|s_pure (fun w' hw=>gCheck_yes w' x h)<|s_y y_as<|s_nil<|q_then<|c_seq<|c_reg<|s_y y_mv<|s_nf (y_neq (p:=0) (q:=0)) (by omega)<|s_nil<|q_then<|c_f<|c_skip<|q_then<|c_seq<|c_seq<|c_reg<|s_y y_mv<|s_kf (y_lss (p:=(k:Int)) (q:=0)) (by omega)<|s_y y_mv<|s_y y_mv<|s_kf (y_geq (p:=(k:Int)) (q:=2305843009213688669)) (by omega)<|s_y y_pk<|s_nil<|q_then<|c_f<|c_skip<|q_then<|c_seq<|c_reg<|s_y y_mv<|s_y (y_cvn (k:=.u64) (p:=(x:Int)) (hw:=wrap_u64 (by omega) (by omega)))<|s_y y_mv<|s_y (y_cvn (k:=.u64) (p:=(k:Int)) (hw:=wrap_u64 (by omega) (by omega)))<|s_pure (fun w' hw=>gpow_ok w' x k (by omega) (by omega))<|s_y (y_cvn (k:=.i64) (p:=((pp x k:Nat):Int)) (hw:=wrap_i64 (by unfold R64; omega)))<|s_y y_as<|s_y y_as<|s_nil<|q_then<|c_ret<|?_
  exact ret2 Tryz.results77 rv_t rv_t fun w' hw=>⟨rfl,hw.sub (List.nil_sublist _)⟩
theorem gExp_ok (w:World) (a k:Int):Pure Tryz.prog 77 [I a,I k] w (.tuple #[I (expV a k),I (expE a k)]):=by
  cases h:el a with
  | false=>rw [expV,expE,h]; exact gExp_bad w a k h
  | true =>
    obtain ⟨x,rfl,h0,h1,h2⟩:=el_nat h
    by_cases hk:k < 0
    · rw [expV,expE,h,sc_lo hk]; exact gExp_lo w x k ⟨h0,h1,h2⟩ hk
    by_cases hk2:2305843009213688669 ≤ k
    · rw [expV,expE,h,sc_hi hk2]; exact gExp_hi w x k ⟨h0,h1,h2⟩ hk2
    obtain ⟨m,rfl⟩:∃ m:Nat,k = (m:Int):=⟨k.toNat,by omega⟩
    rw [expV,expE,h,sc_of (by omega),Int.toNat_natCast,Int.toNat_natCast]
    exact gExp_yes w x m ⟨h0,h1,h2⟩ (by omega)
theorem gBase_ok (w:World) (k:Int):Pure Tryz.prog 19 [I k] w (.tuple #[I (expV 4 k),I (expE 4 k)]):=by
  refine enter Tryz.func19 Tryz.ntmps19 ?_
  refine c_seq<|c_reg<|s_y y_as<|s_y y_as<|s_nil<|q_then<|c_seq<|c_reg<|s_y y_mv<|s_pure (fun w' hw=>gExp_ok w' 4 k)<|s_y y_ext<|s_y y_ext<|s_y y_as<|s_y y_as<|s_nil<|q_then<|c_ret<|?_
  exact ret2 Tryz.results19 rv_t rv_t fun w' hw=>⟨rfl,hw.sub (List.nil_sublist _)⟩
theorem gMul_ok (w:World) (a b:Int):Pure Tryz.prog 149 [I a,I b] w (.tuple #[I (mulV a b),I (mulE a b)]):=by
  refine enter Tryz.func149 Tryz.ntmps149 ?_
  refine c_seq<|c_reg<|s_y y_as<|s_y y_as<|s_nil<|q_then<|c_seq<|c_seq<|c_reg<|s_y y_mv<|s_y y_mv<|s_y (y_blda (cs:=[I a,I b]))<|s_y y_mv<|s_nil<|q_then<|c_block<|?_
  refine c_loop (fun i:Nat=>[(0,I a),(1,I b),(11,.agg #[I a,I b]),(12,I i)]) (fun _=>[]) (fun i=>i ≤ 2 ∧ (0 < i → el a = true) ∧ (1 < i → el b = true)) (fun i=>2 - i) 0 ⟨by omega,fun h=>by omega,fun h=>by omega⟩ ⟨rfl,rfl,rfl,rfl,trivial⟩ (List.Sublist.refl _) ?_
  intro i ⟨hi,hia,hib⟩
  refine c_seq<|c_reg<|s_y (y_lss (p:=i) (q:=2))<|s_nil<|q_then<|c_seq<|c_ifd (fun h13=>?_) (fun h13=>?_)
  · obtain ⟨z,hz,hz0,hz1⟩:∃ z:Int,(#[I a,I b]:Array Value)[i]? = some (I z) ∧ (i = 0 → z = a) ∧ (i = 1 → z = b):=by
      obtain rfl | rfl:i = 0 ∨ i = 1:=by omega
      · exact ⟨a,rfl,fun _=>rfl,fun h=>by omega⟩
      · exact ⟨b,rfl,fun h=>by omega,fun _=>rfl⟩
    refine c_skip<|q_then<|c_seq<|c_block<|c_seq<|c_reg<|s_y (y_ixv (v:=I z) i hz)<|s_y y_as<|s_nil<|q_then<|c_seq<|c_reg<|s_y y_mv<|s_pure (fun w' hw=>gCheck_ok w' z)<|s_y y_as<|s_nil<|q_then<|c_seq<|c_reg<|s_y y_mv<|s_y (y_neq (p:=chk z) (q:=0))<|s_nil<|q_then<|c_ifn (fun h18=>?_) (fun h18=>?_)
    · have hz9:el z = false:=by
        cases h9:el z with
        | false=>rfl
        | true=>exact absurd (by rw [chk,h9]; rfl) h18
      have e1:mulV a b = 0 ∧ mulE a b = 40:=by
        unfold mulV mulE
        obtain rfl | rfl:i = 0 ∨ i = 1:=by omega
        · rw [← hz0 rfl,hz9]; exact ⟨rfl,rfl⟩
        · rw [← hz1 rfl,hz9,Bool.and_false]; exact ⟨rfl,rfl⟩
      have e2:chk z = 40:=by rw [chk,hz9]; rfl
      rw [e1.1,e1.2,e2]
      refine c_seq<|c_reg<|s_y y_mv<|s_y y_as<|s_y y_as<|s_nil<|q_then<|c_ret<|q_retb<|q_ret<|q_ret<|q_retb<|q_ret<|?_
      exact ret2 Tryz.results149 rv_t rv_t fun w' hw=>⟨rfl,hw⟩
    · have hz9:el z = true:=by
        cases h9:el z with
        | true=>rfl
        | false=>rw [chk,h9] at h18; exact absurd h18 (by decide)
      refine c_skip<|q_nb<|q_then<|c_reg<|s_y (y_add (p:=i) (q:=1))<|s_y y_mv<|s_nil<|q_round (i + 1) ⟨by omega,fun _=>?_,fun h=>?_⟩ (by omega) ⟨rfl,rfl,rfl,rfl,trivial⟩ (List.Sublist.refl _)
      · rcases Nat.eq_zero_or_pos i with h0 | h0
        · rw [← hz0 h0]; exact hz9
        · exact hia h0
      · rw [← hz1 (by omega)]; exact hz9
  · obtain ⟨x,rfl,hx0,hx1,hx2⟩:=el_nat (hia (by omega))
    obtain ⟨y,rfl,hy0,hy1,hy2⟩:=el_nat (hib (by omega))
    have e1:mulV (x:Int) (y:Int) = ((x * y % 4611686018427377339:Nat):Int) ∧ mulE (x:Int) (y:Int) = 0:=by
      unfold mulV mulE
      rw [hia (by omega),hib (by omega),Int.toNat_natCast,Int.toNat_natCast]; exact ⟨rfl,rfl⟩
    have hml:x * y % 4611686018427377339 < 4611686018427377339:=Nat.mod_lt _ (by decide)
    rw [e1.1,e1.2]
    refine c_exit<|q_ex<|q_ex<|q_exb<|q_then<|c_seq<|c_reg<|s_y y_mv<|s_y (y_cvn (k:=.u64) (p:=(x:Int)) (hw:=wrap_u64 (by omega) (by omega)))<|s_y y_mv<|s_y (y_cvn (k:=.u64) (p:=(y:Int)) (hw:=wrap_u64 (by omega) (by omega)))<|s_pure (fun w' hw=>group_times_ok w' x y hx1 hy1)<|s_y (y_cvn (k:=.i64) (p:=((x * y % 4611686018427377339:Nat):Int)) (hw:=wrap_i64 (by unfold R64; omega)))<|s_y y_as<|s_y y_as<|s_nil<|q_then<|c_ret<|?_
    exact ret2 Tryz.results149 rv_t rv_t fun w' hw=>⟨rfl,hw⟩
end Go.Proofs.YtegfmbefhpagmaaGreatDoor
end
section
namespace Go.Proofs.YtegfmbefhpagmaaGreatDoor
open Go Eng
theorem maskI (p:Int) (m:Nat) (h:m ≤ 62):((BitVec.ofInt 64 p &&& BitVec.ofInt 64 ((2 ^ m - 1:Nat):Int)).toNat:Int) = p % 2 ^ m:=by
  have h1:(2 ^ m:Nat) ≤ 2 ^ 62:=Nat.pow_le_pow_right (by decide) h
  rw [BitVec.toNat_and,show (BitVec.ofInt 64 ((2 ^ m - 1:Nat):Int)).toNat = 2 ^ m - 1 from bitsn (k:=.i64) (by simp only [IntKind.bits]; omega),Nat.and_two_pow_sub_one_eq_mod,BitVec.toNat_ofInt]
  have h2:(2:Int) ^ m ∣ 2 ^ 64:=⟨2 ^ (64 - m),by rw [← Int.pow_add]; congr 1; omega⟩
  have h3:p % ((2 ^ 64:Nat):Int) % 2 ^ m = p % 2 ^ m:=by rw [show ((2 ^ 64:Nat):Int) = (2:Int) ^ 64 by norm_cast]; exact Int.emod_emod_of_dvd p h2
  rw [Int.natCast_emod,Int.toNat_of_nonneg (Int.emod_nonneg _ (by decide)),Int.natCast_pow]
  exact h3
theorem y_maski (m:Nat) {n:Nat} {D:List Deferred} {W:World} {Bo:List Nat} {F:List (Nat × Value)} {l:SH} {d:Option Tmp} {ty:TypeId} {ps:String} {af:Array Edge} {g:Option (Nat × Bool)} {x y:Operand} {ta tb:TypeId} {P:Program} {p:Int}
    (hx:evO F x = some (I p):=by rfl) (hy:evO F y = some (I ((2 ^ m - 1:Nat):Int)):=by rfl) (h:m ≤ 62:=by decide):Y P n D W Bo ⟨d,.binOp .and ta x y tb,ty,ps,af,g⟩ F l (I (p % 2 ^ m)) :=
  .mk (by simp) fun a w ha _=>by
    have h1:(2:Int) ^ m ≤ 2 ^ 62:=by
      have:(2 ^ m:Nat) ≤ 2 ^ 62:=Nat.pow_le_pow_right (by decide) h
      exact_mod_cast this
    have h0:(0:Int) < 2 ^ m:=by
      have:0 < (2 ^ m:Nat):=Nat.two_pow_pos m
      exact_mod_cast this
    have h2:=Int.emod_nonneg p (show (2:Int) ^ m ≠ 0 by omega)
    have h3:=Int.emod_lt_of_pos p h0
    refine exec_bin P w w _ _ _ _ _ _ _ _ _ _ _ _ ⟨by simp,by simp⟩ ?_
    rw [ha.eval hx,ha.eval hy]
    simp only [binOp,ne_eq,not_true_eq_false,if_false,Op.intBits,Sem.run_pure]
    rw [show IntKind.i64.bits = 64 from rfl,maskI p m h,wrap_i64 (by unfold R64; omega)]
end Go.Proofs.YtegfmbefhpagmaaGreatDoor
end
section
namespace Gf
open Go Eng
def pvB (x:Int):Bool:=decide (1 ≤ x) && decide (x < 2305843009213688669)
theorem pvB_of {n:Nat} (h0:1 ≤ n) (h:n < 2305843009213688669):pvB (n:Int) = true:=by unfold pvB; rw [decide_eq_true (by omega),decide_eq_true (by omega)]; rfl
def k5N (n:Int):Nat:=1 + (n % 4611686018427387904).toNat % 2305843009213688669 % 2305843009213688668
theorem k5N_pos (n:Int):1 ≤ k5N n:=by unfold k5N; omega
theorem k5N_lt (n:Int):k5N n < 2305843009213688669:=by
  have:=Nat.mod_lt ((n % 4611686018427387904).toNat % 2305843009213688669) (show 0 < 2305843009213688668 by decide)
  unfold k5N; omega
end Gf
namespace Wr
open Go Eng Sha Cha
abbrev lbWrap:List UInt8:=[119,114,97,112]
def raw (p u v:Nat):List UInt8:=be p 8 ++ be u 8 ++ be v 8
theorem raw_length (p u v:Nat):(raw p u v).length = 24:=by unfold raw; rw [List.length_append,List.length_append,be_length,be_length,be_length]
def wkey (p u v:Nat):List UInt8:=tagged lbWrap (raw p u v)
theorem wkey_length (p u v:Nat):(wkey p u v).length = 32:=tagged_length _ _
theorem be_at (n:Nat) {k:Nat} (hk:k < 8):(be n 8).getD k 0 = UInt8.ofNat (n / 2 ^ (56 - 8 * k)):=by rw [be_get n 8 k hk,show 8 * (8 - 1 - k) = 56 - 8 * k by omega]
theorem raw_at (p u v:Nat) {i k:Nat} (hi:i < 3) (hk:k < 8):(raw p u v).getD (8 * i + k) 0 = UInt8.ofNat (([p,u,v].getD i 0) / 2 ^ (56 - 8 * k)):=by
  have hp:=be_length p 8
  have hu:=be_length u 8
  have hv:=be_length v 8
  unfold raw
  rw [List.getD_eq_getElem?_getD]
  match i,hi with
  | 0,_ =>
    rw [List.append_assoc,List.getElem?_append_left (by omega),← List.getD_eq_getElem?_getD,show 8 * 0 + k = k by omega,be_at p hk]; rfl
  | 1,_ =>
    rw [List.append_assoc,List.getElem?_append_right (by omega),List.getElem?_append_left (by omega),← List.getD_eq_getElem?_getD,show 8 * 1 + k - (be p 8).length = k by omega,be_at u hk]; rfl
  | 2,_ =>
    rw [List.getElem?_append_right (by rw [List.length_append]; omega),← List.getD_eq_getElem?_getD,show 8 * 2 + k - (be p 8 ++ be u 8).length = k by rw [List.length_append]; omega,be_at v hk]; rfl
noncomputable def wchk (u:Int) (n:Nat):Int:=if Gf.el u = true ∧ 16 ≤ n ∧ n ≤ 65552 then 0 else 90
abbrev z12:List UInt8:=List.replicate 12 0
end Wr
namespace Go.Proofs.YtegfmbefhpagmaaGreatDoor
open Go Eng Gf Sha Cha Wr Cod
set_option maxRecDepth 100000
theorem gBase_el (w:World) (k:Nat) (h:k < 2305843009213688669):Pure Tryz.prog 19 [I k] w (.tuple #[I (pp 4 k:Nat),I 0]):=by
  have h9:=gBase_ok w (k:Int)
  rw [show expV 4 (k:Int) = ((pp 4 k:Nat):Int) by unfold expV; rw [show el 4 = true from El.four.el,sc_of h]; rfl,show expE 4 (k:Int) = 0 by unfold expE; rw [show el 4 = true from El.four.el,sc_of h]; rfl] at h9
  exact h9
theorem sValid_ok (w:World) (x:Int):Pure Tryz.prog 25 [I x] w (.bool (pvB x)):=by
  refine enter Tryz.func25 Tryz.ntmps25 ?_
  refine c_seq<|c_reg<|s_y y_as<|s_nil<|q_then<|c_seq<|c_reg<|s_y y_mv<|?_
  by_cases h:1 ≤ x
  · rw [pvB,decide_eq_true h,Bool.true_and]
    refine s_kt (y_geq (p:=x) (q:=1)) h<|s_y y_mv<|s_y y_mv<|s_y (y_lss (p:=x) (q:=2305843009213688669))<|s_y y_pk<|s_y y_as<|s_nil<|q_then<|c_ret<|?_
    exact ret1 Tryz.results25 rv_t fun w' hw=>⟨rfl,hw⟩
  · rw [pvB,decide_eq_false h,Bool.false_and]
    refine s_kf (y_geq (p:=x) (q:=1)) h<|s_y y_mv<|s_no<|s_no<|s_y y_pk<|s_y y_as<|s_nil<|q_then<|c_ret<|?_
    exact ret1 Tryz.results25 rv_t fun w' hw=>⟨rfl,hw⟩
theorem sKeyPublic (w:World) (x:Nat) (h:x < 2305843009213688669):Pure Tryz.prog 26 [I x] w (I (pp 4 x:Nat)):=by
  refine enter Tryz.func26 Tryz.ntmps26 ?_
  refine c_seq<|c_reg<|s_y y_as<|s_nil<|q_then<|c_seq<|c_reg<|s_y y_mv<|s_pure (fun w' hw=>gBase_el w' x h)<|s_y y_mv<|s_y y_ext<|s_y y_ext<|s_y y_as<|s_y y_as<|s_nil<|q_then<|c_seq<|c_reg<|s_y y_mv<|s_y y_as<|s_nil<|q_then<|c_ret<|?_
  exact ret1 Tryz.results26 rv_t fun w' hw=>⟨rfl,hw⟩
theorem sPublic_yes (w:World) (x:Nat) (h0:1 ≤ x) (h:x < 2305843009213688669):Pure Tryz.prog 7 [I x] w (.tuple #[I (pp 4 x:Nat),I 0]):=by
  refine enter Tryz.func7 Tryz.ntmps7 ?_
  refine c_seq<|c_reg<|s_y y_as<|s_y y_as<|s_nil<|q_then<|c_seq<|c_seq<|c_reg<|s_y y_mv<|s_pure (fun w' hw=>(by have h9:=sValid_ok w' (x:Int); rw [pvB_of h0 h] at h9; exact h9))<|s_y (v:=.bool false) (y_not (b:=true))<|s_nil<|q_then<|c_f<|c_skip<|q_then<|c_seq<|c_reg<|s_y y_mv<|s_pure (fun w' hw=>sKeyPublic w' x h)<|s_y y_as<|s_y y_as<|s_nil<|q_then<|c_ret<|?_
  exact ret2 Tryz.results7 rv_t rv_t fun w' hw=>⟨rfl,hw⟩
theorem r3_Of_ok (w:World) (n:Int):Pure Tryz.prog 24 [I n] w (I ((n % 4611686018427387904).toNat % 2305843009213688669:Nat)):=by
  have h0:=Int.emod_nonneg n (show (4611686018427387904:Int) ≠ 0 by decide)
  have h1:=Int.emod_lt_of_pos n (show (0:Int) < 4611686018427387904 by decide)
  refine enter Tryz.func24 Tryz.ntmps24 ?_
  refine c_seq<|c_reg<|s_y y_as<|s_nil<|q_then<|c_seq<|c_reg<|s_y y_mv<|s_y (y_maski 62 (p:=n))<|?_
  rw [show (2:Int) ^ 62 = 4611686018427387904 by decide]
  refine s_y (y_rem (p:=n % 4611686018427387904) (q:=2305843009213688669))<|?_
  rw [show n % 4611686018427387904 % 2305843009213688669 = (((n % 4611686018427387904).toNat % 2305843009213688669:Nat):Int) by omega]
  refine s_y y_as<|s_nil<|q_then<|c_ret<|?_
  exact ret1 Tryz.results24 rv_t fun w' hw=>⟨rfl,hw⟩
theorem r5_Key_ok (w:World) (n:Int):Pure Tryz.prog 6 [I n] w (I (k5N n:Nat)):=by
  refine enter Tryz.func6 Tryz.ntmps6 ?_
  have hlt:=Nat.mod_lt (n % 4611686018427387904).toNat (show 0 < 2305843009213688669 by decide)
  refine c_seq<|c_reg<|s_y y_as<|s_nil<|q_then<|c_seq<|c_reg<|s_y y_mv<|s_pure (fun w' hw=>r3_Of_ok w' n)<|?_
  rw [show k5N n = 1 + (n % 4611686018427387904).toNat % 2305843009213688669 % 2305843009213688668 from rfl]
  generalize (n % 4611686018427387904).toNat % 2305843009213688669 = z at *
  refine s_y (y_rem (p:=((z:Nat):Int)) (q:=2305843009213688668))<|s_y (y_add (p:=1) (q:=((z:Nat):Int) % 2305843009213688668))<|?_
  rw [show (1:Int) + ((z:Nat):Int) % 2305843009213688668 = ((1 + z % 2305843009213688668:Nat):Int) by omega]
  refine s_y y_as<|s_nil<|q_then<|c_ret<|?_
  exact ret1 Tryz.results6 rv_t fun w' hw=>⟨rfl,hw⟩
theorem w_key_ok (w:World) {kf:FuncId} [hkf:HF Tryz.prog kf] (b p u v:Nat) (e:Int) (hg:LS w) (hp:p < 9223372036854775808) (hu:u < 9223372036854775808) (hv:v < 9223372036854775808)
    (hcl:∀ w',St w [] w' [] → Pure Tryz.prog kf [I e,.pointer (some ⟨b,0,none⟩)] w' (.tuple #[I v,I 0])) :
    Pure Tryz.prog 118 [.agg #[I p,.func (.func kf) #[] #[.pointer (some ⟨b,0,none⟩)]],I u,I e] w (.agg (bs (wkey p u v)).toArray):=by
  have hrl:=raw_length p u v
  refine enter Tryz.func118 Tryz.ntmps118 ?_
  refine c_seq<|c_reg<|s_box rfl fun b3=>s_alloc fun b6=>s_nil<|q_then<|c_seq<|c_reg<|s_y y_fa<|s_y (y_ld (b:=b3) (v:=.func (.func kf) #[] #[.pointer (some ⟨b,0,none⟩)]))<|s_y y_mv<|s_pure (fun w' hw=>hcl w' (hw.sub (List.nil_sublist _)))<|s_y y_mv<|s_y y_ext<|s_y y_ext<|s_y y_as<|s_y y_as<|s_nil<|q_then<|c_seq<|c_reg<|s_alloc fun b9=>s_nil<|q_then<|c_seq<|c_seq<|c_reg<|s_y y_fa<|s_y (y_ld (b:=b3) (v:=I p))<|s_y y_mv<|s_y y_mv<|s_y (y_blda (cs:=[I p,I u,I v]))<|s_y y_mv<|s_nil<|q_then<|c_block<|?_
  refine c_loop (fun i:Nat=>[(6,.pointer (some ⟨b6,0,none⟩)),(9,.pointer (some ⟨b9,0,none⟩)),(24,.agg #[I p,I u,I v]),(25,I i)]) (fun i=>[.blk b9 (.cells (bs ((raw p u v).take (8 * i) ++ (List.replicate 24 0).drop (8 * i))).toArray 243 (0,0)),.blk b6 (.cells (bs (List.replicate 32 0)).toArray 23 (0,0))]) (fun i=>i ≤ 3) (fun i=>3 - i) 0 (by omega) ⟨rfl,rfl,rfl,rfl,trivial⟩ (.cons_cons _ (.cons_cons _ (List.nil_sublist _))) ?_
  intro i hi
  by_cases h3:i < 3
  · obtain ⟨z,hz⟩:∃ z,[p,u,v].getD i 0 = z:=⟨_,rfl⟩
    have hix:(#[I p,I u,I v]:Array Value)[i]? = some (I (z:Int)):=by
      match i,h3 with
      | 0,_=>rw [← hz]; rfl
      | 1,_=>rw [← hz]; rfl
      | 2,_=>rw [← hz]; rfl
    have hzl:z < 9223372036854775808:=by
      match i,h3 with
      | 0,_=>rw [← hz]; exact hp
      | 1,_=>rw [← hz]; exact hu
      | 2,_=>rw [← hz]; exact hv
    refine c_seq<|c_reg<|s_kt (y_lss (p:=((i:Nat):Int)) (q:=3)) (by omega)<|s_nil<|q_then<|c_seq<|c_t<|c_skip<|q_then<|c_seq<|c_block<|c_seq<|c_reg<|s_y y_mv<|s_y (y_ixv (v:=I (z:Int)) i hix)<|s_y y_as<|s_y y_as<|s_nil<|q_then<|c_seq<|c_reg<|s_y y_mv<|s_nil<|q_then<|c_block<|?_
    refine c_loop (fun j:Nat=>[(6,.pointer (some ⟨b6,0,none⟩)),(9,.pointer (some ⟨b9,0,none⟩)),(10,I i),(11,I z),(24,.agg #[I p,I u,I v]),(25,I i),(29,I j)]) (fun j=>[.blk b9 (.cells (bs ((raw p u v).take (8 * i + j) ++ (List.replicate 24 0).drop (8 * i + j))).toArray 243 (0,0)),.blk b6 (.cells (bs (List.replicate 32 0)).toArray 23 (0,0))]) (fun j=>j ≤ 8) (fun j=>8 - j) 0 (by omega) ⟨rfl,rfl,rfl,rfl,rfl,rfl,rfl,trivial⟩ (.refl _) ?_
    intro j hj
    by_cases h8:j < 8
    · have hat:=raw_at p u v h3 h8
      rw [hz] at hat
      have hset:=mix_set (raw p u v) (List.replicate 24 (0:UInt8)) 0 (UInt8.ofNat (z / 2 ^ (56 - 8 * j))) (8 * i + j) (by rw [List.length_replicate]; omega) (by rw [hrl,List.length_replicate]) hat
      refine c_seq<|c_reg<|s_kt (y_lss (p:=((j:Nat):Int)) (q:=8)) (by omega)<|s_nil<|q_then<|c_seq<|c_t<|c_skip<|q_then<|c_seq<|c_block<|c_seq<|c_reg<|s_y y_mv<|s_y y_as<|s_nil<|q_then<|c_reg<|s_y y_mv<|s_y (y_mul (p:=8) (q:=((i:Nat):Int)))<|s_y y_mv<|s_y (y_add (p:=8 * ((i:Nat):Int)) (q:=((j:Nat):Int)))<|s_y y_mv<|s_y (y_cvn (k:=.u64) (p:=((z:Nat):Int)) (hw:=wrap_u64 (by omega) (by omega)))<|s_y y_mv<|s_y (y_mul (p:=8) (q:=((j:Nat):Int)))<|s_y (y_sub (p:=56) (q:=8 * ((j:Nat):Int)))<|?_
      rw [show (56:Int) - 8 * ((j:Nat):Int) = ((56 - 8 * j:Nat):Int) by omega]
      refine s_y (y_shr (p:=z) (q:=((56 - 8 * j:Nat):Int)))<|?_
      rw [Int.toNat_natCast]
      refine s_y y_cv8<|?_
      rw [cvn8]
      refine s_y (y_ixn (8 * i + j) (m:=24))<|s_stb (?_) (hl:=by rw [List.length_append,List.length_take,List.length_drop,hrl,List.length_replicate]; omega)
      rw [hset]
      refine s_nil<|q_nb<|q_then<|c_reg<|s_y (y_add (p:=((j:Nat):Int)) (q:=1))<|s_y y_mv<|s_nil<|?_
      rw [show ((j:Nat):Int) + 1 = ((j + 1:Nat):Int) by omega,show 8 * i + j + 1 = 8 * i + (j + 1) by omega]
      exact q_round (j + 1) (by omega) (by omega) ⟨rfl,rfl,rfl,rfl,rfl,rfl,rfl,trivial⟩ (.refl _)
    · obtain rfl:j = 8:=by omega
      rw [show 8 * i + 8 = 8 * (i + 1) by omega]
      refine c_seq<|c_reg<|s_kf (y_lss (p:=((8:Nat):Int)) (q:=8)) (by omega)<|s_nil<|q_then<|c_seq<|c_f<|c_exit<|q_ex<|q_ex<|q_exb<|q_nb<|q_then<|c_reg<|s_y (y_add (p:=((i:Nat):Int)) (q:=1))<|s_y y_mv<|s_nil<|?_
      rw [show ((i:Nat):Int) + 1 = ((i + 1:Nat):Int) by omega]
      exact q_round (i + 1) (by omega) (by omega) ⟨rfl,rfl,rfl,rfl,trivial⟩ (.refl _)
  · obtain rfl:i = 3:=by omega
    rw [List.take_of_length_le (by omega),List.drop_eq_nil_of_le (by rw [List.length_replicate]; omega),List.append_nil]
    refine c_seq<|c_reg<|s_kf (y_lss (p:=((3:Nat):Int)) (q:=3)) (by omega)<|s_nil<|q_then<|c_seq<|c_f<|c_exit<|q_ex<|q_ex<|q_exb<|q_then<|c_seq<|c_reg<|s_y y_sla<|s_pure (fun w' hw=>(by
      have h9:=digest_Tagged_ok w' lbWrap (some ⟨b9,0,none⟩) 24 (raw p u v) (hg.st hw) (by decide) (rd_blkB (e:=243) (.head _) w' hw) (by omega)
      rw [hrl] at h9
      exact h9))<|s_sta (b:=b6) (vs:=(bs (wkey p u v)).toArray) (cs:=(bs (List.replicate 32 0)).toArray) (h1:=fun v hv=>bs_one (by simpa using hv)) (hl:=((hz32 (wkey_length _ _ _))).trans ((hz32 List.length_replicate)).symm) (hs1:=(hz32 (wkey_length _ _ _))) ?_
    refine s_nil<|q_then<|c_ret<|?_
    exact ret1 Tryz.results118 (rv_ca (b:=b6) (hl:=hz32 (wkey_length _ _ _))) fun w' hw=>⟨rfl,hw.sub (List.nil_sublist _)⟩
theorem w_Check_ok (w:World) (u:Int) (a:Option Addr) (n c:Nat) (hn:n < 1000000000000000000):Pure Tryz.prog 154 [.agg #[I u,.slice a n c]] w (I (wchk u n)):=by
  refine enter Tryz.func154 Tryz.ntmps154 ?_
  refine c_seq<|c_reg<|s_box rfl fun b1=>s_y y_as<|s_nil<|q_then<|c_seq<|c_seq<|c_reg<|s_y y_fa<|s_y (y_ld (b:=b1) (v:=.slice a n c))<|s_y y_len<|s_y y_as<|s_nil<|q_then<|c_seq<|c_reg<|s_y y_fa<|s_y (y_ld (b:=b1) (v:=I u))<|s_pure (fun w' hw=>gCheck_ok w' u)<|?_
  cases h:el u with
  | false =>
    rw [show wchk u n = 90 by rw [wchk,if_neg (by rw [h]; simp)],show chk u = 40 by rw [chk,h]; rfl]
    refine s_nt (y_neq (p:=40) (q:=0)) (by decide)<|s_y y_mv<|s_no<|s_no<|s_y y_pk<|s_y y_mv<|s_no<|s_no<|s_y y_pk<|s_nil<|q_then<|c_t<|c_seq<|c_reg<|s_y y_as<|s_nil<|q_then<|c_ret<|q_ret<|?_
    exact ret1 Tryz.results154 rv_t fun w' hw=>⟨rfl,hw.sub (List.nil_sublist _)⟩
  | true =>
    rw [show chk u = 0 by rw [chk,h]; rfl]
    by_cases h1:n < 16
    · rw [show wchk u n = 90 by rw [wchk,if_neg (by omega)]]
      refine s_nf (y_neq (p:=0) (q:=0)) rfl<|s_y y_mv<|s_y y_mv<|s_kt (y_lss (p:=((n:Nat):Int)) (q:=16)) (by omega)<|s_y y_pk<|s_y y_mv<|s_no<|s_no<|s_y y_pk<|s_nil<|q_then<|c_t<|c_seq<|c_reg<|s_y y_as<|s_nil<|q_then<|c_ret<|q_ret<|?_
      exact ret1 Tryz.results154 rv_t fun w' hw=>⟨rfl,hw.sub (List.nil_sublist _)⟩
    by_cases h2:65552 < n
    · rw [show wchk u n = 90 by rw [wchk,if_neg (by omega)]]
      refine s_nf (y_neq (p:=0) (q:=0)) rfl<|s_y y_mv<|s_y y_mv<|s_kf (y_lss (p:=((n:Nat):Int)) (q:=16)) (by omega)<|s_y y_pk<|s_y y_mv<|s_y y_mv<|s_kt (y_gtr (p:=((n:Nat):Int)) (q:=65552)) (by omega)<|s_y y_pk<|s_nil<|q_then<|c_t<|c_seq<|c_reg<|s_y y_as<|s_nil<|q_then<|c_ret<|q_ret<|?_
      exact ret1 Tryz.results154 rv_t fun w' hw=>⟨rfl,hw.sub (List.nil_sublist _)⟩
    · rw [show wchk u n = 0 by rw [wchk,if_pos ⟨h,by omega,by omega⟩]]
      refine s_nf (y_neq (p:=0) (q:=0)) rfl<|s_y y_mv<|s_y y_mv<|s_kf (y_lss (p:=((n:Nat):Int)) (q:=16)) (by omega)<|s_y y_pk<|s_y y_mv<|s_y y_mv<|s_kf (y_gtr (p:=((n:Nat):Int)) (q:=65552)) (by omega)<|s_y y_pk<|s_nil<|q_then<|c_f<|c_skip<|q_then<|c_seq<|c_reg<|s_y y_as<|s_nil<|q_then<|c_ret<|?_
      exact ret1 Tryz.results154 rv_t fun w' hw=>⟨rfl,hw.sub (List.nil_sublist _)⟩
end Go.Proofs.YtegfmbefhpagmaaGreatDoor
end
section
namespace Wr
open Go Eng Sha Cha Gf Cod Go.Proofs.YtegfmbefhpagmaaGreatDoor
def wr (s:List UInt8):Nat:=dscal s lbWrap
noncomputable def wU (s:List UInt8):Nat:=pp 4 (wr s)
noncomputable def wK (p:Nat) (s:List UInt8):List UInt8:=wkey p (wU s) (pp p (wr s))
noncomputable def wB (p:Nat) (s h b:List UInt8):List UInt8:=sealB (wK p s) z12 h b
theorem wB_length (p:Nat) (s h b:List UInt8):(wB p s h b).length = b.length + 16:=sealB_length _ _ _ _
theorem wr_lt (s:List UInt8):wr s < 2305843009213688669:=(scal_lt _ _).2
theorem pp63 (a k:Nat):pp a k < 9223372036854775808:=Nat.lt_trans (pp_lt a k) (by decide)
theorem El.l63 {x:Nat} (h:El x):x < 9223372036854775808:=Nat.lt_trans h.lt (by decide)
noncomputable def uK (x u:Nat):List UInt8:=wkey (pp 4 x) u (pp u x)
theorem el_El {u:Int} (h:el u = true):∃ x:Nat,u = (x:Int) ∧ El x:=by
  obtain ⟨x,e,h0,h1,h2⟩:=el_nat h
  exact ⟨x,e,⟨h0,h1,h2⟩⟩
theorem wchk_0 {u:Int} {n:Nat} (h:wchk u n = 0):∃ x:Nat,u = (x:Int) ∧ El x ∧ 16 ≤ n ∧ n ≤ 65552:=by
  unfold wchk at h
  by_cases h1:el u = true ∧ 16 ≤ n ∧ n ≤ 65552
  · obtain ⟨x,e,hx⟩:=el_El h1.1
    exact ⟨x,e,hx,h1.2⟩
  · rw [if_neg h1] at h; cases h
theorem wchk_ne {u:Int} {n:Nat} (h:wchk u n ≠ 0):wchk u n = 90:=by
  unfold wchk at h ⊢
  split
  · rename_i h1; rw [if_pos h1] at h; exact absurd rfl h
  · rfl
end Wr
namespace Go.Proofs.YtegfmbefhpagmaaGreatDoor
open Go Eng Gf Sha Cha Wr Cod
set_option maxRecDepth 100000
theorem y_bside {n:Nat} {D:List Deferred} {W:World} {Bo:List Nat} {F:List (Nat × Value)} {l:SH} {d:Option Tmp} {ty:TypeId} {ps:String} {af:Array Edge} {g:Option (Nat × Bool)} {parts:Array (Nat × Operand)} {vs:List (Nat × Value)} {cs:List Value}
    (hp:evP F parts.toList = some vs:=by rfl) (hf:fillL (fun i=>(#[(0,1),(1,1)]:Array (Nat × Nat))[i]?) [I 0,.nilFunc] vs = some cs:=by rfl) :
    Y Tryz.prog n D W Bo ⟨d,.build 198 parts,ty,ps,af,g⟩ F l (.agg cs.toArray) :=
  y_blds Tryz.underlying198 (fun w=>by kernel_rfl) hp hf
theorem y_bwrap {n:Nat} {D:List Deferred} {W:World} {Bo:List Nat} {F:List (Nat × Value)} {l:SH} {d:Option Tmp} {ty:TypeId} {ps:String} {af:Array Edge} {g:Option (Nat × Bool)} {parts:Array (Nat × Operand)} {vs:List (Nat × Value)} {cs:List Value}
    (hp:evP F parts.toList = some vs:=by rfl) (hf:fillL (fun i=>(#[(0,1),(1,1)]:Array (Nat × Nat))[i]?) [I 0,.slice none 0 0] vs = some cs:=by rfl) :
    Y Tryz.prog n D W Bo ⟨d,.build 114 parts,ty,ps,af,g⟩ F l (.agg cs.toArray) :=
  y_blds Tryz.underlying114 (fun w=>by kernel_rfl) hp hf
theorem Wrap1_ok (w:World) (b a r:Nat) (ha:El a) (hr:r < 2305843009213688669) (hb:Rd w (some ⟨b,0,none⟩) [I r]):Pure Tryz.prog 116 [I a,.pointer (some ⟨b,0,none⟩)] w (.tuple #[I (pp a r:Nat),I 0]):=by
  refine enter Tryz.func116 Tryz.ntmps116 ?_
  refine c_seq<|c_reg<|s_y y_as<|s_y y_as<|s_nil<|q_then<|c_seq<|c_reg<|s_y y_mv<|s_y (y_ldr (a:=some ⟨b,0,none⟩) (i:=0) (xs:=[I r]) (v:=I r) rfl rfl (rdW0 hb))<|s_pure (fun w' hw=>gExp_yes w' a r ha hr)<|s_y y_ext<|s_y y_ext<|s_y y_as<|s_y y_as<|s_nil<|q_then<|c_ret<|?_
  exact ret2 Tryz.results116 rv_t rv_t fun w' hw=>⟨rfl,hw⟩
theorem Unwrap1_ok (w:World) (b a r:Nat) (ha:El a) (hr:r < 2305843009213688669) (hb:Rd w (some ⟨b,0,none⟩) [I r]):Pure Tryz.prog 155 [I a,.pointer (some ⟨b,0,none⟩)] w (.tuple #[I (pp a r:Nat),I 0]):=by
  refine enter Tryz.func155 Tryz.ntmps155 ?_
  refine c_seq<|c_reg<|s_y y_as<|s_y y_as<|s_nil<|q_then<|c_seq<|c_reg<|s_y y_mv<|s_y (y_ldr (a:=some ⟨b,0,none⟩) (i:=0) (xs:=[I r]) (v:=I r) rfl rfl (rdW0 hb))<|s_pure (fun w' hw=>gExp_yes w' a r ha hr)<|s_y y_ext<|s_y y_ext<|s_y y_as<|s_y y_as<|s_nil<|q_then<|c_ret<|?_
  exact ret2 Tryz.results155 rv_t rv_t fun w' hw=>⟨rfl,hw⟩
section
variable (w:World) (ha ca:Option Addr) (hc cc:Nat) (s h c:List UInt8)
variable (p:Nat) (hg:LC w) (hp:El p) (hs:s.length = 32) (hrh:Rd w ha (bs h)) (hlh:h.length ≤ 100000)
include hg hp hs
theorem w_Wrap_yes (hrh:Rd w ha (bs h)) (hlh:h.length ≤ 100000) (hrc:Rd w ca (bs c)) (hlc:c.length ≤ 65536) :
    Gives Tryz.prog 57 [I p,.agg (bs s).toArray,.slice ha h.length hc,.slice ca c.length cc] w [] (fun y:Option Addr × Nat=>.tuple #[.agg #[I (wU s:Nat),.slice y.1 (c.length + 16) y.2],I 0]) (fun y=>[.row y.1 y.2 5 1 (c.length + 16) (bs (wB p s h c))]) (fun _=>True):=by
  refine enter Tryz.func57 Tryz.ntmps57 ?_
  refine c_seq<|c_reg<|s_box rfl fun b5=>s_alloc fun b8=>s_y y_as<|s_nil<|q_then<|c_seq<|c_seq<|c_reg<|s_y y_mv<|s_pure (fun w' hw=>gCheck_yes w' p hp)<|s_nf (y_neq (p:=0) (q:=0)) rfl<|s_nil<|q_then<|c_f<|c_skip<|q_then<|c_seq<|c_reg<|s_y (y_lda (b:=b5) (cs:=(bs s).toArray) (hl:=hz32 hs))<|s_pure (v:=I (wr s:Nat)) (fun w' hw=>derive_Scalar_ok w' s lbWrap (hg.st hw).1 hs (by decide))<|s_alloc fun b10=>s_st (b:=b10) (v:=I (wr s:Nat)) (cs:=#[I 0]) (hl:=Nat.zero_lt_one) ?_
  have hwr:=wr_lt s
  refine s_nil<|q_then<|c_seq<|c_reg<|s_y (y_ld (b:=b10) (v:=I (wr s:Nat)))<|s_pure (v:=.tuple #[I (wU s:Nat),I 0]) (fun w' hw=>gBase_el w' (wr s) hwr)<|s_y y_mv<|s_y y_ext<|s_y y_ext<|s_y y_as<|s_y y_as<|s_nil<|q_then<|c_seq<|c_reg<|s_y y_mv<|s_y y_func<|s_y (y_bside (cs:=[I p,.func (.func 116) #[] #[.pointer (some ⟨b10,0,none⟩)]]))<|s_alloc fun b13=>s_sta (b:=b13) (vs:=#[I p,.func (.func 116) #[] #[.pointer (some ⟨b10,0,none⟩)]]) (cs:=#[I 0,.nilFunc]) (h1:=by intro u hu; simp at hu; rcases hu with rfl | rfl <;> rfl) (hl:=rfl) (hs1:=rfl) ?_
  refine s_nil<|q_then<|c_seq<|c_reg<|s_y (y_lda (b:=b13) (cs:=#[I p,.func (.func 116) #[] #[.pointer (some ⟨b10,0,none⟩)]]) (hl:=rfl))<|s_y y_mv<|s_y y_mv<|s_pure (v:=.agg (bs (wK p s)).toArray) (fun w' hw=>w_key_ok w' b10 p (wU s) (pp p (wr s)) (p:Int) (hg.st hw).1 (El.l63 hp) (pp63 _ _) (pp63 _ _) (fun w2 h2=>Wrap1_ok w2 b10 p (wr s) hp hwr (Rd.st (rdB (.tail _ (.head _)) (fun i v h=>by rw [Nat.zero_add]; simpa using h) w' hw) h2)))<|s_y (y_blda (cs:=bs (List.replicate 12 0)))<|s_y y_mv<|s_y y_mv<|s_gives (fun w' hw=>c_Seal_ok w' ha ca hc cc (wK p s) z12 h c (wkey_length _ _ _) List.length_replicate (hrh.st hw) hlh (hg.st hw) (hrc.st hw) hlc) (fun y _=>?_)
  obtain ⟨ya,yc⟩:=y
  refine s_y y_mv<|s_y y_ext<|s_y y_ext<|s_y y_as<|s_y y_as<|s_nil<|q_then<|c_seq<|c_seq<|c_reg<|s_y y_mv<|s_nf (y_neq (p:=0) (q:=0)) rfl<|s_nil<|q_then<|c_f<|c_skip<|q_then<|c_seq<|c_reg<|s_y y_mv<|s_y y_mv<|s_y (y_bwrap (cs:=[I (wU s:Nat),.slice ya (c.length + 16) yc]))<|s_sta (b:=b8) (vs:=#[I (wU s:Nat),.slice ya (c.length + 16) yc]) (cs:=#[I 0,.slice none 0 0]) (h1:=by intro u hu; simp at hu; rcases hu with rfl | rfl <;> rfl) (hl:=rfl) (hs1:=rfl) ?_
  refine s_y y_as<|s_nil<|q_then<|c_ret<|?_
  exact ret2 Tryz.results57 (rv_ca (b:=b8) (cs:=#[I (wU s:Nat),.slice ya (c.length + 16) yc]) (hl:=rfl)) rv_t fun w' hw=>⟨(ya,yc),trivial,rfl,hw.sub (.cons_cons _ (List.nil_sublist _))⟩
end
section
variable (w:World) (ha ca:Option Addr) (hc cc:Nat) (h c:List UInt8)
variable (x:Nat) (hx0:1 ≤ x) (hx:x < 2305843009213688669)
include hx0 hx
theorem w_Unwrap_no2 (m:Nat) (u:Int) (hm:m < 1000000000000000000) (hno:wchk u m ≠ 0):Pure Tryz.prog 124 [I x,.slice ha h.length hc,.agg #[I u,.slice ca m cc]] w (.tuple #[.slice none 0 0,I (wchk u m)]):=by
  refine enter Tryz.func124 Tryz.ntmps124 ?_
  refine c_seq<|c_reg<|s_box rfl fun b3=>s_box rfl fun b5=>s_y y_as<|s_y y_as<|s_nil<|q_then<|c_seq<|c_reg<|s_y (y_ld (b:=b3) (v:=I x))<|s_pure (fun w' hw=>sPublic_yes w' x hx0 hx)<|s_y y_mv<|s_y y_ext<|s_y y_ext<|s_y y_as<|s_y y_as<|s_nil<|q_then<|c_seq<|c_seq<|c_reg<|s_y y_mv<|s_kt (y_eql (p:=0) (q:=0)) rfl<|s_nil<|q_then<|c_t<|c_reg<|s_y (y_lda (b:=b5) (cs:=#[I u,.slice ca m cc]) (hl:=rfl))<|s_pure (fun w' hw=>w_Check_ok w' u ca m cc hm)<|s_y y_as<|s_nil<|q_then<|c_seq<|c_seq<|c_reg<|s_y y_mv<|s_nt (y_neq (p:=wchk u m) (q:=0)) hno<|s_nil<|q_then<|c_t<|c_seq<|c_reg<|s_y y_mv<|s_y y_as<|s_y y_as<|s_nil<|q_then<|c_ret<|q_ret<|?_
  exact ret2 Tryz.results124 rv_t rv_t fun w' hw=>⟨rfl,hw.sub (List.nil_sublist _)⟩
variable (u:Nat) (hu:El u) (hrh:Rd w ha (bs h)) (hlh:h.length ≤ 100000) (hrc:Rd w ca (bs c)) (hcc:c.length ≤ cc) (hck:wchk u c.length = 0)
include hu hrh hlh hrc hcc hck
theorem w_Unwrap_no3 (hg:LC w) (hno:opOk (uK x u) z12 h c = false):Pure Tryz.prog 124 [I x,.slice ha h.length hc,.agg #[I u,.slice ca c.length cc]] w (.tuple #[.slice none 0 0,I 60]):=by
  obtain ⟨_,_,_,h16,h65⟩:=wchk_0 hck
  refine enter Tryz.func124 Tryz.ntmps124 ?_
  refine c_seq<|c_reg<|s_box rfl fun b3=>s_box rfl fun b5=>s_y y_as<|s_y y_as<|s_nil<|q_then<|c_seq<|c_reg<|s_y (y_ld (b:=b3) (v:=I x))<|s_pure (fun w' hw=>sPublic_yes w' x hx0 hx)<|s_y y_mv<|s_y y_ext<|s_y y_ext<|s_y y_as<|s_y y_as<|s_nil<|q_then<|c_seq<|c_seq<|c_reg<|s_y y_mv<|s_kt (y_eql (p:=0) (q:=0)) rfl<|s_nil<|q_then<|c_t<|c_reg<|s_y (y_lda (b:=b5) (cs:=#[I u,.slice ca c.length cc]) (hl:=rfl))<|s_pure (fun w' hw=>(by have h9:=w_Check_ok w' u ca c.length cc (by omega); rw [hck] at h9; exact h9))<|s_y y_as<|s_nil<|q_then<|c_seq<|c_seq<|c_reg<|s_y y_mv<|s_nf (y_neq (p:=0) (q:=0)) rfl<|s_nil<|q_then<|c_f<|c_skip<|q_then<|c_seq<|c_reg<|s_y y_mv<|s_y y_func<|s_y (y_bside (cs:=[I (pp 4 x:Nat),.func (.func 155) #[] #[.pointer (some ⟨b3,0,none⟩)]]))<|s_alloc fun b9=>s_sta (b:=b9) (vs:=#[I (pp 4 x:Nat),.func (.func 155) #[] #[.pointer (some ⟨b3,0,none⟩)]]) (cs:=#[I 0,.nilFunc]) (h1:=by intro u hu; simp at hu; rcases hu with rfl | rfl <;> rfl) (hl:=rfl) (hs1:=rfl) ?_
  refine s_nil<|q_then<|c_seq<|c_regL [.blk b9 (.cells #[I (pp 4 x:Nat),.func (.func 155) #[] #[.pointer (some ⟨b3,0,none⟩)]] 198 (0,0)),.blk b5 (.cells #[I u,.slice ca c.length cc] 114 (0,0)),.blk b3 (.cells #[I x] 3 (0,0))]<|r_y 0 rfl (y_lda (b:=b9) (cs:=#[I (pp 4 x:Nat),.func (.func 155) #[] #[.pointer (some ⟨b3,0,none⟩)]]) (hl:=rfl))<|r_y 1 rfl y_fa<|r_y 2 rfl (y_ld (b:=b5) (v:=I u))<|r_y 3 rfl y_fa<|r_y 4 rfl (y_ld (b:=b5) (v:=I u))<|r_y 6 rfl (y_blda (cs:=bs (List.replicate 12 0)))<|r_y 7 rfl y_mv<|r_y 8 rfl y_fa<|r_y 9 rfl (y_ld (b:=b5) (v:=.slice ca c.length cc))<|r_W 5 rfl<|s_pure (v:=.agg (bs (uK x u)).toArray) (fun w' hw=>w_key_ok w' b3 (pp 4 x) u (pp u x) (u:Int) (hg.st hw).1 (pp63 _ _) (El.l63 hu) (pp63 _ _) (fun w2 h2=>Unwrap1_ok w2 b3 u x hu hx (Rd.st (rdB (.tail _ (.tail _ (.head _))) (fun i v h=>by show (#[I (x:Int)]:Array Value)[0 + i]? = some v; rw [Nat.zero_add]; simpa using h) w' hw) h2)))<|r_K<|r_W 10 rfl<|s_pure (fun w' hw=>c_Open_no w' ha ca hc cc (uK x u) z12 h c (wkey_length _ _ _) List.length_replicate (hrh.st hw) hlh (hg.st hw) (hrc.st hw) (by omega) hcc hno)<|r_K<|r_y 11 rfl y_ext<|r_y 12 rfl y_ext<|r_y 13 rfl y_as<|r_y 14 rfl y_as<|r_E<|q_then<|c_ret<|?_
  exact ret2 Tryz.results124 rv_t rv_t fun w' hw=>⟨rfl,hw.sub (List.nil_sublist _)⟩
theorem w_Unwrap_yes (hg:LC w) (hyes:opOk (uK x u) z12 h c = true):Gives Tryz.prog 124 [I x,.slice ha h.length hc,.agg #[I u,.slice ca c.length cc]] w [] (fun y:Option Addr × Nat=>.tuple #[.slice y.1 (opB (uK x u) z12 h c).length y.2,I 0]) (fun y=>[.row y.1 y.2 5 1 (opB (uK x u) z12 h c).length (bs (opB (uK x u) z12 h c))]) (fun _=>True):=by
  obtain ⟨_,_,_,h16,h65⟩:=wchk_0 hck
  refine enter Tryz.func124 Tryz.ntmps124 ?_
  refine c_seq<|c_reg<|s_box rfl fun b3=>s_box rfl fun b5=>s_y y_as<|s_y y_as<|s_nil<|q_then<|c_seq<|c_reg<|s_y (y_ld (b:=b3) (v:=I x))<|s_pure (fun w' hw=>sPublic_yes w' x hx0 hx)<|s_y y_mv<|s_y y_ext<|s_y y_ext<|s_y y_as<|s_y y_as<|s_nil<|q_then<|c_seq<|c_seq<|c_reg<|s_y y_mv<|s_kt (y_eql (p:=0) (q:=0)) rfl<|s_nil<|q_then<|c_t<|c_reg<|s_y (y_lda (b:=b5) (cs:=#[I u,.slice ca c.length cc]) (hl:=rfl))<|s_pure (fun w' hw=>(by have h9:=w_Check_ok w' u ca c.length cc (by omega); rw [hck] at h9; exact h9))<|s_y y_as<|s_nil<|q_then<|c_seq<|c_seq<|c_reg<|s_y y_mv<|s_nf (y_neq (p:=0) (q:=0)) rfl<|s_nil<|q_then<|c_f<|c_skip<|q_then<|c_seq<|c_reg<|s_y y_mv<|s_y y_func<|s_y (y_bside (cs:=[I (pp 4 x:Nat),.func (.func 155) #[] #[.pointer (some ⟨b3,0,none⟩)]]))<|s_alloc fun b9=>s_sta (b:=b9) (vs:=#[I (pp 4 x:Nat),.func (.func 155) #[] #[.pointer (some ⟨b3,0,none⟩)]]) (cs:=#[I 0,.nilFunc]) (h1:=by intro u hu; simp at hu; rcases hu with rfl | rfl <;> rfl) (hl:=rfl) (hs1:=rfl) ?_
  refine s_nil<|q_then<|c_seq<|c_regL [.blk b9 (.cells #[I (pp 4 x:Nat),.func (.func 155) #[] #[.pointer (some ⟨b3,0,none⟩)]] 198 (0,0)),.blk b5 (.cells #[I u,.slice ca c.length cc] 114 (0,0)),.blk b3 (.cells #[I x] 3 (0,0))]<|r_y 0 rfl (y_lda (b:=b9) (cs:=#[I (pp 4 x:Nat),.func (.func 155) #[] #[.pointer (some ⟨b3,0,none⟩)]]) (hl:=rfl))<|r_y 1 rfl y_fa<|r_y 2 rfl (y_ld (b:=b5) (v:=I u))<|r_y 3 rfl y_fa<|r_y 4 rfl (y_ld (b:=b5) (v:=I u))<|r_y 6 rfl (y_blda (cs:=bs (List.replicate 12 0)))<|r_y 7 rfl y_mv<|r_y 8 rfl y_fa<|r_y 9 rfl (y_ld (b:=b5) (v:=.slice ca c.length cc))<|r_W 5 rfl<|s_pure (v:=.agg (bs (uK x u)).toArray) (fun w' hw=>w_key_ok w' b3 (pp 4 x) u (pp u x) (u:Int) (hg.st hw).1 (pp63 _ _) (El.l63 hu) (pp63 _ _) (fun w2 h2=>Unwrap1_ok w2 b3 u x hu hx (Rd.st (rdB (.tail _ (.tail _ (.head _))) (fun i v h=>by show (#[I (x:Int)]:Array Value)[0 + i]? = some v; rw [Nat.zero_add]; simpa using h) w' hw) h2)))<|r_K<|r_W 10 rfl<|s_gives (fun w' hw=>c_Open_yes w' ha ca hc cc (uK x u) z12 h c (wkey_length _ _ _) List.length_replicate (hrh.st hw) hlh (hg.st hw) (hrc.st hw) hcc hyes) (fun y _=>?_)
  obtain ⟨ya,yc⟩:=y
  refine r_K<|r_y 11 rfl y_ext<|r_y 12 rfl y_ext<|r_y 13 rfl y_as<|r_y 14 rfl y_as<|r_E<|q_then<|c_ret<|?_
  exact ret2 Tryz.results124 rv_t rv_t fun w' hw=>⟨(ya,yc),trivial,rfl,hw.sub (.cons_cons _ (List.nil_sublist _))⟩
end
end Go.Proofs.YtegfmbefhpagmaaGreatDoor
end
section
namespace Wr
open Go Eng Sha Cha Gf Cod Go.Proofs.YtegfmbefhpagmaaGreatDoor
end Wr
namespace Go.Proofs.YtegfmbefhpagmaaGreatDoor
open Go Eng Gf Sha Cha Wr Cod
end Go.Proofs.YtegfmbefhpagmaaGreatDoor
end
