/- Joined texts: LawE39 LawK39 Dr39O. -/
import Derived.WalkKit
import Derived.TacticsInMore
import Derived.OrdersIn
import Derived.RangeFuncCalls
import Derived.Deep.LoopGhost
import Derived.Deep.Quiet
import Derived.KernelRfl
import Derived.Laws.BytesString
import Derived.Laws.StructEq
import Derived.MapKept
import Derived.Laws.IdiomStrings
import Derived.Recover
import Derived.RangeFuncLeaves
import Derived.ChangeKeysEq
import Derived.Maps.RangeRun
import Derived.Laws.Build
import Derived.ProofKit
import Derived.LaidMore
import Derived.LaidHandle
import Derived.OpenShut
import Derived.FnData
import Derived.SizedLaws
import Derived.ChangeMaps5
import Derived.Deep.Slices
import Derived.JoinedOf
import Derived.SevenTiedAt
import Derived.Test.YtojohglifijnnaaGreatDoorChecked
import Derived.Test.YtojohglifijnnaaGreatDoorRows
import Derived.Test.YtojohglifijnnaaGreatDoorCards
import Derived.Test.YtojohglifijnnaaGreatDoorTie
import Derived.Test.YtojohglifijnnaaGreatDoorOj6
set_option linter.all false
section
namespace Eng
open Go
section
variable {P:Program} {n:Nat} {D:List Deferred} {W:World} {Bo:List Nat} {F:List (Nat × Value)} {l:SH} {d:Option Tmp} {ty:TypeId} {ps:String} {af:Array Edge} {g:Option (Nat × Bool)} {x y:Operand} {ta tb:TypeId}
theorem y_addwI {p q:Int} (hx:evO F x = some (I p):=by rfl) (hy:evO F y = some (I q):=by rfl):Y P n D W Bo ⟨d,.binOp .add ta x y tb,ty,ps,af,g⟩ F l (I (IntKind.i64.wrap (p + q))) :=
  .mk (by simp) fun a w ha _=>by
    simp [execOp,ha.eval hx,ha.eval hy,eqGuard,binOp,Op.intArith]
theorem y_andm (m:Nat) {p q:Int} (hx:evO F x = some (I p):=by rfl) (hy:evO F y = some (I q):=by rfl) (hq:q = 2 ^ m - 1) (hm:m ≤ 62):Y P n D W Bo ⟨d,.binOp .and ta x y tb,ty,ps,af,g⟩ F l (I (p % 2 ^ m)) :=
  .mk (by simp) fun a w ha _=>by
    refine exec_bin P w w _ _ _ _ _ _ _ _ _ _ _ _ ⟨by simp,by simp⟩ ?_
    rw [ha.eval hx,ha.eval hy]
    simp only [binOp,ne_eq,not_true_eq_false,if_false,Op.intBits,Sem.run_pure]
    obtain ⟨N,hN⟩:∃ N:Nat,N = 2 ^ m:=⟨_,rfl⟩
    have hpos:0 < N:=by rw [hN]; exact Nat.pow_pos (by decide)
    have hle:N ≤ 4611686018427387904:=by rw [hN]; exact Nat.pow_le_pow_right (show 0 < 2 by decide) hm
    have hdv:N ∣ 18446744073709551616:=by rw [hN]; exact Nat.pow_dvd_pow 2 (show m ≤ 64 by omega)
    have hI:(2:Int) ^ m = (N:Int):=by rw [hN]; exact (Int.natCast_pow 2 m).symm
    have e1:(BitVec.ofInt IntKind.i64.bits q).toNat = N - 1:=by
      rw [hq,hI,show ((N:Int) - 1) = ((N - 1:Nat):Int) by omega]
      exact bitsn (k:=.i64) (by simp only [IntKind.bits]; omega)
    have e2:(BitVec.ofInt IntKind.i64.bits p).toNat = (p % 18446744073709551616).toNat:=by rw [BitVec.toNat_ofInt]; rfl
    rw [BitVec.toNat_and,e1,e2,hN,Nat.and_two_pow_sub_one_eq_mod,← hN,hI]
    have h1:(((p % 18446744073709551616).toNat % N:Nat):Int) = p % N:=by
      rw [Int.natCast_emod,Int.toNat_of_nonneg (Int.emod_nonneg _ (by decide))]
      exact Int.emod_emod_of_dvd _ (Int.natCast_dvd_natCast.2 hdv)
    rw [h1]
    have h4:0 ≤ p % (N:Int):=Int.emod_nonneg _ (by omega)
    have h5:p % (N:Int) < N:=Int.emod_lt_of_pos _ (by omega)
    rw [wrap_i64 (by unfold R64; omega)]
end
end Eng
namespace Rst
open Go Eng Gf Sha Sig Wr Cod Cha Go.Proofs.YtojohglifijnnaaGreatDoor
theorem any_last {c:Cs} {v:Vt} {f:Vt → Bool} (h:f v = true):(vtd c v).vt.any f = true:=by
  show (c.vt ++ [v]).any f = true
  rw [List.any_append]; simp [h]
theorem fin_vtd {p:Pn} {c:Cs} {now ver:Int} {x:Nat} {v:Vt} (h:FinOk p c now ver x) (hn:¬ v.d ∈ c.vt.map Vt.d) (hw:¬ (c.st ≤ v.no ∧ v.no ≤ c.st + p.cool - 1)):FinOk p (vtd c v) now ver x:=by
  obtain ⟨hp,hb,hv,h4,h5⟩:=stE_inv h.st
  refine ⟨stE_0 hp (blg_vtd hb hn) ?_ (by show ¬ now < c.st + p.cool; omega) (by show ¬ (c.ap.length:Int) < p.need; omega),h.x0,h.x1,h.lf,h.sh,h.ch,h.r0,h.rk,h.cr⟩
  show ¬ ((c.vt ++ [v]).any fun v:Vt=>decide (c.st ≤ v.no ∧ v.no ≤ c.st + p.cool - 1)) = true
  rw [List.any_append]
  simp only [Bool.or_eq_true,not_or]
  exact ⟨hv,by simpa using hw⟩
end Rst
namespace Go.Proofs.YtojohglifijnnaaGreatDoor
open Go Eng Gf Sha Sig Wr Cod Cha Rst
set_option maxRecDepth 100000
set_option linter.all false
theorem law_Objected_few (w:World) (p:Pn) (c:Cs) (ga aa va:Option Addr) (gc ac vc:Nat) (now ver zd zv zl zver no:Int) (lt:Nat) (x:Int) (gone:Bool) (hg:LC w) (hrg:Rd w ga (is p.gs)) (hgc:p.gs.length ≤ gc) (hra:Rd w aa (apc c.ap)) (hac:c.ap.length ≤ ac) (hrv:Rd w va (vtc c.vt)) (hvc:c.vt.length ≤ vc) (hfew:¬ Few p c) (hal0:c.ap.length ≤ 9223372036854775807):Pure Tryz.prog 7 [.agg #[I p.id,I p.rk,.slice ga p.gs.length gc,I p.need,I p.cool],.agg #[I c.p,I c.d,I c.v,I c.l,I c.st,.slice aa c.ap.length ac,.slice va c.vt.length vc],I now,I ver,I x,.agg #[I zd,I zv,I zl,I zver,.bool gone],I no,.int .u16 ((lt:Nat):Int)] w (.bool true):=by
  refine enter Tryz.func7 Tryz.ntmps7 ?_
  refine c_seq<|c_reg<|s_box rfl fun b8=>s_box rfl fun b9=>s_box rfl fun b13=>s_y y_as<|s_nil<|q_then<|c_seq<|c_seq<|c_reg<|s_pure (fun w' hw=>law_sane_ok w' (hg.st hw))<|s_y (v:=.bool false) (y_not (b:=true))<|s_nil<|q_then<|c_f<|c_skip<|q_then<|c_seq<|c_seq<|c_reg<|s_y (y_lda (b:=b8) (cs:=#[I p.id,I p.rk,.slice ga p.gs.length gc,I p.need,I p.cool]) (hl:=rfl))<|s_y (y_lda (b:=b9) (cs:=#[I c.p,I c.d,I c.v,I c.l,I c.st,.slice aa c.ap.length ac,.slice va c.vt.length vc]) (hl:=rfl))<|s_pure (fun w' hw=>(by have h9:=Few39_ok w' p c ga aa va gc ac vc (hra.st hw) hal0; rw [fewB_f hfew] at h9; exact h9))<|s_y (v:=.bool true) (y_not (b:=false))<|s_nil<|q_then<|c_t<|c_seq<|c_reg<|s_y y_as<|s_nil<|q_then<|c_ret<|q_ret<|?_
  exact ret1 Tryz.results7 rv_t fun w' hw=>⟨rfl,hw.sub (List.nil_sublist _)⟩
theorem law_Objected_no (w:World) (p:Pn) (c:Cs) (ga aa va:Option Addr) (gc ac vc:Nat) (now ver zd zv zl zver no:Int) (lt:Nat) (x:Int) (gone:Bool) (hg:LC w) (hrg:Rd w ga (is p.gs)) (hgc:p.gs.length ≤ gc) (hra:Rd w aa (apc c.ap)) (hac:c.ap.length ≤ ac) (hrv:Rd w va (vtc c.vt)) (hvc:c.vt.length ≤ vc) (hfew:Few p c) (hok:ApOk w c.ap) (hcp:∀ z ∈ c.ap,z.q.length ≤ z.c) (hR:R5 c) (ea:Int) (hea:ea ≠ 0) (hfn:∀ (w:World) (ga aa va:Option Addr) (gc ac vc:Nat),FinW w p c ga aa va gc ac vc → Pure Tryz.prog 29 [.agg #[I p.id,I p.rk,.slice ga p.gs.length gc,I p.need,I p.cool],.agg #[I c.p,I c.d,I c.v,I c.l,I c.st,.slice aa c.ap.length ac,.slice va c.vt.length vc],I now,I ver,I x] w (.tuple #[.agg #[I 0,I 0,I 0,I 0,I 0,I 0,I 0,I 0],I ea])):Pure Tryz.prog 7 [.agg #[I p.id,I p.rk,.slice ga p.gs.length gc,I p.need,I p.cool],.agg #[I c.p,I c.d,I c.v,I c.l,I c.st,.slice aa c.ap.length ac,.slice va c.vt.length vc],I now,I ver,I x,.agg #[I zd,I zv,I zl,I zver,.bool gone],I no,.int .u16 ((lt:Nat):Int)] w (.bool true):=by
  have hgl:p.gs.length ≤ 1000000:=Nat.le_trans hfew.g (by decide)
  have hal:c.ap.length ≤ 1000000:=Nat.le_trans hfew.n (by decide)
  have hvl:c.vt.length ≤ 1000000:=Nat.le_trans hfew.v (by decide)
  refine enter Tryz.func7 Tryz.ntmps7 ?_
  refine c_seq<|c_reg<|s_box rfl fun b8=>s_box rfl fun b9=>s_box rfl fun b13=>s_y y_as<|s_nil<|q_then<|c_seq<|c_seq<|c_reg<|s_pure (fun w' hw=>law_sane_ok w' (hg.st hw))<|s_y (v:=.bool false) (y_not (b:=true))<|s_nil<|q_then<|c_f<|c_skip<|q_then<|c_seq<|c_seq<|c_reg<|s_y (y_lda (b:=b8) (cs:=#[I p.id,I p.rk,.slice ga p.gs.length gc,I p.need,I p.cool]) (hl:=rfl))<|s_y (y_lda (b:=b9) (cs:=#[I c.p,I c.d,I c.v,I c.l,I c.st,.slice aa c.ap.length ac,.slice va c.vt.length vc]) (hl:=rfl))<|s_pure (fun w' hw=>(by have h9:=Few39_ok w' p c ga aa va gc ac vc (hra.st hw) (by omega); rw [fewB_t hfew] at h9; exact h9))<|s_y (v:=.bool false) (y_not (b:=true))<|s_nil<|q_then<|c_f<|c_skip<|q_then<|c_seq<|c_reg<|s_y (y_lda (b:=b8) (cs:=#[I p.id,I p.rk,.slice ga p.gs.length gc,I p.need,I p.cool]) (hl:=rfl))<|s_y (y_lda (b:=b9) (cs:=#[I c.p,I c.d,I c.v,I c.l,I c.st,.slice aa c.ap.length ac,.slice va c.vt.length vc]) (hl:=rfl))<|s_y y_mv<|s_y y_mv<|s_y y_mv<|s_pure (fun w' hw=>hfn w' ga aa va gc ac vc ⟨(hrg.st hw),(hra.st hw),(hrv.st hw),hgl,hal,hvl,hac,hR,hcp,(hok.st hw),(hg.st hw)⟩)<|s_y y_mv<|s_y y_ext<|s_y y_ext<|s_alloc fun b17=>s_sta (b:=b17) (vs:=#[I 0,I 0,I 0,I 0,I 0,I 0,I 0,I 0]) (cs:=#[I 0,I 0,I 0,I 0,I 0,I 0,I 0,I 0]) (h1:=one_allA rfl) (hl:=(show (8:Nat) = 8 from rfl)) (hs1:=rfl) ?_
  refine s_y y_as<|s_nil<|q_then<|c_seq<|c_seq<|c_reg<|s_y y_mv<|s_nt (y_neq (p:=ea) (q:=0)) hea<|s_nil<|q_then<|c_t<|c_seq<|c_reg<|s_y (y_lda (b:=b17) (cs:=(List.replicate 8 (I 0)).toArray) (hl:=rfl))<|s_y (y_bcert (cs:=List.replicate 8 (I 0)))<|s_y y_eqlCt<|s_y y_as<|s_nil<|q_then<|c_ret<|q_ret<|?_
  exact ret1 Tryz.results7 rv_t fun w' hw=>⟨rfl,hw.sub (List.nil_sublist _)⟩
theorem law_Objected_no_no (w:World) (p:Pn) (c:Cs) (ga aa va:Option Addr) (gc ac vc:Nat) (now ver zd zv zl zver no:Int) (lt:Nat) (xx:Nat) (gone:Bool) (hg:LC w) (hrg:Rd w ga (is p.gs)) (hgc:p.gs.length ≤ gc) (hra:Rd w aa (apc c.ap)) (hac:c.ap.length ≤ ac) (hrv:Rd w va (vtc c.vt)) (hvc:c.vt.length ≤ vc) (hfew:Few p c) (hok:ApOk w c.ap) (hcp:∀ z ∈ c.ap,z.q.length ≤ z.c) (hR:R5 c) (hRd:R64 zd) (hlt:lt < 65536) (hfin:FinOk p c now ver xx) (e1:Int) (hee1:obE [⟨zd,(pp 4 (k5N no):Nat),zl,zver,gone⟩] c zd (c.st + no % 2 ^ 10 % p.cool) (k5N no:Nat) = e1) (hne1:e1 ≠ 0) (e2:Int) (hee2:obE [⟨zd,(pp 4 (k5N no):Nat),zl,zver,gone⟩] c zd (c.st + p.cool + no % 2 ^ 4) (k5N no:Nat) = e2) (hne2:e2 ≠ 0):Pure Tryz.prog 7 [.agg #[I p.id,I p.rk,.slice ga p.gs.length gc,I p.need,I p.cool],.agg #[I c.p,I c.d,I c.v,I c.l,I c.st,.slice aa c.ap.length ac,.slice va c.vt.length vc],I now,I ver,I (xx:Nat),.agg #[I zd,I zv,I zl,I zver,.bool gone],I no,.int .u16 ((lt:Nat):Int)] w (.bool true):=by
  have hgl:p.gs.length ≤ 1000000:=Nat.le_trans hfew.g (by decide)
  have hal:c.ap.length ≤ 1000000:=Nat.le_trans hfew.n (by decide)
  have hvl:c.vt.length ≤ 1000000:=Nat.le_trans hfew.v (by decide)
  obtain ⟨hPr,hB,hvt0,hnow,_⟩:=stE_inv hfin.st
  have hfs:=hB.fs
  have hcl:=hPr.cool
  obtain ⟨n10,h10⟩:∃ n10,n10 = no % 2 ^ 10:=⟨_,rfl⟩
  have h10b:0 ≤ n10 ∧ n10 < 1024:=by omega
  obtain ⟨n11,h11⟩:∃ n11,n11 = n10 % p.cool:=⟨_,rfl⟩
  have h11a:0 ≤ n11:=by rw [h11]; exact Int.emod_nonneg _ (by omega)
  have h11b:n11 < p.cool:=by rw [h11]; exact Int.emod_lt_of_pos _ (by omega)
  obtain ⟨n4,h4⟩:∃ n4,n4 = no % 2 ^ 4:=⟨_,rfl⟩
  have h4b:0 ≤ n4 ∧ n4 < 16:=by omega
  obtain ⟨nw,hnw⟩:∃ nw,nw = IntKind.i64.wrap (now + ((lt:Nat):Int)):=⟨_,rfl⟩
  rw [← h10,← h11] at hee1
  rw [← h4] at hee2
  refine enter Tryz.func7 Tryz.ntmps7 ?_
  refine c_seq<|c_reg<|s_box rfl fun b8=>s_box rfl fun b9=>s_box rfl fun b13=>s_y y_as<|s_nil<|q_then<|c_seq<|c_seq<|c_reg<|s_pure (fun w' hw=>law_sane_ok w' (hg.st hw))<|s_y (v:=.bool false) (y_not (b:=true))<|s_nil<|q_then<|c_f<|c_skip<|q_then<|c_seq<|c_seq<|c_reg<|s_y (y_lda (b:=b8) (cs:=#[I p.id,I p.rk,.slice ga p.gs.length gc,I p.need,I p.cool]) (hl:=rfl))<|s_y (y_lda (b:=b9) (cs:=#[I c.p,I c.d,I c.v,I c.l,I c.st,.slice aa c.ap.length ac,.slice va c.vt.length vc]) (hl:=rfl))<|s_pure (fun w' hw=>(by have h9:=Few39_ok w' p c ga aa va gc ac vc (hra.st hw) (by omega); rw [fewB_t hfew] at h9; exact h9))<|s_y (v:=.bool false) (y_not (b:=true))<|s_nil<|q_then<|c_f<|c_skip<|q_then<|c_seq<|c_reg<|s_y (y_lda (b:=b8) (cs:=#[I p.id,I p.rk,.slice ga p.gs.length gc,I p.need,I p.cool]) (hl:=rfl))<|s_y (y_lda (b:=b9) (cs:=#[I c.p,I c.d,I c.v,I c.l,I c.st,.slice aa c.ap.length ac,.slice va c.vt.length vc]) (hl:=rfl))<|s_y y_mv<|s_y y_mv<|s_y y_mv<|s_pure (fun w' hw=>Finish_yes w' p c now ver ga aa va gc ac vc ⟨(hrg.st hw),(hra.st hw),(hrv.st hw),hgl,hal,hvl,hac,hR,hcp,(hok.st hw),(hg.st hw)⟩ xx hfin)<|s_y y_mv<|s_y y_ext<|s_y y_ext<|s_alloc fun b17=>s_sta (b:=b17) (vs:=#[I 3,I ((c).d),I ((c).v),I ((c).l),I ver,I (-1),I (sgR ((jnV (isort (shL xx c p.need.toNat))).toNat) (cmsg [3,(c).d,(c).v,(c).l,ver,-1]):Nat),I (sgS ((jnV (isort (shL xx c p.need.toNat))).toNat) (cmsg [3,(c).d,(c).v,(c).l,ver,-1]):Nat)]) (cs:=#[I 0,I 0,I 0,I 0,I 0,I 0,I 0,I 0]) (h1:=by intro u hu; simp at hu; rcases hu with rfl | rfl | rfl | rfl | rfl | rfl | rfl | rfl <;> rfl) (hl:=(show (8:Nat) = 8 from rfl)) (hs1:=rfl) ?_
  refine s_y y_as<|s_nil<|q_then<|c_seq<|c_seq<|c_reg<|s_y y_mv<|s_nf (y_neq (p:=0) (q:=0)) (by omega)<|s_nil<|q_then<|c_f<|c_skip<|q_then<|c_seq<|c_reg<|s_y y_mv<|s_pure (fun w' hw=>r5_Key_ok w' no)<|s_y y_as<|s_nil<|q_then<|c_seq<|c_reg<|s_y y_mv<|s_pure (fun w' hw=>sPublic_yes w' (k5N no) (k5N_pos _) (k5N_lt _))<|s_y y_mv<|s_y y_ext<|s_y y_ext<|s_y y_fa<|s_st (b:=b13) (v:=I (pp 4 (k5N no):Nat)) (cs:=#[I zd,I zv,I zl,I zver,.bool gone]) (hl:=by simp) ?_
  refine s_nil<|q_then<|c_seq<|c_regd<|d_y y_fa<|d_y (y_ld (b:=b9) (v:=I c.st))<|d_y y_mv<|d_y (y_andm (m:=10) (p:=no) (q:=1023) (hq:=rfl) (hm:=by decide))<|?_
  rw [← h10]
  refine d_y y_fa<|d_y (y_ld (b:=b8) (v:=I p.cool))<|d_y (y_rem (p:=n10) (q:=p.cool))<|?_
  rw [← h11]
  refine d_y (y_add (p:=c.st) (q:=n11))<|d_y y_as<|d_nil<|q_then<|c_seq<|c_reg<|s_y y_fa<|s_y (y_ld (b:=b9) (v:=I c.st))<|s_y y_fa<|s_y (y_ld (b:=b8) (v:=I p.cool))<|s_y (y_add (p:=c.st) (q:=p.cool))<|s_y y_mv<|s_y (y_andm (m:=4) (p:=no) (q:=15) (hq:=rfl) (hm:=by decide))<|?_
  rw [← h4]
  refine s_y (y_add (p:=c.st + p.cool) (q:=n4))<|s_y y_as<|s_nil<|q_then<|c_seq<|c_reg<|s_y (y_lda (b:=b9) (cs:=#[I c.p,I c.d,I c.v,I c.l,I c.st,.slice aa c.ap.length ac,.slice va c.vt.length vc]) (hl:=rfl))<|s_y (y_lda (b:=b13) (cs:=#[I zd,I (pp 4 (k5N no):Nat),I zl,I zver,.bool gone]) (hl:=rfl))<|s_bslr (cs:=[I zd,I (pp 4 (k5N no):Nat),I zl,I zver,.bool gone]) fun b77=>s_y y_fa<|s_y (y_ld (b:=b13) (v:=I zd))<|s_y y_mv<|s_y y_mv<|s_pure (fun w' hw=>(hee1 ▸ Object_no w' c aa va (some ⟨b77,0,none⟩) ac vc 1 [⟨zd,(pp 4 (k5N no):Nat),zl,zver,gone⟩] zd (c.st + n11) (k5N no) (hg.st hw) (rdR (.head _) w' hw) (show 1 ≤ 1000000 by decide) (hrv.st hw) hvl (hee1 ▸ hne1)))<|s_y y_mv<|s_y y_ext<|s_y y_ext<|s_alloc fun b22=>s_sta (b:=b22) (vs:=#[I 0,I 0,I 0,I 0,I 0,.slice none 0 0,.slice none 0 0]) (cs:=#[I 0,I 0,I 0,I 0,I 0,.slice none 0 0,.slice none 0 0]) (h1:=one_allA rfl) (hl:=rfl) (hs1:=rfl) ?_
  refine s_y y_as<|s_nil<|q_then<|c_seq<|c_seq<|c_reg<|s_y y_mv<|s_kf (y_eql (p:=e1) (q:=0)) hne1<|s_nil<|q_then<|c_f<|c_skip<|q_then<|c_seq<|c_reg<|s_y (y_lda (b:=b9) (cs:=#[I c.p,I c.d,I c.v,I c.l,I c.st,.slice aa c.ap.length ac,.slice va c.vt.length vc]) (hl:=rfl))<|s_y (y_lda (b:=b13) (cs:=#[I zd,I (pp 4 (k5N no):Nat),I zl,I zver,.bool gone]) (hl:=rfl))<|s_bslr (cs:=[I zd,I (pp 4 (k5N no):Nat),I zl,I zver,.bool gone]) fun b114=>s_y y_fa<|s_y (y_ld (b:=b13) (v:=I zd))<|s_y y_mv<|s_y y_mv<|s_pure (fun w' hw=>(hee2 ▸ Object_no w' c aa va (some ⟨b114,0,none⟩) ac vc 1 [⟨zd,(pp 4 (k5N no):Nat),zl,zver,gone⟩] zd ((c.st + p.cool) + n4) (k5N no) (hg.st hw) (rdR (.head _) w' hw) (show 1 ≤ 1000000 by decide) (hrv.st hw) hvl (hee2 ▸ hne2)))<|s_y y_mv<|s_y y_ext<|s_y y_ext<|s_alloc fun b26=>s_sta (b:=b26) (vs:=#[I 0,I 0,I 0,I 0,I 0,.slice none 0 0,.slice none 0 0]) (cs:=#[I 0,I 0,I 0,I 0,I 0,.slice none 0 0,.slice none 0 0]) (h1:=one_allA rfl) (hl:=rfl) (hs1:=rfl) ?_
  refine s_y y_as<|s_nil<|q_then<|c_seq<|c_seq<|c_reg<|s_y y_mv<|s_nt (y_neq (p:=e2) (q:=0)) hne2<|s_nil<|q_then<|c_t<|c_seq<|c_reg<|s_y y_as<|s_nil<|q_then<|c_ret<|q_ret<|?_
  exact ret1 Tryz.results7 rv_t fun w' hw=>⟨rfl,hw.sub (List.nil_sublist _)⟩
theorem law_Objected_no_y (w:World) (p:Pn) (c:Cs) (ga aa va:Option Addr) (gc ac vc:Nat) (now ver zd zv zl zver no:Int) (lt:Nat) (xx:Nat) (hg:LC w) (hrg:Rd w ga (is p.gs)) (hgc:p.gs.length ≤ gc) (hra:Rd w aa (apc c.ap)) (hac:c.ap.length ≤ ac) (hrv:Rd w va (vtc c.vt)) (hvc:c.vt.length ≤ vc) (hfew:Few p c) (hok:ApOk w c.ap) (hcp:∀ z ∈ c.ap,z.q.length ≤ z.c) (hR:R5 c) (hRd:R64 zd) (hlt:lt < 65536) (hfin:FinOk p c now ver xx) (e1:Int) (hee1:obE [⟨zd,(pp 4 (k5N no):Nat),zl,zver,false⟩] c zd (c.st + no % 2 ^ 10 % p.cool) (k5N no:Nat) = e1) (hne1:e1 ≠ 0) (hoout:ObR2 c zd (c.st + p.cool + no % 2 ^ 4)) (hd:DirOk [⟨zd,(pp 4 (k5N no):Nat),zl,zver,false⟩]):Pure Tryz.prog 7 [.agg #[I p.id,I p.rk,.slice ga p.gs.length gc,I p.need,I p.cool],.agg #[I c.p,I c.d,I c.v,I c.l,I c.st,.slice aa c.ap.length ac,.slice va c.vt.length vc],I now,I ver,I (xx:Nat),.agg #[I zd,I zv,I zl,I zver,.bool false],I no,.int .u16 ((lt:Nat):Int)] w (.bool true):=by
  have hgl:p.gs.length ≤ 1000000:=Nat.le_trans hfew.g (by decide)
  have hal:c.ap.length ≤ 1000000:=Nat.le_trans hfew.n (by decide)
  have hvl:c.vt.length ≤ 1000000:=Nat.le_trans hfew.v (by decide)
  obtain ⟨hPr,hB,hvt0,hnow,_⟩:=stE_inv hfin.st
  have hfs:=hB.fs
  have hcl:=hPr.cool
  obtain ⟨n10,h10⟩:∃ n10,n10 = no % 2 ^ 10:=⟨_,rfl⟩
  have h10b:0 ≤ n10 ∧ n10 < 1024:=by omega
  obtain ⟨n11,h11⟩:∃ n11,n11 = n10 % p.cool:=⟨_,rfl⟩
  have h11a:0 ≤ n11:=by rw [h11]; exact Int.emod_nonneg _ (by omega)
  have h11b:n11 < p.cool:=by rw [h11]; exact Int.emod_lt_of_pos _ (by omega)
  obtain ⟨n4,h4⟩:∃ n4,n4 = no % 2 ^ 4:=⟨_,rfl⟩
  have h4b:0 ≤ n4 ∧ n4 < 16:=by omega
  obtain ⟨nw,hnw⟩:∃ nw,nw = IntKind.i64.wrap (now + ((lt:Nat):Int)):=⟨_,rfl⟩
  rw [← h10,← h11] at hee1
  rw [← h4] at hoout
  have hout:∀ k,FinOk p (vtd c (nVt c zd (c.st + p.cool + n4) k)) now ver xx:=fun k=>fin_vtd hfin hoout.n (by show ¬ (c.st ≤ c.st + p.cool + n4 ∧ c.st + p.cool + n4 ≤ c.st + p.cool - 1); omega)
  refine enter Tryz.func7 Tryz.ntmps7 ?_
  refine c_seq<|c_reg<|s_box rfl fun b8=>s_box rfl fun b9=>s_box rfl fun b13=>s_y y_as<|s_nil<|q_then<|c_seq<|c_seq<|c_reg<|s_pure (fun w' hw=>law_sane_ok w' (hg.st hw))<|s_y (v:=.bool false) (y_not (b:=true))<|s_nil<|q_then<|c_f<|c_skip<|q_then<|c_seq<|c_seq<|c_reg<|s_y (y_lda (b:=b8) (cs:=#[I p.id,I p.rk,.slice ga p.gs.length gc,I p.need,I p.cool]) (hl:=rfl))<|s_y (y_lda (b:=b9) (cs:=#[I c.p,I c.d,I c.v,I c.l,I c.st,.slice aa c.ap.length ac,.slice va c.vt.length vc]) (hl:=rfl))<|s_pure (fun w' hw=>(by have h9:=Few39_ok w' p c ga aa va gc ac vc (hra.st hw) (by omega); rw [fewB_t hfew] at h9; exact h9))<|s_y (v:=.bool false) (y_not (b:=true))<|s_nil<|q_then<|c_f<|c_skip<|q_then<|c_seq<|c_reg<|s_y (y_lda (b:=b8) (cs:=#[I p.id,I p.rk,.slice ga p.gs.length gc,I p.need,I p.cool]) (hl:=rfl))<|s_y (y_lda (b:=b9) (cs:=#[I c.p,I c.d,I c.v,I c.l,I c.st,.slice aa c.ap.length ac,.slice va c.vt.length vc]) (hl:=rfl))<|s_y y_mv<|s_y y_mv<|s_y y_mv<|s_pure (fun w' hw=>Finish_yes w' p c now ver ga aa va gc ac vc ⟨(hrg.st hw),(hra.st hw),(hrv.st hw),hgl,hal,hvl,hac,hR,hcp,(hok.st hw),(hg.st hw)⟩ xx hfin)<|s_y y_mv<|s_y y_ext<|s_y y_ext<|s_alloc fun b17=>s_sta (b:=b17) (vs:=#[I 3,I ((c).d),I ((c).v),I ((c).l),I ver,I (-1),I (sgR ((jnV (isort (shL xx c p.need.toNat))).toNat) (cmsg [3,(c).d,(c).v,(c).l,ver,-1]):Nat),I (sgS ((jnV (isort (shL xx c p.need.toNat))).toNat) (cmsg [3,(c).d,(c).v,(c).l,ver,-1]):Nat)]) (cs:=#[I 0,I 0,I 0,I 0,I 0,I 0,I 0,I 0]) (h1:=by intro u hu; simp at hu; rcases hu with rfl | rfl | rfl | rfl | rfl | rfl | rfl | rfl <;> rfl) (hl:=(show (8:Nat) = 8 from rfl)) (hs1:=rfl) ?_
  refine s_y y_as<|s_nil<|q_then<|c_seq<|c_seq<|c_reg<|s_y y_mv<|s_nf (y_neq (p:=0) (q:=0)) (by omega)<|s_nil<|q_then<|c_f<|c_skip<|q_then<|c_seq<|c_reg<|s_y y_mv<|s_pure (fun w' hw=>r5_Key_ok w' no)<|s_y y_as<|s_nil<|q_then<|c_seq<|c_reg<|s_y y_mv<|s_pure (fun w' hw=>sPublic_yes w' (k5N no) (k5N_pos _) (k5N_lt _))<|s_y y_mv<|s_y y_ext<|s_y y_ext<|s_y y_fa<|s_st (b:=b13) (v:=I (pp 4 (k5N no):Nat)) (cs:=#[I zd,I zv,I zl,I zver,.bool false]) (hl:=by simp) ?_
  refine s_nil<|q_then<|c_seq<|c_regd<|d_y y_fa<|d_y (y_ld (b:=b9) (v:=I c.st))<|d_y y_mv<|d_y (y_andm (m:=10) (p:=no) (q:=1023) (hq:=rfl) (hm:=by decide))<|?_
  rw [← h10]
  refine d_y y_fa<|d_y (y_ld (b:=b8) (v:=I p.cool))<|d_y (y_rem (p:=n10) (q:=p.cool))<|?_
  rw [← h11]
  refine d_y (y_add (p:=c.st) (q:=n11))<|d_y y_as<|d_nil<|q_then<|c_seq<|c_reg<|s_y y_fa<|s_y (y_ld (b:=b9) (v:=I c.st))<|s_y y_fa<|s_y (y_ld (b:=b8) (v:=I p.cool))<|s_y (y_add (p:=c.st) (q:=p.cool))<|s_y y_mv<|s_y (y_andm (m:=4) (p:=no) (q:=15) (hq:=rfl) (hm:=by decide))<|?_
  rw [← h4]
  refine s_y (y_add (p:=c.st + p.cool) (q:=n4))<|s_y y_as<|s_nil<|q_then<|c_seq<|c_reg<|s_y (y_lda (b:=b9) (cs:=#[I c.p,I c.d,I c.v,I c.l,I c.st,.slice aa c.ap.length ac,.slice va c.vt.length vc]) (hl:=rfl))<|s_y (y_lda (b:=b13) (cs:=#[I zd,I (pp 4 (k5N no):Nat),I zl,I zver,.bool false]) (hl:=rfl))<|s_bslr (cs:=[I zd,I (pp 4 (k5N no):Nat),I zl,I zver,.bool false]) fun b77=>s_y y_fa<|s_y (y_ld (b:=b13) (v:=I zd))<|s_y y_mv<|s_y y_mv<|s_pure (fun w' hw=>(hee1 ▸ Object_no w' c aa va (some ⟨b77,0,none⟩) ac vc 1 [⟨zd,(pp 4 (k5N no):Nat),zl,zver,false⟩] zd (c.st + n11) (k5N no) (hg.st hw) (rdR (.head _) w' hw) (show 1 ≤ 1000000 by decide) (hrv.st hw) hvl (hee1 ▸ hne1)))<|s_y y_mv<|s_y y_ext<|s_y y_ext<|s_alloc fun b22=>s_sta (b:=b22) (vs:=#[I 0,I 0,I 0,I 0,I 0,.slice none 0 0,.slice none 0 0]) (cs:=#[I 0,I 0,I 0,I 0,I 0,.slice none 0 0,.slice none 0 0]) (h1:=one_allA rfl) (hl:=rfl) (hs1:=rfl) ?_
  refine s_y y_as<|s_nil<|q_then<|c_seq<|c_seq<|c_reg<|s_y y_mv<|s_kf (y_eql (p:=e1) (q:=0)) hne1<|s_nil<|q_then<|c_f<|c_skip<|q_then<|c_seq<|c_reg<|s_y (y_lda (b:=b9) (cs:=#[I c.p,I c.d,I c.v,I c.l,I c.st,.slice aa c.ap.length ac,.slice va c.vt.length vc]) (hl:=rfl))<|s_y (y_lda (b:=b13) (cs:=#[I zd,I (pp 4 (k5N no):Nat),I zl,I zver,.bool false]) (hl:=rfl))<|s_bslr (cs:=[I zd,I (pp 4 (k5N no):Nat),I zl,I zver,.bool false]) fun b114=>s_y y_fa<|s_y (y_ld (b:=b13) (v:=I zd))<|s_y y_mv<|s_y y_mv<|s_gives (fun w' hw=>Object_y w' c aa va (some ⟨b114,0,none⟩) ac vc 1 [⟨zd,(pp 4 (k5N no):Nat),zl,zver,false⟩] zd ((c.st + p.cool) + n4) (k5N no) (hg.st hw) (rdR (.head _) w' hw) (show 1 ≤ 1000000 by decide) (hrv.st hw) hvc hvl 0 _ _ _ hd rfl hoout (k5N_pos _) (k5N_lt _) rfl hR (by have:=hB.fs; have:=hPr.cool; unfold R64; omega) hRd) fun (x119:Option Addr × Nat) _=>s_y y_mv<|s_y y_ext<|s_y y_ext<|s_alloc fun b26=>s_sta (b:=b26) (vs:=#[I c.p,I c.d,I c.v,I c.l,I c.st,.slice aa c.ap.length ac,.slice x119.1 (c.vt.length + 1) x119.2]) (cs:=#[I 0,I 0,I 0,I 0,I 0,.slice none 0 0,.slice none 0 0]) (h1:=one_allA rfl) (hl:=rfl) (hs1:=rfl) ?_
  refine s_y y_as<|s_nil<|q_then<|c_seq<|c_seq<|c_reg<|s_y y_mv<|s_nf (y_neq (p:=0) (q:=0)) (by omega)<|s_nil<|q_then<|c_f<|c_skip<|q_then<|c_seq<|c_reg<|s_y (y_lda (b:=b8) (cs:=#[I p.id,I p.rk,.slice ga p.gs.length gc,I p.need,I p.cool]) (hl:=rfl))<|s_y (y_lda (b:=b26) (cs:=#[I c.p,I c.d,I c.v,I c.l,I c.st,.slice aa c.ap.length ac,.slice x119.1 (c.vt.length + 1) x119.2]) (hl:=rfl))<|s_y y_mv<|s_y y_mv<|s_y y_mv<|s_pure (fun w' hw=>(by have h9:=Finish_yes w' p (vtd c (nVt c zd ((c.st + p.cool) + n4) (k5N no))) now ver ga aa x119.1 gc ac x119.2 ⟨(hrg.st hw),(hra.st hw),(rdR (.tail _ (.head _)) w' hw),hgl,hal,(by show (c.vt ++ [_]).length ≤ 1000000; rw [List.length_append,List.length_singleton]; have:=hfew.v; omega),hac,hR,hcp,(hok.st hw),(hg.st hw)⟩ xx (hout _); rw [vtd_len] at h9; exact h9))<|s_y y_mv<|s_y y_ext<|s_y y_ext<|s_alloc fun b28=>s_sta (b:=b28) (vs:=#[I 3,I ((c).d),I ((c).v),I ((c).l),I ver,I (-1),I (sgR ((jnV (isort (shL xx c p.need.toNat))).toNat) (cmsg [3,(c).d,(c).v,(c).l,ver,-1]):Nat),I (sgS ((jnV (isort (shL xx c p.need.toNat))).toNat) (cmsg [3,(c).d,(c).v,(c).l,ver,-1]):Nat)]) (cs:=#[I 0,I 0,I 0,I 0,I 0,I 0,I 0,I 0]) (h1:=by intro u hu; simp at hu; rcases hu with rfl | rfl | rfl | rfl | rfl | rfl | rfl | rfl <;> rfl) (hl:=(show (8:Nat) = 8 from rfl)) (hs1:=rfl) ?_
  refine s_y y_as<|s_nil<|q_then<|c_seq<|c_reg<|s_y y_mv<|s_kt (y_eql (p:=0) (q:=0)) (by omega)<|s_y y_mv<|s_y (y_lda (b:=b28) (cs:=#[I 3,I ((c).d),I ((c).v),I ((c).l),I ver,I (-1),I (sgR ((jnV (isort (shL xx c p.need.toNat))).toNat) (cmsg [3,(c).d,(c).v,(c).l,ver,-1]):Nat),I (sgS ((jnV (isort (shL xx c p.need.toNat))).toNat) (cmsg [3,(c).d,(c).v,(c).l,ver,-1]):Nat)]) (hl:=rfl))<|s_y (y_lda (b:=b17) (cs:=#[I 3,I ((c).d),I ((c).v),I ((c).l),I ver,I (-1),I (sgR ((jnV (isort (shL xx c p.need.toNat))).toNat) (cmsg [3,(c).d,(c).v,(c).l,ver,-1]):Nat),I (sgS ((jnV (isort (shL xx c p.need.toNat))).toNat) (cmsg [3,(c).d,(c).v,(c).l,ver,-1]):Nat)]) (hl:=rfl))<|s_y y_eqlCt<|s_y y_pk<|s_y y_as<|s_nil<|q_then<|c_ret<|?_
  exact ret1 Tryz.results7 rv_t fun w' hw=>⟨rfl,hw.sub (List.nil_sublist _)⟩
theorem law_Objected_y_no (w:World) (p:Pn) (c:Cs) (ga aa va:Option Addr) (gc ac vc:Nat) (now ver zd zv zl zver no:Int) (lt:Nat) (xx:Nat) (hg:LC w) (hrg:Rd w ga (is p.gs)) (hgc:p.gs.length ≤ gc) (hra:Rd w aa (apc c.ap)) (hac:c.ap.length ≤ ac) (hrv:Rd w va (vtc c.vt)) (hvc:c.vt.length ≤ vc) (hfew:Few p c) (hok:ApOk w c.ap) (hcp:∀ z ∈ c.ap,z.q.length ≤ z.c) (hR:R5 c) (hRd:R64 zd) (hlt:lt < 65536) (hfin:FinOk p c now ver xx) (hoin:ObR2 c zd (c.st + no % 2 ^ 10 % p.cool)) (e2:Int) (hee2:obE [⟨zd,(pp 4 (k5N no):Nat),zl,zver,false⟩] c zd (c.st + p.cool + no % 2 ^ 4) (k5N no:Nat) = e2) (hne2:e2 ≠ 0) (hd:DirOk [⟨zd,(pp 4 (k5N no):Nat),zl,zver,false⟩]):Pure Tryz.prog 7 [.agg #[I p.id,I p.rk,.slice ga p.gs.length gc,I p.need,I p.cool],.agg #[I c.p,I c.d,I c.v,I c.l,I c.st,.slice aa c.ap.length ac,.slice va c.vt.length vc],I now,I ver,I (xx:Nat),.agg #[I zd,I zv,I zl,I zver,.bool false],I no,.int .u16 ((lt:Nat):Int)] w (.bool true):=by
  have hgl:p.gs.length ≤ 1000000:=Nat.le_trans hfew.g (by decide)
  have hal:c.ap.length ≤ 1000000:=Nat.le_trans hfew.n (by decide)
  have hvl:c.vt.length ≤ 1000000:=Nat.le_trans hfew.v (by decide)
  obtain ⟨hPr,hB,hvt0,hnow,_⟩:=stE_inv hfin.st
  have hfs:=hB.fs
  have hcl:=hPr.cool
  obtain ⟨n10,h10⟩:∃ n10,n10 = no % 2 ^ 10:=⟨_,rfl⟩
  have h10b:0 ≤ n10 ∧ n10 < 1024:=by omega
  obtain ⟨n11,h11⟩:∃ n11,n11 = n10 % p.cool:=⟨_,rfl⟩
  have h11a:0 ≤ n11:=by rw [h11]; exact Int.emod_nonneg _ (by omega)
  have h11b:n11 < p.cool:=by rw [h11]; exact Int.emod_lt_of_pos _ (by omega)
  obtain ⟨n4,h4⟩:∃ n4,n4 = no % 2 ^ 4:=⟨_,rfl⟩
  have h4b:0 ≤ n4 ∧ n4 < 16:=by omega
  obtain ⟨nw,hnw⟩:∃ nw,nw = IntKind.i64.wrap (now + ((lt:Nat):Int)):=⟨_,rfl⟩
  rw [← h10,← h11] at hoin
  rw [← h4] at hee2
  have hin:∀ k nw,stE p (vtd c (nVt c zd (c.st + n11) k)) nw = 392:=fun k nw=>stE_392 hPr (blg_vtd hB hoin.n) (any_last (decide_eq_true (by show c.st ≤ c.st + n11 ∧ c.st + n11 ≤ c.st + p.cool - 1; omega)))
  refine enter Tryz.func7 Tryz.ntmps7 ?_
  refine c_seq<|c_reg<|s_box rfl fun b8=>s_box rfl fun b9=>s_box rfl fun b13=>s_y y_as<|s_nil<|q_then<|c_seq<|c_seq<|c_reg<|s_pure (fun w' hw=>law_sane_ok w' (hg.st hw))<|s_y (v:=.bool false) (y_not (b:=true))<|s_nil<|q_then<|c_f<|c_skip<|q_then<|c_seq<|c_seq<|c_reg<|s_y (y_lda (b:=b8) (cs:=#[I p.id,I p.rk,.slice ga p.gs.length gc,I p.need,I p.cool]) (hl:=rfl))<|s_y (y_lda (b:=b9) (cs:=#[I c.p,I c.d,I c.v,I c.l,I c.st,.slice aa c.ap.length ac,.slice va c.vt.length vc]) (hl:=rfl))<|s_pure (fun w' hw=>(by have h9:=Few39_ok w' p c ga aa va gc ac vc (hra.st hw) (by omega); rw [fewB_t hfew] at h9; exact h9))<|s_y (v:=.bool false) (y_not (b:=true))<|s_nil<|q_then<|c_f<|c_skip<|q_then<|c_seq<|c_reg<|s_y (y_lda (b:=b8) (cs:=#[I p.id,I p.rk,.slice ga p.gs.length gc,I p.need,I p.cool]) (hl:=rfl))<|s_y (y_lda (b:=b9) (cs:=#[I c.p,I c.d,I c.v,I c.l,I c.st,.slice aa c.ap.length ac,.slice va c.vt.length vc]) (hl:=rfl))<|s_y y_mv<|s_y y_mv<|s_y y_mv<|s_pure (fun w' hw=>Finish_yes w' p c now ver ga aa va gc ac vc ⟨(hrg.st hw),(hra.st hw),(hrv.st hw),hgl,hal,hvl,hac,hR,hcp,(hok.st hw),(hg.st hw)⟩ xx hfin)<|s_y y_mv<|s_y y_ext<|s_y y_ext<|s_alloc fun b17=>s_sta (b:=b17) (vs:=#[I 3,I ((c).d),I ((c).v),I ((c).l),I ver,I (-1),I (sgR ((jnV (isort (shL xx c p.need.toNat))).toNat) (cmsg [3,(c).d,(c).v,(c).l,ver,-1]):Nat),I (sgS ((jnV (isort (shL xx c p.need.toNat))).toNat) (cmsg [3,(c).d,(c).v,(c).l,ver,-1]):Nat)]) (cs:=#[I 0,I 0,I 0,I 0,I 0,I 0,I 0,I 0]) (h1:=by intro u hu; simp at hu; rcases hu with rfl | rfl | rfl | rfl | rfl | rfl | rfl | rfl <;> rfl) (hl:=(show (8:Nat) = 8 from rfl)) (hs1:=rfl) ?_
  refine s_y y_as<|s_nil<|q_then<|c_seq<|c_seq<|c_reg<|s_y y_mv<|s_nf (y_neq (p:=0) (q:=0)) (by omega)<|s_nil<|q_then<|c_f<|c_skip<|q_then<|c_seq<|c_reg<|s_y y_mv<|s_pure (fun w' hw=>r5_Key_ok w' no)<|s_y y_as<|s_nil<|q_then<|c_seq<|c_reg<|s_y y_mv<|s_pure (fun w' hw=>sPublic_yes w' (k5N no) (k5N_pos _) (k5N_lt _))<|s_y y_mv<|s_y y_ext<|s_y y_ext<|s_y y_fa<|s_st (b:=b13) (v:=I (pp 4 (k5N no):Nat)) (cs:=#[I zd,I zv,I zl,I zver,.bool false]) (hl:=by simp) ?_
  refine s_nil<|q_then<|c_seq<|c_regd<|d_y y_fa<|d_y (y_ld (b:=b9) (v:=I c.st))<|d_y y_mv<|d_y (y_andm (m:=10) (p:=no) (q:=1023) (hq:=rfl) (hm:=by decide))<|?_
  rw [← h10]
  refine d_y y_fa<|d_y (y_ld (b:=b8) (v:=I p.cool))<|d_y (y_rem (p:=n10) (q:=p.cool))<|?_
  rw [← h11]
  refine d_y (y_add (p:=c.st) (q:=n11))<|d_y y_as<|d_nil<|q_then<|c_seq<|c_reg<|s_y y_fa<|s_y (y_ld (b:=b9) (v:=I c.st))<|s_y y_fa<|s_y (y_ld (b:=b8) (v:=I p.cool))<|s_y (y_add (p:=c.st) (q:=p.cool))<|s_y y_mv<|s_y (y_andm (m:=4) (p:=no) (q:=15) (hq:=rfl) (hm:=by decide))<|?_
  rw [← h4]
  refine s_y (y_add (p:=c.st + p.cool) (q:=n4))<|s_y y_as<|s_nil<|q_then<|c_seq<|c_reg<|s_y (y_lda (b:=b9) (cs:=#[I c.p,I c.d,I c.v,I c.l,I c.st,.slice aa c.ap.length ac,.slice va c.vt.length vc]) (hl:=rfl))<|s_y (y_lda (b:=b13) (cs:=#[I zd,I (pp 4 (k5N no):Nat),I zl,I zver,.bool false]) (hl:=rfl))<|s_bslr (cs:=[I zd,I (pp 4 (k5N no):Nat),I zl,I zver,.bool false]) fun b77=>s_y y_fa<|s_y (y_ld (b:=b13) (v:=I zd))<|s_y y_mv<|s_y y_mv<|s_gives (fun w' hw=>Object_y w' c aa va (some ⟨b77,0,none⟩) ac vc 1 [⟨zd,(pp 4 (k5N no):Nat),zl,zver,false⟩] zd (c.st + n11) (k5N no) (hg.st hw) (rdR (.head _) w' hw) (show 1 ≤ 1000000 by decide) (hrv.st hw) hvc hvl 0 _ _ _ hd rfl hoin (k5N_pos _) (k5N_lt _) rfl hR (by have:=hB.fs; have:=hPr.cool; unfold R64; omega) hRd) fun (x82:Option Addr × Nat) _=>s_y y_mv<|s_y y_ext<|s_y y_ext<|s_alloc fun b22=>s_sta (b:=b22) (vs:=#[I c.p,I c.d,I c.v,I c.l,I c.st,.slice aa c.ap.length ac,.slice x82.1 (c.vt.length + 1) x82.2]) (cs:=#[I 0,I 0,I 0,I 0,I 0,.slice none 0 0,.slice none 0 0]) (h1:=one_allA rfl) (hl:=rfl) (hs1:=rfl) ?_
  refine s_y y_as<|s_nil<|q_then<|c_seq<|c_seq<|c_reg<|s_y y_mv<|s_kt (y_eql (p:=0) (q:=0)) (by omega)<|s_nil<|q_then<|c_t<|c_seq<|c_reg<|s_y (y_lda (b:=b8) (cs:=#[I p.id,I p.rk,.slice ga p.gs.length gc,I p.need,I p.cool]) (hl:=rfl))<|s_y (y_lda (b:=b22) (cs:=#[I c.p,I c.d,I c.v,I c.l,I c.st,.slice aa c.ap.length ac,.slice x82.1 (c.vt.length + 1) x82.2]) (hl:=rfl))<|s_y y_mv<|s_y y_mv<|s_y (y_cvn (k:=.i64) (p:=((lt:Nat):Int)) (hw:=wrap_i64 (by unfold R64; omega)))<|s_y (y_addwI (p:=now) (q:=((lt:Nat):Int)))<|?_
  rw [← hnw]
  refine s_y y_mv<|s_y y_mv<|s_pure (fun w' hw=>(by have h9:=(by have h9:=Finish_st w' p (vtd c (nVt c zd (c.st + n11) (k5N no))) nw ver ga aa x82.1 gc ac x82.2 (hrg.st hw) (hra.st hw) (rdR (.tail _ (.head _)) w' hw) hgl hal (by show (c.vt ++ [_]).length ≤ 1000000; rw [List.length_append,List.length_singleton]; have:=hfew.v; omega) (xx:Nat) (by rw [hin _ nw]; decide); rw [hin _ nw] at h9; exact h9); rw [vtd_len] at h9; exact h9))<|s_y y_mv<|s_y y_ext<|s_y y_ext<|s_alloc fun b24=>s_sta (b:=b24) (vs:=#[I 0,I 0,I 0,I 0,I 0,I 0,I 0,I 0]) (cs:=#[I 0,I 0,I 0,I 0,I 0,I 0,I 0,I 0]) (h1:=one_allA rfl) (hl:=(show (8:Nat) = 8 from rfl)) (hs1:=rfl) ?_
  refine s_y y_as<|s_nil<|q_then<|c_seq<|c_reg<|s_y y_mv<|s_nf (y_neq (p:=392) (q:=392)) (by omega)<|s_y y_mv<|s_y (y_lda (b:=b8) (cs:=#[I p.id,I p.rk,.slice ga p.gs.length gc,I p.need,I p.cool]) (hl:=rfl))<|s_y (y_lda (b:=b22) (cs:=#[I c.p,I c.d,I c.v,I c.l,I c.st,.slice aa c.ap.length ac,.slice x82.1 (c.vt.length + 1) x82.2]) (hl:=rfl))<|s_y y_mv<|s_y y_mv<|s_y (y_cvn (k:=.i64) (p:=((lt:Nat):Int)) (hw:=wrap_i64 (by unfold R64; omega)))<|s_y (y_addwI (p:=now) (q:=((lt:Nat):Int)))<|?_
  rw [← hnw]
  refine s_pure (fun w' hw=>(by have h9:=(by have h9:=State_ok w' p (vtd c (nVt c zd (c.st + n11) (k5N no))) nw ga aa x82.1 gc ac x82.2 (hrg.st hw) (hra.st hw) (rdR (.tail _ (.tail _ (.head _))) w' hw) hgl hal (by show (c.vt ++ [_]).length ≤ 1000000; rw [List.length_append,List.length_singleton]; have:=hfew.v; omega); rw [hin _ nw] at h9; exact h9); rw [vtd_len] at h9; exact h9))<|s_nf (y_neq (p:=392) (q:=392)) (by omega)<|s_y y_pk<|s_nil<|q_then<|c_f<|c_skip<|q_then<|c_seq<|c_reg<|s_y (y_lda (b:=b9) (cs:=#[I c.p,I c.d,I c.v,I c.l,I c.st,.slice aa c.ap.length ac,.slice va c.vt.length vc]) (hl:=rfl))<|s_y (y_lda (b:=b13) (cs:=#[I zd,I (pp 4 (k5N no):Nat),I zl,I zver,.bool false]) (hl:=rfl))<|s_bslr (cs:=[I zd,I (pp 4 (k5N no):Nat),I zl,I zver,.bool false]) fun b114=>s_y y_fa<|s_y (y_ld (b:=b13) (v:=I zd))<|s_y y_mv<|s_y y_mv<|s_pure (fun w' hw=>(hee2 ▸ Object_no w' c aa va (some ⟨b114,0,none⟩) ac vc 1 [⟨zd,(pp 4 (k5N no):Nat),zl,zver,false⟩] zd ((c.st + p.cool) + n4) (k5N no) (hg.st hw) (rdR (.head _) w' hw) (show 1 ≤ 1000000 by decide) (hrv.st hw) hvl (hee2 ▸ hne2)))<|s_y y_mv<|s_y y_ext<|s_y y_ext<|s_alloc fun b26=>s_sta (b:=b26) (vs:=#[I 0,I 0,I 0,I 0,I 0,.slice none 0 0,.slice none 0 0]) (cs:=#[I 0,I 0,I 0,I 0,I 0,.slice none 0 0,.slice none 0 0]) (h1:=one_allA rfl) (hl:=rfl) (hs1:=rfl) ?_
  refine s_y y_as<|s_nil<|q_then<|c_seq<|c_seq<|c_reg<|s_y y_mv<|s_nt (y_neq (p:=e2) (q:=0)) hne2<|s_nil<|q_then<|c_t<|c_seq<|c_reg<|s_y y_as<|s_nil<|q_then<|c_ret<|q_ret<|?_
  exact ret1 Tryz.results7 rv_t fun w' hw=>⟨rfl,hw.sub (List.nil_sublist _)⟩
theorem law_Objected_y_y (w:World) (p:Pn) (c:Cs) (ga aa va:Option Addr) (gc ac vc:Nat) (now ver zd zv zl zver no:Int) (lt:Nat) (xx:Nat) (hg:LC w) (hrg:Rd w ga (is p.gs)) (hgc:p.gs.length ≤ gc) (hra:Rd w aa (apc c.ap)) (hac:c.ap.length ≤ ac) (hrv:Rd w va (vtc c.vt)) (hvc:c.vt.length ≤ vc) (hfew:Few p c) (hok:ApOk w c.ap) (hcp:∀ z ∈ c.ap,z.q.length ≤ z.c) (hR:R5 c) (hRd:R64 zd) (hlt:lt < 65536) (hfin:FinOk p c now ver xx) (hoin:ObR2 c zd (c.st + no % 2 ^ 10 % p.cool)) (hoout:ObR2 c zd (c.st + p.cool + no % 2 ^ 4)) (hd:DirOk [⟨zd,(pp 4 (k5N no):Nat),zl,zver,false⟩]):Pure Tryz.prog 7 [.agg #[I p.id,I p.rk,.slice ga p.gs.length gc,I p.need,I p.cool],.agg #[I c.p,I c.d,I c.v,I c.l,I c.st,.slice aa c.ap.length ac,.slice va c.vt.length vc],I now,I ver,I (xx:Nat),.agg #[I zd,I zv,I zl,I zver,.bool false],I no,.int .u16 ((lt:Nat):Int)] w (.bool true):=by
  have hgl:p.gs.length ≤ 1000000:=Nat.le_trans hfew.g (by decide)
  have hal:c.ap.length ≤ 1000000:=Nat.le_trans hfew.n (by decide)
  have hvl:c.vt.length ≤ 1000000:=Nat.le_trans hfew.v (by decide)
  obtain ⟨hPr,hB,hvt0,hnow,_⟩:=stE_inv hfin.st
  have hfs:=hB.fs
  have hcl:=hPr.cool
  obtain ⟨n10,h10⟩:∃ n10,n10 = no % 2 ^ 10:=⟨_,rfl⟩
  have h10b:0 ≤ n10 ∧ n10 < 1024:=by omega
  obtain ⟨n11,h11⟩:∃ n11,n11 = n10 % p.cool:=⟨_,rfl⟩
  have h11a:0 ≤ n11:=by rw [h11]; exact Int.emod_nonneg _ (by omega)
  have h11b:n11 < p.cool:=by rw [h11]; exact Int.emod_lt_of_pos _ (by omega)
  obtain ⟨n4,h4⟩:∃ n4,n4 = no % 2 ^ 4:=⟨_,rfl⟩
  have h4b:0 ≤ n4 ∧ n4 < 16:=by omega
  obtain ⟨nw,hnw⟩:∃ nw,nw = IntKind.i64.wrap (now + ((lt:Nat):Int)):=⟨_,rfl⟩
  rw [← h10,← h11] at hoin
  rw [← h4] at hoout
  have hin:∀ k nw,stE p (vtd c (nVt c zd (c.st + n11) k)) nw = 392:=fun k nw=>stE_392 hPr (blg_vtd hB hoin.n) (any_last (decide_eq_true (by show c.st ≤ c.st + n11 ∧ c.st + n11 ≤ c.st + p.cool - 1; omega)))
  have hout:∀ k,FinOk p (vtd c (nVt c zd (c.st + p.cool + n4) k)) now ver xx:=fun k=>fin_vtd hfin hoout.n (by show ¬ (c.st ≤ c.st + p.cool + n4 ∧ c.st + p.cool + n4 ≤ c.st + p.cool - 1); omega)
  refine enter Tryz.func7 Tryz.ntmps7 ?_
  refine c_seq<|c_reg<|s_box rfl fun b8=>s_box rfl fun b9=>s_box rfl fun b13=>s_y y_as<|s_nil<|q_then<|c_seq<|c_seq<|c_reg<|s_pure (fun w' hw=>law_sane_ok w' (hg.st hw))<|s_y (v:=.bool false) (y_not (b:=true))<|s_nil<|q_then<|c_f<|c_skip<|q_then<|c_seq<|c_seq<|c_reg<|s_y (y_lda (b:=b8) (cs:=#[I p.id,I p.rk,.slice ga p.gs.length gc,I p.need,I p.cool]) (hl:=rfl))<|s_y (y_lda (b:=b9) (cs:=#[I c.p,I c.d,I c.v,I c.l,I c.st,.slice aa c.ap.length ac,.slice va c.vt.length vc]) (hl:=rfl))<|s_pure (fun w' hw=>(by have h9:=Few39_ok w' p c ga aa va gc ac vc (hra.st hw) (by omega); rw [fewB_t hfew] at h9; exact h9))<|s_y (v:=.bool false) (y_not (b:=true))<|s_nil<|q_then<|c_f<|c_skip<|q_then<|c_seq<|c_reg<|s_y (y_lda (b:=b8) (cs:=#[I p.id,I p.rk,.slice ga p.gs.length gc,I p.need,I p.cool]) (hl:=rfl))<|s_y (y_lda (b:=b9) (cs:=#[I c.p,I c.d,I c.v,I c.l,I c.st,.slice aa c.ap.length ac,.slice va c.vt.length vc]) (hl:=rfl))<|s_y y_mv<|s_y y_mv<|s_y y_mv<|s_pure (fun w' hw=>Finish_yes w' p c now ver ga aa va gc ac vc ⟨(hrg.st hw),(hra.st hw),(hrv.st hw),hgl,hal,hvl,hac,hR,hcp,(hok.st hw),(hg.st hw)⟩ xx hfin)<|s_y y_mv<|s_y y_ext<|s_y y_ext<|s_alloc fun b17=>s_sta (b:=b17) (vs:=#[I 3,I ((c).d),I ((c).v),I ((c).l),I ver,I (-1),I (sgR ((jnV (isort (shL xx c p.need.toNat))).toNat) (cmsg [3,(c).d,(c).v,(c).l,ver,-1]):Nat),I (sgS ((jnV (isort (shL xx c p.need.toNat))).toNat) (cmsg [3,(c).d,(c).v,(c).l,ver,-1]):Nat)]) (cs:=#[I 0,I 0,I 0,I 0,I 0,I 0,I 0,I 0]) (h1:=by intro u hu; simp at hu; rcases hu with rfl | rfl | rfl | rfl | rfl | rfl | rfl | rfl <;> rfl) (hl:=(show (8:Nat) = 8 from rfl)) (hs1:=rfl) ?_
  refine s_y y_as<|s_nil<|q_then<|c_seq<|c_seq<|c_reg<|s_y y_mv<|s_nf (y_neq (p:=0) (q:=0)) (by omega)<|s_nil<|q_then<|c_f<|c_skip<|q_then<|c_seq<|c_reg<|s_y y_mv<|s_pure (fun w' hw=>r5_Key_ok w' no)<|s_y y_as<|s_nil<|q_then<|c_seq<|c_reg<|s_y y_mv<|s_pure (fun w' hw=>sPublic_yes w' (k5N no) (k5N_pos _) (k5N_lt _))<|s_y y_mv<|s_y y_ext<|s_y y_ext<|s_y y_fa<|s_st (b:=b13) (v:=I (pp 4 (k5N no):Nat)) (cs:=#[I zd,I zv,I zl,I zver,.bool false]) (hl:=by simp) ?_
  refine s_nil<|q_then<|c_seq<|c_regd<|d_y y_fa<|d_y (y_ld (b:=b9) (v:=I c.st))<|d_y y_mv<|d_y (y_andm (m:=10) (p:=no) (q:=1023) (hq:=rfl) (hm:=by decide))<|?_
  rw [← h10]
  refine d_y y_fa<|d_y (y_ld (b:=b8) (v:=I p.cool))<|d_y (y_rem (p:=n10) (q:=p.cool))<|?_
  rw [← h11]
  refine d_y (y_add (p:=c.st) (q:=n11))<|d_y y_as<|d_nil<|q_then<|c_seq<|c_reg<|s_y y_fa<|s_y (y_ld (b:=b9) (v:=I c.st))<|s_y y_fa<|s_y (y_ld (b:=b8) (v:=I p.cool))<|s_y (y_add (p:=c.st) (q:=p.cool))<|s_y y_mv<|s_y (y_andm (m:=4) (p:=no) (q:=15) (hq:=rfl) (hm:=by decide))<|?_
  rw [← h4]
  refine s_y (y_add (p:=c.st + p.cool) (q:=n4))<|s_y y_as<|s_nil<|q_then<|c_seq<|c_reg<|s_y (y_lda (b:=b9) (cs:=#[I c.p,I c.d,I c.v,I c.l,I c.st,.slice aa c.ap.length ac,.slice va c.vt.length vc]) (hl:=rfl))<|s_y (y_lda (b:=b13) (cs:=#[I zd,I (pp 4 (k5N no):Nat),I zl,I zver,.bool false]) (hl:=rfl))<|s_bslr (cs:=[I zd,I (pp 4 (k5N no):Nat),I zl,I zver,.bool false]) fun b77=>s_y y_fa<|s_y (y_ld (b:=b13) (v:=I zd))<|s_y y_mv<|s_y y_mv<|s_gives (fun w' hw=>Object_y w' c aa va (some ⟨b77,0,none⟩) ac vc 1 [⟨zd,(pp 4 (k5N no):Nat),zl,zver,false⟩] zd (c.st + n11) (k5N no) (hg.st hw) (rdR (.head _) w' hw) (show 1 ≤ 1000000 by decide) (hrv.st hw) hvc hvl 0 _ _ _ hd rfl hoin (k5N_pos _) (k5N_lt _) rfl hR (by have:=hB.fs; have:=hPr.cool; unfold R64; omega) hRd) fun (x82:Option Addr × Nat) _=>s_y y_mv<|s_y y_ext<|s_y y_ext<|s_alloc fun b22=>s_sta (b:=b22) (vs:=#[I c.p,I c.d,I c.v,I c.l,I c.st,.slice aa c.ap.length ac,.slice x82.1 (c.vt.length + 1) x82.2]) (cs:=#[I 0,I 0,I 0,I 0,I 0,.slice none 0 0,.slice none 0 0]) (h1:=one_allA rfl) (hl:=rfl) (hs1:=rfl) ?_
  refine s_y y_as<|s_nil<|q_then<|c_seq<|c_seq<|c_reg<|s_y y_mv<|s_kt (y_eql (p:=0) (q:=0)) (by omega)<|s_nil<|q_then<|c_t<|c_seq<|c_reg<|s_y (y_lda (b:=b8) (cs:=#[I p.id,I p.rk,.slice ga p.gs.length gc,I p.need,I p.cool]) (hl:=rfl))<|s_y (y_lda (b:=b22) (cs:=#[I c.p,I c.d,I c.v,I c.l,I c.st,.slice aa c.ap.length ac,.slice x82.1 (c.vt.length + 1) x82.2]) (hl:=rfl))<|s_y y_mv<|s_y y_mv<|s_y (y_cvn (k:=.i64) (p:=((lt:Nat):Int)) (hw:=wrap_i64 (by unfold R64; omega)))<|s_y (y_addwI (p:=now) (q:=((lt:Nat):Int)))<|?_
  rw [← hnw]
  refine s_y y_mv<|s_y y_mv<|s_pure (fun w' hw=>(by have h9:=(by have h9:=Finish_st w' p (vtd c (nVt c zd (c.st + n11) (k5N no))) nw ver ga aa x82.1 gc ac x82.2 (hrg.st hw) (hra.st hw) (rdR (.tail _ (.head _)) w' hw) hgl hal (by show (c.vt ++ [_]).length ≤ 1000000; rw [List.length_append,List.length_singleton]; have:=hfew.v; omega) (xx:Nat) (by rw [hin _ nw]; decide); rw [hin _ nw] at h9; exact h9); rw [vtd_len] at h9; exact h9))<|s_y y_mv<|s_y y_ext<|s_y y_ext<|s_alloc fun b24=>s_sta (b:=b24) (vs:=#[I 0,I 0,I 0,I 0,I 0,I 0,I 0,I 0]) (cs:=#[I 0,I 0,I 0,I 0,I 0,I 0,I 0,I 0]) (h1:=one_allA rfl) (hl:=(show (8:Nat) = 8 from rfl)) (hs1:=rfl) ?_
  refine s_y y_as<|s_nil<|q_then<|c_seq<|c_reg<|s_y y_mv<|s_nf (y_neq (p:=392) (q:=392)) (by omega)<|s_y y_mv<|s_y (y_lda (b:=b8) (cs:=#[I p.id,I p.rk,.slice ga p.gs.length gc,I p.need,I p.cool]) (hl:=rfl))<|s_y (y_lda (b:=b22) (cs:=#[I c.p,I c.d,I c.v,I c.l,I c.st,.slice aa c.ap.length ac,.slice x82.1 (c.vt.length + 1) x82.2]) (hl:=rfl))<|s_y y_mv<|s_y y_mv<|s_y (y_cvn (k:=.i64) (p:=((lt:Nat):Int)) (hw:=wrap_i64 (by unfold R64; omega)))<|s_y (y_addwI (p:=now) (q:=((lt:Nat):Int)))<|?_
  rw [← hnw]
  refine s_pure (fun w' hw=>(by have h9:=(by have h9:=State_ok w' p (vtd c (nVt c zd (c.st + n11) (k5N no))) nw ga aa x82.1 gc ac x82.2 (hrg.st hw) (hra.st hw) (rdR (.tail _ (.tail _ (.head _))) w' hw) hgl hal (by show (c.vt ++ [_]).length ≤ 1000000; rw [List.length_append,List.length_singleton]; have:=hfew.v; omega); rw [hin _ nw] at h9; exact h9); rw [vtd_len] at h9; exact h9))<|s_nf (y_neq (p:=392) (q:=392)) (by omega)<|s_y y_pk<|s_nil<|q_then<|c_f<|c_skip<|q_then<|c_seq<|c_reg<|s_y (y_lda (b:=b9) (cs:=#[I c.p,I c.d,I c.v,I c.l,I c.st,.slice aa c.ap.length ac,.slice va c.vt.length vc]) (hl:=rfl))<|s_y (y_lda (b:=b13) (cs:=#[I zd,I (pp 4 (k5N no):Nat),I zl,I zver,.bool false]) (hl:=rfl))<|s_bslr (cs:=[I zd,I (pp 4 (k5N no):Nat),I zl,I zver,.bool false]) fun b114=>s_y y_fa<|s_y (y_ld (b:=b13) (v:=I zd))<|s_y y_mv<|s_y y_mv<|s_gives (fun w' hw=>Object_y w' c aa va (some ⟨b114,0,none⟩) ac vc 1 [⟨zd,(pp 4 (k5N no):Nat),zl,zver,false⟩] zd ((c.st + p.cool) + n4) (k5N no) (hg.st hw) (rdR (.head _) w' hw) (show 1 ≤ 1000000 by decide) (hrv.st hw) hvc hvl 0 _ _ _ hd rfl hoout (k5N_pos _) (k5N_lt _) rfl hR (by have:=hB.fs; have:=hPr.cool; unfold R64; omega) hRd) fun (x119:Option Addr × Nat) _=>s_y y_mv<|s_y y_ext<|s_y y_ext<|s_alloc fun b26=>s_sta (b:=b26) (vs:=#[I c.p,I c.d,I c.v,I c.l,I c.st,.slice aa c.ap.length ac,.slice x119.1 (c.vt.length + 1) x119.2]) (cs:=#[I 0,I 0,I 0,I 0,I 0,.slice none 0 0,.slice none 0 0]) (h1:=one_allA rfl) (hl:=rfl) (hs1:=rfl) ?_
  refine s_y y_as<|s_nil<|q_then<|c_seq<|c_seq<|c_reg<|s_y y_mv<|s_nf (y_neq (p:=0) (q:=0)) (by omega)<|s_nil<|q_then<|c_f<|c_skip<|q_then<|c_seq<|c_reg<|s_y (y_lda (b:=b8) (cs:=#[I p.id,I p.rk,.slice ga p.gs.length gc,I p.need,I p.cool]) (hl:=rfl))<|s_y (y_lda (b:=b26) (cs:=#[I c.p,I c.d,I c.v,I c.l,I c.st,.slice aa c.ap.length ac,.slice x119.1 (c.vt.length + 1) x119.2]) (hl:=rfl))<|s_y y_mv<|s_y y_mv<|s_y y_mv<|s_pure (fun w' hw=>(by have h9:=Finish_yes w' p (vtd c (nVt c zd ((c.st + p.cool) + n4) (k5N no))) now ver ga aa x119.1 gc ac x119.2 ⟨(hrg.st hw),(hra.st hw),(rdR (.tail _ (.head _)) w' hw),hgl,hal,(by show (c.vt ++ [_]).length ≤ 1000000; rw [List.length_append,List.length_singleton]; have:=hfew.v; omega),hac,hR,hcp,(hok.st hw),(hg.st hw)⟩ xx (hout _); rw [vtd_len] at h9; exact h9))<|s_y y_mv<|s_y y_ext<|s_y y_ext<|s_alloc fun b28=>s_sta (b:=b28) (vs:=#[I 3,I ((c).d),I ((c).v),I ((c).l),I ver,I (-1),I (sgR ((jnV (isort (shL xx c p.need.toNat))).toNat) (cmsg [3,(c).d,(c).v,(c).l,ver,-1]):Nat),I (sgS ((jnV (isort (shL xx c p.need.toNat))).toNat) (cmsg [3,(c).d,(c).v,(c).l,ver,-1]):Nat)]) (cs:=#[I 0,I 0,I 0,I 0,I 0,I 0,I 0,I 0]) (h1:=by intro u hu; simp at hu; rcases hu with rfl | rfl | rfl | rfl | rfl | rfl | rfl | rfl <;> rfl) (hl:=(show (8:Nat) = 8 from rfl)) (hs1:=rfl) ?_
  refine s_y y_as<|s_nil<|q_then<|c_seq<|c_reg<|s_y y_mv<|s_kt (y_eql (p:=0) (q:=0)) (by omega)<|s_y y_mv<|s_y (y_lda (b:=b28) (cs:=#[I 3,I ((c).d),I ((c).v),I ((c).l),I ver,I (-1),I (sgR ((jnV (isort (shL xx c p.need.toNat))).toNat) (cmsg [3,(c).d,(c).v,(c).l,ver,-1]):Nat),I (sgS ((jnV (isort (shL xx c p.need.toNat))).toNat) (cmsg [3,(c).d,(c).v,(c).l,ver,-1]):Nat)]) (hl:=rfl))<|s_y (y_lda (b:=b17) (cs:=#[I 3,I ((c).d),I ((c).v),I ((c).l),I ver,I (-1),I (sgR ((jnV (isort (shL xx c p.need.toNat))).toNat) (cmsg [3,(c).d,(c).v,(c).l,ver,-1]):Nat),I (sgS ((jnV (isort (shL xx c p.need.toNat))).toNat) (cmsg [3,(c).d,(c).v,(c).l,ver,-1]):Nat)]) (hl:=rfl))<|s_y y_eqlCt<|s_y y_pk<|s_y y_as<|s_nil<|q_then<|c_ret<|?_
  exact ret1 Tryz.results7 rv_t fun w' hw=>⟨rfl,hw.sub (List.nil_sublist _)⟩
end Go.Proofs.YtojohglifijnnaaGreatDoor
end
section
namespace Go.Proofs.YtojohglifijnnaaGreatDoor
open Go Eng Gf Sha Sig Wr Cod Cha Rst
set_option maxRecDepth 100000
set_option linter.all false
theorem Finish_noW (p:Pn) (c:Cs) (now ver:Int) (x:Int) (hf:∀ n:Nat,x = n → ¬ FinOk p c now ver n):∃ e,e ≠ 0 ∧ ∀ (w:World) (ga aa va:Option Addr) (gc ac vc:Nat),FinW w p c ga aa va gc ac vc → Pure Tryz.prog 29 [.agg #[I p.id,I p.rk,.slice ga p.gs.length gc,I p.need,I p.cool],.agg #[I c.p,I c.d,I c.v,I c.l,I c.st,.slice aa c.ap.length ac,.slice va c.vt.length vc],I now,I ver,I x] w (.tuple #[.agg #[I 0,I 0,I 0,I 0,I 0,I 0,I 0,I 0],I e]):=by
  by_cases hst:stE p c now = 0
  · cases hx:pvB x with
    | false=>exact ⟨50,by decide,fun w ga aa va gc ac vc h=>Finish_pub w p c now ver ga aa va gc ac vc h.rg h.ra h.rv h.gl h.al h.vl x hst hx⟩
    | true =>
      obtain ⟨n,rfl,hx0,hx1⟩:=pvB_nat hx
      by_cases hv:((pp 4 n:Nat):Int) = c.l
      · have hp:=(stE_inv hst).1
        have hnd:=hp.need
        have hgl:=hp.gl
        have hcn:=(stE_inv hst).2.2.2.2
        have hnn:p.need = ((p.need.toNat:Nat):Int):=by omega
        by_cases hall:∀ k z,k < p.need.toNat → c.ap[k]? = some z → shE n c z = 0
        · by_cases hch:chS (isort (shL n c p.need.toNat)) = 0
          · obtain ⟨hr1,hr2⟩:=jn_lt hch
            by_cases hr0:(jnV (isort (shL n c p.need.toNat))).toNat = 0
            · exact ⟨80,by decide,fun w ga aa va gc ac vc h=>Finish_zero w p c now ver ga aa va gc ac vc h.rg h.ra h.rv h.gl h.al h.vl hst n hx0 hx1 hv h.ac' h.r5 h.cp h.ql h.rd p.need.toNat hnn (by omega) hall _ hr1 hch hr2 hr0⟩
            · by_cases hrk:((pp 4 (jnV (isort (shL n c p.need.toNat))).toNat:Nat):Int) = p.rk
              · by_cases hcr:CrRt c.d c.v c.l ver
                · exact absurd ⟨hst,hx0,hx1,hv,hall,hch,hr0,hrk,hcr⟩ (hf n rfl)
                · exact ⟨370,by decide,fun w ga aa va gc ac vc h=>Finish_ver w p c now ver ga aa va gc ac vc h.rg h.ra h.rv h.gl h.al h.vl hst n hx0 hx1 hv h.ac' h.r5 h.cp h.ql h.rd p.need.toNat hnn (by omega) hall _ hr1 hch hr2 hr0 hrk hcr⟩
              · exact ⟨80,by decide,fun w ga aa va gc ac vc h=>Finish_key w p c now ver ga aa va gc ac vc h.rg h.ra h.rv h.gl h.al h.vl hst n hx0 hx1 hv h.ac' h.r5 h.cp h.ql h.rd p.need.toNat hnn (by omega) hall _ hr1 hch hr2 hr0 hrk⟩
          · exact ⟨_,hch,fun w ga aa va gc ac vc h=>Finish_join w p c now ver ga aa va gc ac vc h.rg h.ra h.rv h.gl h.al h.vl hst n hx0 hx1 hv h.ac' h.r5 h.cp h.ql h.rd p.need.toNat hnn (by omega) hall hch⟩
        · obtain ⟨m,hm,hmf,hmb⟩:=least_fail (P:=fun k=>∀ z,c.ap[k]? = some z → shE n c z = 0) p.need.toNat (by
            refine Classical.byContradiction fun h9=>hall fun k z hk hz=>?_
            exact Classical.byContradiction fun h8=>h9 ⟨k,hk,fun h7=>h8 (h7 z hz)⟩)
          obtain ⟨zm,hzm⟩:∃ z,c.ap[m]? = some z:=⟨_,List.getElem?_eq_getElem (by omega)⟩
          have hme:shE n c zm ≠ 0:=fun h9=>hmf fun z hz=>by rw [← Option.some.inj (hzm.symm.trans hz)]; exact h9
          exact ⟨_,hme,fun w ga aa va gc ac vc h=>Finish_share w p c now ver ga aa va gc ac vc h.rg h.ra h.rv h.gl h.al h.vl hst n hx0 hx1 hv h.ac' h.r5 h.cp h.ql h.rd p.need.toNat hnn m zm hm hzm hme (fun k z hk hz=>hmb k hk z hz)⟩
      · exact ⟨390,by decide,fun w ga aa va gc ac vc h=>Finish_leaf w p c now ver ga aa va gc ac vc h.rg h.ra h.rv h.gl h.al h.vl n hst hx0 hx1 hv⟩
  · exact ⟨_,hst,fun w ga aa va gc ac vc h=>Finish_st w p c now ver ga aa va gc ac vc h.rg h.ra h.rv h.gl h.al h.vl x hst⟩
theorem law_RestoreObjected_ok (w:World) (hg:LC w) (p:Pn) (c:Cs) (ga aa va:Option Addr) (gc ac vc:Nat) (hP:ArgP w p ga gc) (hC:ArgC w c aa va ac vc)
    (now ver x:Int) (z:Ls) (no:Int) (lt:Nat) (hz:R64 z.d ∧ R64 z.v ∧ R64 z.l ∧ R64 z.ver) (hlt:lt < 65536) :
    Pure Tryz.prog 7 [.agg #[I p.id,I p.rk,.slice ga p.gs.length gc,I p.need,I p.cool],.agg #[I c.p,I c.d,I c.v,I c.l,I c.st,.slice aa c.ap.length ac,.slice va c.vt.length vc],I now,I ver,I x,.agg #[I z.d,I z.v,I z.l,I z.ver,.bool z.gone],I no,.int .u16 ((lt:Nat):Int)] w (.bool true):=by
  have hal:=hC.am
  have hac:=hC.ac'
  obtain ⟨zd,zv,zl,zver,gone⟩:=z
  by_cases hfew:Few p c
  · have hok:=hC.ok hfew
    have hcp:=hC.cp
    by_cases hx:∃ n:Nat,x = n ∧ FinOk p c now ver n
    · obtain ⟨n,rfl,hfin⟩:=hx
      by_cases ha:obE [⟨zd,(pp 4 (k5N no):Nat),zl,zver,gone⟩] c zd (c.st + no % 2 ^ 10 % p.cool) (k5N no:Nat) = 0
      · obtain ⟨hd,hoi,_,kk,zl',zver',hzz⟩:=obE_0 ha
        have hgn:gone = false:=by
          have hk:kk = 0:=by have:=(List.getElem?_eq_some_iff.1 hzz).1; simp at this; omega
          subst hk
          have:=Option.some.inj hzz
          simp only [Ls.mk.injEq] at this
          exact this.2.2.2.2
        subst hgn
        by_cases hb:obE [⟨zd,(pp 4 (k5N no):Nat),zl,zver,false⟩] c zd (c.st + p.cool + no % 2 ^ 4) (k5N no:Nat) = 0
        · obtain ⟨_,hoo,_⟩:=obE_0 hb
          exact law_Objected_y_y w p c ga aa va gc ac vc now ver zd zv zl zver no lt n hg hP.r hP.c hC.ra hC.ac' hC.rv hC.vc' hfew hok hcp hC.r5 hz.1 hlt hfin hoi hoo hd
        · exact law_Objected_y_no w p c ga aa va gc ac vc now ver zd zv zl zver no lt n hg hP.r hP.c hC.ra hC.ac' hC.rv hC.vc' hfew hok hcp hC.r5 hz.1 hlt hfin hoi _ rfl hb hd
      · by_cases hb:obE [⟨zd,(pp 4 (k5N no):Nat),zl,zver,gone⟩] c zd (c.st + p.cool + no % 2 ^ 4) (k5N no:Nat) = 0
        · obtain ⟨hd,hoo,_,kk,zl',zver',hzz⟩:=obE_0 hb
          have hgn:gone = false:=by
            have hk:kk = 0:=by have:=(List.getElem?_eq_some_iff.1 hzz).1; simp at this; omega
            subst hk
            have:=Option.some.inj hzz
            simp only [Ls.mk.injEq] at this
            exact this.2.2.2.2
          subst hgn
          exact law_Objected_no_y w p c ga aa va gc ac vc now ver zd zv zl zver no lt n hg hP.r hP.c hC.ra hC.ac' hC.rv hC.vc' hfew hok hcp hC.r5 hz.1 hlt hfin _ rfl ha hoo hd
        · exact law_Objected_no_no w p c ga aa va gc ac vc now ver zd zv zl zver no lt n gone hg hP.r hP.c hC.ra hC.ac' hC.rv hC.vc' hfew hok hcp hC.r5 hz.1 hlt hfin _ rfl ha _ rfl hb
    · obtain ⟨e,he,hfn⟩:=Finish_noW p c now ver x (fun n hn hf=>hx ⟨n,hn,hf⟩)
      exact law_Objected_no w p c ga aa va gc ac vc now ver zd zv zl zver no lt x gone hg hP.r hP.c hC.ra hC.ac' hC.rv hC.vc' hfew hok hcp hC.r5 e he hfn
  · exact law_Objected_few w p c ga aa va gc ac vc now ver zd zv zl zver no lt x gone hg hP.r hP.c hC.ra hC.ac' hC.rv hC.vc' hfew (by omega)
end Go.Proofs.YtojohglifijnnaaGreatDoor
end
section

end
