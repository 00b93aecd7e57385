/- Joined texts: RtC RtD RtE RtF Law39 LawB39 LawC39 LawG39 OpenX Door39 LawD39. -/
import Derived.WalkKit
import Derived.TacticsInMore
import Derived.OrdersIn
import Derived.RangeFuncCalls
import Derived.Deep.LoopGhost
import Derived.Deep.Quiet
import Derived.KernelRfl
import Derived.Laws.BytesString
import Derived.Laws.StructEq
import Derived.MapKept
import Derived.Laws.IdiomStrings
import Derived.Recover
import Derived.RangeFuncLeaves
import Derived.ChangeKeysEq
import Derived.Maps.RangeRun
import Derived.Laws.Build
import Derived.ProofKit
import Derived.LaidMore
import Derived.LaidHandle
import Derived.OpenShut
import Derived.FnData
import Derived.SizedLaws
import Derived.ChangeMaps5
import Derived.Deep.Slices
import Derived.JoinedOf
import Derived.SevenTiedAt
import Derived.Test.YtojohglifijnnaaGreatDoorChecked
import Derived.Test.YtojohglifijnnaaGreatDoorRows
import Derived.Test.YtojohglifijnnaaGreatDoorCards
import Derived.Test.YtojohglifijnnaaGreatDoorTie
import Derived.Test.YtojohglifijnnaaGreatDoorOj5
set_option linter.all false
section
namespace Eng
open Go Go.RowKit
theorem g_nilrow {P:Program} {n:Nat} {D:List Deferred} {W:World} {Bo:List Nat} {F:List (Nat × Value)} {l:SH} {Q:Exit → Act → World → Prop} {c:Code} (e:TypeId) (s:Nat) (h:CG P n D W Bo c Q F (.row none 0 e s 0 [] :: l)):CG P n D W Bo c Q F l:=fun a w ha hw=>h a w ha (hw.nilRow e s)
end Eng
namespace Rst
open Go Eng Gf Cha
theorem isort_length (l:List (Int × Int)):(isort l).length = l.length:=srtN_length _ _
theorem ApRd.st {c:Cs} {aa:Option Addr} {W w:World} {ps:SH} (h:ApRd c aa W) (hs:St W [] w ps):ApRd c aa w:=⟨h.g.st hs,h.r.st hs,h.o.st hs⟩
end Rst
namespace Go.Proofs.YtojohglifijnnaaGreatDoor
open Go Eng Gf Sha Sig Wr Cod Cha Rst
set_option maxRecDepth 100000
set_option linter.all false
theorem Finish_st (w:World) (p:Pn) (c:Cs) (now ver:Int) (ga aa va:Option Addr) (gc ac vc:Nat) (hrg:Rd w ga (is p.gs)) (hra:Rd w aa (apc c.ap)) (hrv:Rd w va (vtc c.vt)) (hgl:p.gs.length ≤ 1000000) (hal:c.ap.length ≤ 1000000) (hvl:c.vt.length ≤ 1000000) (x:Int) (hst:stE p c now ≠ 0):Pure Tryz.prog 29 [.agg #[I p.id,I p.rk,.slice ga p.gs.length gc,I p.need,I p.cool],.agg #[I c.p,I c.d,I c.v,I c.l,I c.st,.slice aa c.ap.length ac,.slice va c.vt.length vc],I now,I ver,I x] w (.tuple #[.agg #[I 0,I 0,I 0,I 0,I 0,I 0,I 0,I 0],I (stE p c now)]):=by
  refine enterD Tryz.func29 Tryz.ntmps29 ?_
  refine c_seq<|c_reg<|s_box rfl fun b5=>s_box rfl fun b6=>s_alloc fun b10=>s_alloc fun b11=>s_nil<|q_then<|c_seq<|c_reg<|s_y y_func<|s_deferC<|s_nil<|q_then<|c_seq<|c_reg<|s_y (y_lda (b:=b5) (cs:=#[I p.id,I p.rk,.slice ga p.gs.length gc,I p.need,I p.cool]) (hl:=rfl))<|s_y (y_lda (b:=b6) (cs:=#[I c.p,I c.d,I c.v,I c.l,I c.st,.slice aa c.ap.length ac,.slice va c.vt.length vc]) (hl:=rfl))<|s_y y_mv<|s_pure (fun w' hw=>State_ok w' p c now ga aa va gc ac vc (hrg.st hw) (hra.st hw) (hrv.st hw) hgl hal hvl)<|s_dies (fun w' hw=>try_dies w' (stE p c now) hst)<|q_pt<|?_
  exact leave_P (fun w' hw=>rcFinish_P w' b11 0 (stE p c now) (hw.own _ (.head _)).1) Tryz.results29 (.refl _) (.cons (rv_ca (b:=b10) (cs:=(List.replicate 8 (I 0)).toArray) (hl:=rfl)) (.cons (rv_cf (b:=b11) (v:=I (stE p c now))) .nil)) fun w' hw=>⟨rfl,hw.sub (List.nil_sublist _)⟩
theorem Finish_pub (w:World) (p:Pn) (c:Cs) (now ver:Int) (ga aa va:Option Addr) (gc ac vc:Nat) (hrg:Rd w ga (is p.gs)) (hra:Rd w aa (apc c.ap)) (hrv:Rd w va (vtc c.vt)) (hgl:p.gs.length ≤ 1000000) (hal:c.ap.length ≤ 1000000) (hvl:c.vt.length ≤ 1000000) (x:Int) (hst:stE p c now = 0) (hx:pvB x = false):Pure Tryz.prog 29 [.agg #[I p.id,I p.rk,.slice ga p.gs.length gc,I p.need,I p.cool],.agg #[I c.p,I c.d,I c.v,I c.l,I c.st,.slice aa c.ap.length ac,.slice va c.vt.length vc],I now,I ver,I x] w (.tuple #[.agg #[I 0,I 0,I 0,I 0,I 0,I 0,I 0,I 0],I (50)]):=by
  refine enterD Tryz.func29 Tryz.ntmps29 ?_
  refine c_seq<|c_reg<|s_box rfl fun b5=>s_box rfl fun b6=>s_alloc fun b10=>s_alloc fun b11=>s_nil<|q_then<|c_seq<|c_reg<|s_y y_func<|s_deferC<|s_nil<|q_then<|c_seq<|c_reg<|s_y (y_lda (b:=b5) (cs:=#[I p.id,I p.rk,.slice ga p.gs.length gc,I p.need,I p.cool]) (hl:=rfl))<|s_y (y_lda (b:=b6) (cs:=#[I c.p,I c.d,I c.v,I c.l,I c.st,.slice aa c.ap.length ac,.slice va c.vt.length vc]) (hl:=rfl))<|s_y y_mv<|s_pure (fun w' hw=>(by have h9:=State_ok w' p c now ga aa va gc ac vc (hrg.st hw) (hra.st hw) (hrv.st hw) hgl hal hvl; rw [hst] at h9; exact h9))<|s_pure (fun w' hw=>try_ok w')<|s_nil<|q_then<|c_seq<|c_reg<|s_y y_mv<|s_pure (fun w' hw=>sPublic_no w' x hx)<|s_y y_mv<|s_y y_ext<|s_y y_ext<|s_y y_as<|s_st (b:=b11) (v:=I 50) (cs:=#[I 0]) (hl:=by simp) ?_
  refine s_nil<|q_then<|c_seq<|c_reg<|s_y (y_ld (b:=b11) (v:=I 50))<|s_dies (fun w' hw=>try_dies w' 50 (by decide))<|q_pt<|?_
  exact leave_P (fun w' hw=>rcFinish_P w' b11 50 50 (hw.own _ (.head _)).1) Tryz.results29 (.refl _) (.cons (rv_ca (b:=b10) (cs:=(List.replicate 8 (I 0)).toArray) (hl:=rfl)) (.cons (rv_cf (b:=b11) (v:=I 50)) .nil)) fun w' hw=>⟨rfl,hw.sub (List.nil_sublist _)⟩
theorem Finish_leaf (w:World) (p:Pn) (c:Cs) (now ver:Int) (ga aa va:Option Addr) (gc ac vc:Nat) (hrg:Rd w ga (is p.gs)) (hra:Rd w aa (apc c.ap)) (hrv:Rd w va (vtc c.vt)) (hgl:p.gs.length ≤ 1000000) (hal:c.ap.length ≤ 1000000) (hvl:c.vt.length ≤ 1000000) (x:Nat) (hst:stE p c now = 0) (hx0:1 ≤ x) (hx:x < 2305843009213688669) (hv:¬ ((pp 4 x:Nat):Int) = c.l):Pure Tryz.prog 29 [.agg #[I p.id,I p.rk,.slice ga p.gs.length gc,I p.need,I p.cool],.agg #[I c.p,I c.d,I c.v,I c.l,I c.st,.slice aa c.ap.length ac,.slice va c.vt.length vc],I now,I ver,I (x:Nat)] w (.tuple #[.agg #[I 0,I 0,I 0,I 0,I 0,I 0,I 0,I 0],I (390)]):=by
  refine enterD Tryz.func29 Tryz.ntmps29 ?_
  refine c_seq<|c_reg<|s_box rfl fun b5=>s_box rfl fun b6=>s_alloc fun b10=>s_alloc fun b11=>s_nil<|q_then<|c_seq<|c_reg<|s_y y_func<|s_deferC<|s_nil<|q_then<|c_seq<|c_reg<|s_y (y_lda (b:=b5) (cs:=#[I p.id,I p.rk,.slice ga p.gs.length gc,I p.need,I p.cool]) (hl:=rfl))<|s_y (y_lda (b:=b6) (cs:=#[I c.p,I c.d,I c.v,I c.l,I c.st,.slice aa c.ap.length ac,.slice va c.vt.length vc]) (hl:=rfl))<|s_y y_mv<|s_pure (fun w' hw=>(by have h9:=State_ok w' p c now ga aa va gc ac vc (hrg.st hw) (hra.st hw) (hrv.st hw) hgl hal hvl; rw [hst] at h9; exact h9))<|s_pure (fun w' hw=>try_ok w')<|s_nil<|q_then<|c_seq<|c_reg<|s_y y_mv<|s_pure (fun w' hw=>sPublic_yes w' x hx0 hx)<|s_y y_mv<|s_y y_ext<|s_y y_ext<|s_y y_as<|s_st (b:=b11) (v:=I 0) (cs:=#[I 0]) (hl:=by simp) ?_
  refine s_nil<|q_then<|c_seq<|c_reg<|s_y (y_ld (b:=b11) (v:=I 0))<|s_pure (fun w' hw=>try_ok w')<|s_nil<|q_then<|c_seq<|c_reg<|s_y y_mv<|s_y y_fa<|s_y (y_ld (b:=b6) (v:=I c.l))<|s_kf (y_eql (p:=(pp 4 x:Nat)) (q:=c.l)) hv<|s_dies (fun w' hw=>demand_dies w' 390)<|q_pt<|?_
  exact leave_P (fun w' hw=>rcFinish_P w' b11 0 390 (hw.own _ (.head _)).1) Tryz.results29 (.refl _) (.cons (rv_ca (b:=b10) (cs:=(List.replicate 8 (I 0)).toArray) (hl:=rfl)) (.cons (rv_cf (b:=b11) (v:=I 390)) .nil)) fun w' hw=>⟨rfl,hw.sub (List.nil_sublist _)⟩
theorem Finish_share (w:World) (p:Pn) (c:Cs) (now ver:Int) (ga aa va:Option Addr) (gc ac vc:Nat) (hrg:Rd w ga (is p.gs)) (hra:Rd w aa (apc c.ap)) (hrv:Rd w va (vtc c.vt)) (hgl:p.gs.length ≤ 1000000) (hal:c.ap.length ≤ 1000000) (hvl:c.vt.length ≤ 1000000) (hst:stE p c now = 0) (x:Nat) (hx0:1 ≤ x) (hx:x < 2305843009213688669) (hv:((pp 4 x:Nat):Int) = c.l) (hac:c.ap.length ≤ ac) (hR:R5 c) (hcp:∀ z ∈ c.ap,z.q.length ≤ z.c) (hql:∀ z ∈ c.ap,z.q.length ≤ 100000) (hA:ApRd c aa w) (nd:Nat) (hnd:p.need = (nd:Int)) (m:Nat) (zm:Ap) (hm:m < nd) (hzm:c.ap[m]? = some zm) (hme:shE x c zm ≠ 0) (hmb:∀ k z',k < m → c.ap[k]? = some z' → shE x c z' = 0):Pure Tryz.prog 29 [.agg #[I p.id,I p.rk,.slice ga p.gs.length gc,I p.need,I p.cool],.agg #[I c.p,I c.d,I c.v,I c.l,I c.st,.slice aa c.ap.length ac,.slice va c.vt.length vc],I now,I ver,I x] w (.tuple #[.agg #[I 0,I 0,I 0,I 0,I 0,I 0,I 0,I 0],I (shE x c zm)]):=by
  have hgr:∀ z ∈ c.ap,R64 z.g:=fun z hz=>by
    obtain ⟨hp9,hb9,_⟩:=stE_inv hst
    have h9:=hp9.gs z.g (hb9.fg z hz)
    unfold R64; omega
  have hnl:nd ≤ c.ap.length:=by have:=(stE_inv hst).2.2.2.2; omega
  refine enterW Tryz.func29 Tryz.ntmps29 ?_
  refine g_seq<|c_reg<|s_box rfl fun b5=>s_box rfl fun b6=>s_alloc fun b10=>s_alloc fun b11=>s_nil<|g_then<|g_seq<|c_reg<|s_y y_func<|s_deferC<|s_nil<|g_then<|g_seq<|c_reg<|s_y (y_lda (b:=b5) (cs:=#[I p.id,I p.rk,.slice ga p.gs.length gc,I p.need,I p.cool]) (hl:=rfl))<|s_y (y_lda (b:=b6) (cs:=#[I c.p,I c.d,I c.v,I c.l,I c.st,.slice aa c.ap.length ac,.slice va c.vt.length vc]) (hl:=rfl))<|s_y y_mv<|s_pure (fun w' hw=>(by have h9:=State_ok w' p c now ga aa va gc ac vc (hrg.st hw) (hra.st hw) (hrv.st hw) hgl hal hvl; rw [hst] at h9; exact h9))<|s_pure (fun w' hw=>try_ok w')<|s_nil<|g_then<|g_seq<|c_reg<|s_y y_mv<|s_pure (fun w' hw=>sPublic_yes w' x hx0 hx)<|s_y y_mv<|s_y y_ext<|s_y y_ext<|s_y y_as<|s_st (b:=b11) (v:=I 0) (cs:=#[I 0]) (hl:=Nat.zero_lt_one) ?_
  refine s_nil<|g_then<|g_seq<|c_reg<|s_y (y_ld (b:=b11) (v:=I 0))<|s_pure (fun w' hw=>try_ok w')<|s_nil<|g_then<|g_seq<|c_reg<|s_y y_mv<|s_y y_fa<|s_y (y_ld (b:=b6) (v:=I c.l))<|s_kt (y_eql (p:=(pp 4 x:Nat)) (q:=c.l)) hv<|s_pure (fun w' hw=>demand_ok w' 390)<|s_nil<|g_then<|g_seq<|c_reg<|s_alloc fun b13=>s_nil<|g_then<|g_seq'<|g_seq<|c_reg<|s_y (y_lda (b:=b6) (cs:=#[I c.p,I c.d,I c.v,I c.l,I c.st,.slice aa c.ap.length ac,.slice va c.vt.length vc]) (hl:=rfl))<|s_y y_fa<|s_y (y_ld (b:=b5) (v:=I p.need))<|s_y y_mv<|s_gives (fun w' hw=>shares_ok w' c p.need x aa va ac vc) fun x40 _=>s_nil<|g_then<|?_
  obtain ⟨b3',b4',b5'⟩:=x40
  dsimp only
  rw [hnd]
  refine g_nilrow 46 2<|g_block<|g_range [.blk b11 (.cells #[I 0] 34 (0,0)),.blk b10 (.cells #[I 0,I 0,I 0,I 0,I 0,I 0,I 0,I 0] 61 (0,0)),.blk b6 (.cells #[I c.p,I c.d,I c.v,I c.l,I c.st,.slice aa c.ap.length ac,.slice va c.vt.length vc] 30 (0,0)),.blk b5 (.cells #[I p.id,I p.rk,.slice ga p.gs.length gc,I nd,I p.cool] 26 (0,0))] (ch:=dieV (shE x c zm)) (fun fn tm Dk L hfn hfr w' hw'=>?_) (fun Dk=>?_)
  rotate_left
  · refine q_pb<|q_pt<|q_markP (.head _)<|?_
    exact leaveW_P (fun w' hw=>rcFinish_P w' b11 0 (shE x c zm) (hw.own _ (.head _)).1) Tryz.results29 (List.perm_middle (l₁:=[Res.blk Dk (.deferred none)])) (.cons (rv_ca (b:=b10) (cs:=#[I 0,I 0,I 0,I 0,I 0,I 0,I 0,I 0]) (hl:=rfl)) (.cons (rv_cf (b:=b11) (v:=I (shE x c zm))) .nil)) fun w' hw=>⟨rfl,hw.sub (List.nil_sublist _)⟩
  · show Calls _ _ _ _ _
    have hps:=(show St w [] w' (sM L Dk _ b3' b4' b5' b13 c aa va ac vc nd x none 0 [] ++ [.blk b11 (.cells #[I 0] 34 (0,0)),.blk b10 (.cells #[I 0,I 0,I 0,I 0,I 0,I 0,I 0,I 0] 61 (0,0)),.blk b6 (.cells #[I c.p,I c.d,I c.v,I c.l,I c.st,.slice aa c.ap.length ac,.slice va c.vt.length vc] 30 (0,0)),.blk b5 (.cells #[I p.id,I p.rk,.slice ga p.gs.length gc,I nd,I p.cool] 26 (0,0))]) from hw').has
    refine (shares1_ok w' _ L Dk b3' b4' b5' b13 c aa va ac vc nd x hx0 hx hnl hac hal hR hgr hcp hql hps.1 hps.2 rfl (fun w2 l2 h=>hA.st (hw'.transL (l2:=[.blk b11 (.cells #[I 0] 34 (0,0)),.blk b10 (.cells #[I 0,I 0,I 0,I 0,I 0,I 0,I 0,I 0] 61 (0,0)),.blk b6 (.cells #[I c.p,I c.d,I c.v,I c.l,I c.st,.slice aa c.ap.length ac,.slice va c.vt.length vc] 30 (0,0)),.blk b5 (.cells #[I p.id,I p.rk,.slice ga p.gs.length gc,I nd,I p.cool] 26 (0,0))]) (.refl _) h)) (fun a c' k z w2 hk9 hz hse h2=>?_) (fun a c' k z w2 hk9 hz hne h2=>?_)).mono ?_
    rotate_left 2
    · rintro e w2 (⟨hv9,hal9,y,h2⟩ | ⟨m_1,z,y,hm9,hz9,hne9,hb9,he9,h2⟩)
      · exact absurd (hal9 m zm hm hzm) hme
      · have hmm:m_1 = m:=by
          rcases Nat.lt_trichotomy m_1 m with h | h | h
          · exact absurd (hmb m_1 z h hz9) hne9
          · exact h
          · exact absurd (hb9 m zm h hzm) hme
        subst hmm
        obtain rfl:z = zm:=Option.some.inj (hz9.symm.trans hzm)
        subst he9
        have h9:=hw'.transL (l2:=[.blk b11 (.cells #[I 0] 34 (0,0)),.blk b10 (.cells #[I 0,I 0,I 0,I 0,I 0,I 0,I 0,I 0] 61 (0,0)),.blk b6 (.cells #[I c.p,I c.d,I c.v,I c.l,I c.st,.slice aa c.ap.length ac,.slice va c.vt.length vc] 30 (0,0)),.blk b5 (.cells #[I p.id,I p.rk,.slice ga p.gs.length gc,I nd,I p.cool] 26 (0,0))]) (.refl _) h2
        exact ⟨rfl,h9.sub (.cons _ (.cons_cons _ (.cons _ (.cons _ (.cons _ (.cons _ (.cons _ (.refl _))))))))⟩
    · -- a round that goes well
      have hqk:(shL x c k).length = k:=shL_length (by omega)
      have hf9:=((hfr []).put 41 (.agg #[I (shV x c z).1,I (shV x c z).2]) rfl).put 42 (I 0) rfl
      refine round_okE (σ:=Nat) (F1:=fun b14=>[(11,.pointer (some ⟨b11,0,none⟩)),(13,.pointer (some ⟨b13,0,none⟩)),(14,.pointer (some ⟨b14,0,none⟩)),(15,I 0)]) (l1:=fun b14=>(.blk b14 (.cells #[I (shV x c z).1,I (shV x c z).2] 46 (0,0))) :: sM L Dk _ b3' b4' b5' b13 c aa va ac vc nd x a c' (shL x c k)) (l2:=fun b14=>(.blk b14 (.cells #[I (shV x c z).1,I (shV x c z).2] 46 (0,0))) :: sM L Dk _ b3' b4' b5' b13 c aa va ac vc nd x a c' (shL x c k)) h2 hf9 (by simp [Act.put]) (by rfl) (fun _=>.tail _ (.head _)) ?_ (fun b14=>?_)
      · refine c_seq<|c_reg<|s_alloc fun b14=>s_sta (b:=b14) (vs:=#[I (shV x c z).1,I (shV x c z).2]) (cs:=#[I 0,I 0]) (h1:=by intro u hu; simp at hu; rcases hu with rfl | rfl <;> rfl) (hl:=rfl) (hs1:=rfl) ?_
        refine s_nil<|q_then<|c_reg<|s_y y_as<|s_nil<|?_
        exact q_joinE b14 ⟨rfl,rfl,rfl,rfl,trivial⟩ (.refl _)
      · refine c_block<|c_seq<|c_reg<|s_y y_mv<|s_pure (fun w3 h3=>try_ok w3)<|s_nil<|q_then<|c_reg<|s_y (y_ld (b:=b13) (v:=.slice a (shL x c k).length c'))<|s_y (y_lda (b:=b14) (cs:=#[I (shV x c z).1,I (shV x c z).2]) (hl:=rfl))<|s_bslr (cs:=[I (shV x c z).1,I (shV x c z).2]) fun b47=>s_app (m:=1) (fun w' hw=>Src.slice (rdR (.head _) w' hw) rfl) (h1:=fun v hv=>by simp at hv; rcases hv with rfl | rfl <;> rfl) (hm:=.tail _ (.tail _ (.tail _ (.tail _ (.head _))))) (hrep:=fun _ _=>.tail _ (.tail _ (.tail _ (.tail _ (.head _))))) fun a48 c48 h48=>?_
        rw [show shc (shL x c k) ++ [I (shV x c z).1,I (shV x c z).2] = shc (shL x c (k + 1)) by rw [shL_succ hz,shc_append]; rfl,show (shL x c k).length + 1 = (shL x c (k + 1)).length by rw [shL_succ hz,List.length_append]; rfl]
        refine s_st (b:=b13) (v:=.slice a48 (shL x c (k + 1)).length c48) (cs:=#[.slice a (shL x c k).length c']) (hl:=Nat.zero_lt_one) ?_
        exact s_nil<|q_nb<|q_rn (.tail _ (.tail _ (.head _))) fun w3 h3=>⟨(a48,c48),trivial,rfl,h3.sub (.cons _ (.cons _ (.refl _)))⟩
    · -- a round that panics
      have hf9:=((hfr []).put 41 (.agg #[I (shV x c z).1,I (shV x c z).2]) rfl).put 42 (I (shE x c z)) rfl
      refine round_okDE (σ:=Nat) (F1:=fun b14=>[(11,.pointer (some ⟨b11,0,none⟩)),(13,.pointer (some ⟨b13,0,none⟩)),(14,.pointer (some ⟨b14,0,none⟩)),(15,I (shE x c z))]) (l1:=fun b14=>(.blk b14 (.cells #[I (shV x c z).1,I (shV x c z).2] 46 (0,0))) :: sM L Dk _ b3' b4' b5' b13 c aa va ac vc nd x a c' (shL x c k)) (l2:=fun b14=>(.blk b14 (.cells #[I (shV x c z).1,I (shV x c z).2] 46 (0,0))) :: sM L Dk _ b3' b4' b5' b13 c aa va ac vc nd x a c' (shL x c k)) h2 hf9 (by simp [Act.put]) (by rfl) (fun _=>.tail _ (.head _)) hfn ?_ (fun b14=>?_)
      · refine c_seq<|c_reg<|s_alloc fun b14=>s_sta (b:=b14) (vs:=#[I (shV x c z).1,I (shV x c z).2]) (cs:=#[I 0,I 0]) (h1:=by intro u hu; simp at hu; rcases hu with rfl | rfl <;> rfl) (hl:=rfl) (hs1:=rfl) ?_
        refine s_nil<|q_then<|c_reg<|s_y y_as<|s_nil<|?_
        exact q_joinE b14 ⟨rfl,rfl,rfl,rfl,trivial⟩ (.refl _)
      · exact c_block<|c_seq<|c_reg<|s_y y_mv<|s_dies (fun w3 h3=>try_dies w3 (shE x c z) hne)<|q_pt<|q_pb<|q_dy fun w3 h3=>⟨rfl,h3.sub (.cons _ (.refl _))⟩
theorem Finish_join (w:World) (p:Pn) (c:Cs) (now ver:Int) (ga aa va:Option Addr) (gc ac vc:Nat) (hrg:Rd w ga (is p.gs)) (hra:Rd w aa (apc c.ap)) (hrv:Rd w va (vtc c.vt)) (hgl:p.gs.length ≤ 1000000) (hal:c.ap.length ≤ 1000000) (hvl:c.vt.length ≤ 1000000) (hst:stE p c now = 0) (x:Nat) (hx0:1 ≤ x) (hx:x < 2305843009213688669) (hv:((pp 4 x:Nat):Int) = c.l) (hac:c.ap.length ≤ ac) (hR:R5 c) (hcp:∀ z ∈ c.ap,z.q.length ≤ z.c) (hql:∀ z ∈ c.ap,z.q.length ≤ 100000) (hA:ApRd c aa w) (nd:Nat) (hnd:p.need = (nd:Int)) (hnd2:nd < 20) (hall:∀ k z,k < nd → c.ap[k]? = some z → shE x c z = 0) (hch:chS (isort (shL x c nd)) ≠ 0):Pure Tryz.prog 29 [.agg #[I p.id,I p.rk,.slice ga p.gs.length gc,I p.need,I p.cool],.agg #[I c.p,I c.d,I c.v,I c.l,I c.st,.slice aa c.ap.length ac,.slice va c.vt.length vc],I now,I ver,I x] w (.tuple #[.agg #[I 0,I 0,I 0,I 0,I 0,I 0,I 0,I 0],I (chS (isort (shL x c nd)))]):=by
  have hgr:∀ z ∈ c.ap,R64 z.g:=fun z hz=>by
    obtain ⟨hp9,hb9,_⟩:=stE_inv hst
    have h9:=hp9.gs z.g (hb9.fg z hz)
    unfold R64; omega
  have hnl:nd ≤ c.ap.length:=by have:=(stE_inv hst).2.2.2.2; omega
  refine enterW Tryz.func29 Tryz.ntmps29 (g_cp ?_)
  refine c_seq<|c_reg<|s_box rfl fun b5=>s_box rfl fun b6=>s_alloc fun b10=>s_alloc fun b11=>s_nil<|q_then<|c_seq<|c_reg<|s_y y_func<|s_deferC<|s_nil<|q_then<|c_seq<|c_reg<|s_y (y_lda (b:=b5) (cs:=#[I p.id,I p.rk,.slice ga p.gs.length gc,I p.need,I p.cool]) (hl:=rfl))<|s_y (y_lda (b:=b6) (cs:=#[I c.p,I c.d,I c.v,I c.l,I c.st,.slice aa c.ap.length ac,.slice va c.vt.length vc]) (hl:=rfl))<|s_y y_mv<|s_pure (fun w' hw=>(by have h9:=State_ok w' p c now ga aa va gc ac vc (hrg.st hw) (hra.st hw) (hrv.st hw) hgl hal hvl; rw [hst] at h9; exact h9))<|s_pure (fun w' hw=>try_ok w')<|s_nil<|q_then<|c_seq<|c_reg<|s_y y_mv<|s_pure (fun w' hw=>sPublic_yes w' x hx0 hx)<|s_y y_mv<|s_y y_ext<|s_y y_ext<|s_y y_as<|s_st (b:=b11) (v:=I 0) (cs:=#[I 0]) (hl:=Nat.zero_lt_one) ?_
  refine s_nil<|q_then<|c_seq<|c_reg<|s_y (y_ld (b:=b11) (v:=I 0))<|s_pure (fun w' hw=>try_ok w')<|s_nil<|q_then<|c_seq<|c_reg<|s_y y_mv<|s_y y_fa<|s_y (y_ld (b:=b6) (v:=I c.l))<|s_kt (y_eql (p:=(pp 4 x:Nat)) (q:=c.l)) hv<|s_pure (fun w' hw=>demand_ok w' 390)<|s_nil<|q_then<|c_seq<|c_reg<|s_alloc fun b13=>s_nil<|q_then<|c_seq<|c_seq<|c_reg<|s_y (y_lda (b:=b6) (cs:=#[I c.p,I c.d,I c.v,I c.l,I c.st,.slice aa c.ap.length ac,.slice va c.vt.length vc]) (hl:=rfl))<|s_y y_fa<|s_y (y_ld (b:=b5) (v:=I p.need))<|s_y y_mv<|s_gives (fun w' hw=>shares_ok w' c p.need x aa va ac vc) fun x40 _=>s_nil<|q_then<|?_
  obtain ⟨b3',b4',b5'⟩:=x40
  dsimp only
  rw [hnd]
  refine c_nilrow 46 2<|c_block<|c_rangeN (σ:=Option Addr × Nat) (fun y=>[.row y.1 y.2 46 2 (shL x c nd).length (shc (shL x c nd)),.blk b5' (.cells #[I x] 3 (0,0)),.blk b4' (.cells #[I nd] 3 (0,0)),.blk b3' (.cells #[I c.p,I c.d,I c.v,I c.l,I c.st,.slice aa c.ap.length ac,.slice va c.vt.length vc] 30 (0,0)),.blk b13 (.cells #[.slice y.1 (shL x c nd).length y.2] 33 (0,0))] ++ [.blk b11 (.cells #[I 0] 34 (0,0)),.blk b10 (.cells #[I 0,I 0,I 0,I 0,I 0,I 0,I 0,I 0] 61 (0,0)),.blk b6 (.cells #[I c.p,I c.d,I c.v,I c.l,I c.st,.slice aa c.ap.length ac,.slice va c.vt.length vc] 30 (0,0)),.blk b5 (.cells #[I p.id,I p.rk,.slice ga p.gs.length gc,I nd,I p.cool] 26 (0,0))]) (fun _=>True) (fun fn tm Dk L hfr w' hw'=>?_) (fun Dk y _=>?_)
  rotate_left
  · refine q_nb<|q_then<|c_seq<|c_reg<|s_y (y_ld (b:=b13) (v:=.slice y.1 (shL x c nd).length y.2))<|?_
    refine s_upd (σ:=Unit) (p:=.row y.1 y.2 46 2 (shL x c nd).length (shc (shL x c nd))) (p':=fun _=>.row y.1 y.2 46 2 (shL x c nd).length (shc (isort (shL x c nd)))) (lx:=fun _=>[]) (φ:=fun _=>True) (val:=fun _=>.tuple #[]) (fun w' hw=>sortS_ok w' y.1 y.2 (shL x c nd).length (shL x c nd) rfl (by rw [shL_length hnl]; omega) (hw.own _ (.tail _ (.head _))).1) (fun _=>.tail _ (.head _)) fun _ _=>?_
    refine s_nil<|q_then<|c_seq<|c_reg<|s_y (y_ld (b:=b13) (v:=.slice y.1 (shL x c nd).length y.2))<|s_pure (fun w' hw=>(by have h9:=s_Join_ok w' y.1 y.2 (isort (shL x c nd)) (rdR (.tail _ (.head _)) w' hw) (by rw [isort_length,shL_length hnl]; omega); rw [isort_length] at h9; exact h9))<|s_y y_mv<|s_y y_ext<|s_y y_ext<|s_y y_as<|s_st (b:=b11) (v:=I (chS (isort (shL x c nd)))) (cs:=#[I 0]) (hl:=Nat.zero_lt_one) ?_
    refine s_nil<|q_then<|c_seq<|c_reg<|s_y (y_ld (b:=b11) (v:=I (chS (isort (shL x c nd)))))<|?_
    exact s_dies (fun w' hw=>try_dies w' (chS (isort (shL x c nd))) hch)<|q_pt<|q_markP (.head _)<|leaveW_P (fun w' hw=>rcFinish_P w' b11 (chS (isort (shL x c nd))) (chS (isort (shL x c nd))) (hw.own _ (.head _)).1) Tryz.results29 (List.perm_middle (l₁:=[Res.blk Dk (.deferred none),Res.row y.1 y.2 46 2 (shL x c nd).length (shc (isort (shL x c nd))),Res.blk b5' (.cells #[I x] 3 (0,0)),Res.blk b4' (.cells #[I nd] 3 (0,0)),Res.blk b3' (.cells #[I c.p,I c.d,I c.v,I c.l,I c.st,.slice aa c.ap.length ac,.slice va c.vt.length vc] 30 (0,0)),Res.blk b13 (.cells #[.slice y.1 (shL x c nd).length y.2] 33 (0,0))])) (.cons (rv_ca (b:=b10) (cs:=#[I 0,I 0,I 0,I 0,I 0,I 0,I 0,I 0]) (hl:=rfl)) (.cons (rv_cf (b:=b11) (v:=I (chS (isort (shL x c nd))))) .nil)) fun w' hw=>⟨rfl,hw.sub (List.nil_sublist _)⟩
  · show Calls _ _ _ _ _
    have hps:=(show St w [] w' (sM L Dk _ b3' b4' b5' b13 c aa va ac vc nd x none 0 [] ++ [.blk b11 (.cells #[I 0] 34 (0,0)),.blk b10 (.cells #[I 0,I 0,I 0,I 0,I 0,I 0,I 0,I 0] 61 (0,0)),.blk b6 (.cells #[I c.p,I c.d,I c.v,I c.l,I c.st,.slice aa c.ap.length ac,.slice va c.vt.length vc] 30 (0,0)),.blk b5 (.cells #[I p.id,I p.rk,.slice ga p.gs.length gc,I nd,I p.cool] 26 (0,0))]) from hw').has
    refine (shares1_ok w' _ L Dk b3' b4' b5' b13 c aa va ac vc nd x hx0 hx hnl hac hal hR hgr hcp hql hps.1 hps.2 rfl (fun w2 l2 h=>hA.st (hw'.transL (l2:=[.blk b11 (.cells #[I 0] 34 (0,0)),.blk b10 (.cells #[I 0,I 0,I 0,I 0,I 0,I 0,I 0,I 0] 61 (0,0)),.blk b6 (.cells #[I c.p,I c.d,I c.v,I c.l,I c.st,.slice aa c.ap.length ac,.slice va c.vt.length vc] 30 (0,0)),.blk b5 (.cells #[I p.id,I p.rk,.slice ga p.gs.length gc,I nd,I p.cool] 26 (0,0))]) (.refl _) h)) (fun a c' k z w2 hk9 hz hse h2=>?_) (fun a c' k z w2 hk9 hz hne h2=>?_)).mono ?_
    rotate_left 2
    · rintro e w2 (⟨hv9,hal9,y,h2⟩ | ⟨m,z,y,hm9,hz9,hne9,hb9,he9,h2⟩)
      · exact ⟨hv9,y,trivial,hw'.transL (l2:=[.blk b11 (.cells #[I 0] 34 (0,0)),.blk b10 (.cells #[I 0,I 0,I 0,I 0,I 0,I 0,I 0,I 0] 61 (0,0)),.blk b6 (.cells #[I c.p,I c.d,I c.v,I c.l,I c.st,.slice aa c.ap.length ac,.slice va c.vt.length vc] 30 (0,0)),.blk b5 (.cells #[I p.id,I p.rk,.slice ga p.gs.length gc,I nd,I p.cool] 26 (0,0))]) (.refl _) h2⟩
      · exact absurd (hall m z hm9 hz9) hne9
    · -- a round that goes well
      have hqk:(shL x c k).length = k:=shL_length (by omega)
      have hf9:=((hfr []).put 41 (.agg #[I (shV x c z).1,I (shV x c z).2]) rfl).put 42 (I 0) rfl
      refine round_okE (σ:=Nat) (F1:=fun b14=>[(11,.pointer (some ⟨b11,0,none⟩)),(13,.pointer (some ⟨b13,0,none⟩)),(14,.pointer (some ⟨b14,0,none⟩)),(15,I 0)]) (l1:=fun b14=>(.blk b14 (.cells #[I (shV x c z).1,I (shV x c z).2] 46 (0,0))) :: sM L Dk _ b3' b4' b5' b13 c aa va ac vc nd x a c' (shL x c k)) (l2:=fun b14=>(.blk b14 (.cells #[I (shV x c z).1,I (shV x c z).2] 46 (0,0))) :: sM L Dk _ b3' b4' b5' b13 c aa va ac vc nd x a c' (shL x c k)) h2 hf9 (by simp [Act.put]) (by rfl) (fun _=>.tail _ (.head _)) ?_ (fun b14=>?_)
      · refine c_seq<|c_reg<|s_alloc fun b14=>s_sta (b:=b14) (vs:=#[I (shV x c z).1,I (shV x c z).2]) (cs:=#[I 0,I 0]) (h1:=by intro u hu; simp at hu; rcases hu with rfl | rfl <;> rfl) (hl:=rfl) (hs1:=rfl) ?_
        refine s_nil<|q_then<|c_reg<|s_y y_as<|s_nil<|?_
        exact q_joinE b14 ⟨rfl,rfl,rfl,rfl,trivial⟩ (.refl _)
      · refine c_block<|c_seq<|c_reg<|s_y y_mv<|s_pure (fun w3 h3=>try_ok w3)<|s_nil<|q_then<|c_reg<|s_y (y_ld (b:=b13) (v:=.slice a (shL x c k).length c'))<|s_y (y_lda (b:=b14) (cs:=#[I (shV x c z).1,I (shV x c z).2]) (hl:=rfl))<|s_bslr (cs:=[I (shV x c z).1,I (shV x c z).2]) fun b47=>s_app (m:=1) (fun w' hw=>Src.slice (rdR (.head _) w' hw) rfl) (h1:=fun v hv=>by simp at hv; rcases hv with rfl | rfl <;> rfl) (hm:=.tail _ (.tail _ (.tail _ (.tail _ (.head _))))) (hrep:=fun _ _=>.tail _ (.tail _ (.tail _ (.tail _ (.head _))))) fun a48 c48 h48=>?_
        rw [show shc (shL x c k) ++ [I (shV x c z).1,I (shV x c z).2] = shc (shL x c (k + 1)) by rw [shL_succ hz,shc_append]; rfl,show (shL x c k).length + 1 = (shL x c (k + 1)).length by rw [shL_succ hz,List.length_append]; rfl]
        refine s_st (b:=b13) (v:=.slice a48 (shL x c (k + 1)).length c48) (cs:=#[.slice a (shL x c k).length c']) (hl:=Nat.zero_lt_one) ?_
        exact s_nil<|q_nb<|q_rn (.tail _ (.tail _ (.head _))) fun w3 h3=>⟨(a48,c48),trivial,rfl,h3.sub (.cons _ (.cons _ (.refl _)))⟩
    · exact absurd (hall k z hk9 hz) hne
theorem Finish_zero (w:World) (p:Pn) (c:Cs) (now ver:Int) (ga aa va:Option Addr) (gc ac vc:Nat) (hrg:Rd w ga (is p.gs)) (hra:Rd w aa (apc c.ap)) (hrv:Rd w va (vtc c.vt)) (hgl:p.gs.length ≤ 1000000) (hal:c.ap.length ≤ 1000000) (hvl:c.vt.length ≤ 1000000) (hst:stE p c now = 0) (x:Nat) (hx0:1 ≤ x) (hx:x < 2305843009213688669) (hv:((pp 4 x:Nat):Int) = c.l) (hac:c.ap.length ≤ ac) (hR:R5 c) (hcp:∀ z ∈ c.ap,z.q.length ≤ z.c) (hql:∀ z ∈ c.ap,z.q.length ≤ 100000) (hA:ApRd c aa w) (nd:Nat) (hnd:p.need = (nd:Int)) (hnd2:nd < 20) (hall:∀ k z,k < nd → c.ap[k]? = some z → shE x c z = 0) (r:Nat) (hrq:r < 2305843009213688669) (hch:chS (isort (shL x c nd)) = 0) (hjn:jnV (isort (shL x c nd)) = (r:Int)) (hr0:r = 0):Pure Tryz.prog 29 [.agg #[I p.id,I p.rk,.slice ga p.gs.length gc,I p.need,I p.cool],.agg #[I c.p,I c.d,I c.v,I c.l,I c.st,.slice aa c.ap.length ac,.slice va c.vt.length vc],I now,I ver,I x] w (.tuple #[.agg #[I 0,I 0,I 0,I 0,I 0,I 0,I 0,I 0],I (80)]):=by
  have hgr:∀ z ∈ c.ap,R64 z.g:=fun z hz=>by
    obtain ⟨hp9,hb9,_⟩:=stE_inv hst
    have h9:=hp9.gs z.g (hb9.fg z hz)
    unfold R64; omega
  have hnl:nd ≤ c.ap.length:=by have:=(stE_inv hst).2.2.2.2; omega
  refine enterW Tryz.func29 Tryz.ntmps29 (g_cp ?_)
  refine c_seq<|c_reg<|s_box rfl fun b5=>s_box rfl fun b6=>s_alloc fun b10=>s_alloc fun b11=>s_nil<|q_then<|c_seq<|c_reg<|s_y y_func<|s_deferC<|s_nil<|q_then<|c_seq<|c_reg<|s_y (y_lda (b:=b5) (cs:=#[I p.id,I p.rk,.slice ga p.gs.length gc,I p.need,I p.cool]) (hl:=rfl))<|s_y (y_lda (b:=b6) (cs:=#[I c.p,I c.d,I c.v,I c.l,I c.st,.slice aa c.ap.length ac,.slice va c.vt.length vc]) (hl:=rfl))<|s_y y_mv<|s_pure (fun w' hw=>(by have h9:=State_ok w' p c now ga aa va gc ac vc (hrg.st hw) (hra.st hw) (hrv.st hw) hgl hal hvl; rw [hst] at h9; exact h9))<|s_pure (fun w' hw=>try_ok w')<|s_nil<|q_then<|c_seq<|c_reg<|s_y y_mv<|s_pure (fun w' hw=>sPublic_yes w' x hx0 hx)<|s_y y_mv<|s_y y_ext<|s_y y_ext<|s_y y_as<|s_st (b:=b11) (v:=I 0) (cs:=#[I 0]) (hl:=Nat.zero_lt_one) ?_
  refine s_nil<|q_then<|c_seq<|c_reg<|s_y (y_ld (b:=b11) (v:=I 0))<|s_pure (fun w' hw=>try_ok w')<|s_nil<|q_then<|c_seq<|c_reg<|s_y y_mv<|s_y y_fa<|s_y (y_ld (b:=b6) (v:=I c.l))<|s_kt (y_eql (p:=(pp 4 x:Nat)) (q:=c.l)) hv<|s_pure (fun w' hw=>demand_ok w' 390)<|s_nil<|q_then<|c_seq<|c_reg<|s_alloc fun b13=>s_nil<|q_then<|c_seq<|c_seq<|c_reg<|s_y (y_lda (b:=b6) (cs:=#[I c.p,I c.d,I c.v,I c.l,I c.st,.slice aa c.ap.length ac,.slice va c.vt.length vc]) (hl:=rfl))<|s_y y_fa<|s_y (y_ld (b:=b5) (v:=I p.need))<|s_y y_mv<|s_gives (fun w' hw=>shares_ok w' c p.need x aa va ac vc) fun x40 _=>s_nil<|q_then<|?_
  obtain ⟨b3',b4',b5'⟩:=x40
  dsimp only
  rw [hnd]
  refine c_nilrow 46 2<|c_block<|c_rangeN (σ:=Option Addr × Nat) (fun y=>[.row y.1 y.2 46 2 (shL x c nd).length (shc (shL x c nd)),.blk b5' (.cells #[I x] 3 (0,0)),.blk b4' (.cells #[I nd] 3 (0,0)),.blk b3' (.cells #[I c.p,I c.d,I c.v,I c.l,I c.st,.slice aa c.ap.length ac,.slice va c.vt.length vc] 30 (0,0)),.blk b13 (.cells #[.slice y.1 (shL x c nd).length y.2] 33 (0,0))] ++ [.blk b11 (.cells #[I 0] 34 (0,0)),.blk b10 (.cells #[I 0,I 0,I 0,I 0,I 0,I 0,I 0,I 0] 61 (0,0)),.blk b6 (.cells #[I c.p,I c.d,I c.v,I c.l,I c.st,.slice aa c.ap.length ac,.slice va c.vt.length vc] 30 (0,0)),.blk b5 (.cells #[I p.id,I p.rk,.slice ga p.gs.length gc,I nd,I p.cool] 26 (0,0))]) (fun _=>True) (fun fn tm Dk L hfr w' hw'=>?_) (fun Dk y _=>?_)
  rotate_left
  · refine q_nb<|q_then<|c_seq<|c_reg<|s_y (y_ld (b:=b13) (v:=.slice y.1 (shL x c nd).length y.2))<|?_
    refine s_upd (σ:=Unit) (p:=.row y.1 y.2 46 2 (shL x c nd).length (shc (shL x c nd))) (p':=fun _=>.row y.1 y.2 46 2 (shL x c nd).length (shc (isort (shL x c nd)))) (lx:=fun _=>[]) (φ:=fun _=>True) (val:=fun _=>.tuple #[]) (fun w' hw=>sortS_ok w' y.1 y.2 (shL x c nd).length (shL x c nd) rfl (by rw [shL_length hnl]; omega) (hw.own _ (.tail _ (.head _))).1) (fun _=>.tail _ (.head _)) fun _ _=>?_
    refine s_nil<|q_then<|c_seq<|c_reg<|s_y (y_ld (b:=b13) (v:=.slice y.1 (shL x c nd).length y.2))<|s_pure (fun w' hw=>(by have h9:=s_Join_ok w' y.1 y.2 (isort (shL x c nd)) (rdR (.tail _ (.head _)) w' hw) (by rw [isort_length,shL_length hnl]; omega); rw [isort_length] at h9; exact h9))<|s_y y_mv<|s_y y_ext<|s_y y_ext<|s_y y_as<|s_st (b:=b11) (v:=I (chS (isort (shL x c nd)))) (cs:=#[I 0]) (hl:=Nat.zero_lt_one) ?_
    refine s_nil<|q_then<|c_seq<|c_reg<|s_y (y_ld (b:=b11) (v:=I (chS (isort (shL x c nd)))))<|?_
    rw [hch]
    refine s_pure (fun w' hw=>try_ok w')<|s_nil<|q_then<|c_seq<|c_reg<|s_y y_mv<|?_
    rw [hjn]
    refine s_pure (fun w' hw=>gBase_el w' r hrq)<|s_y y_mv<|s_y y_ext<|s_y y_ext<|s_y y_as<|s_st (b:=b11) (v:=I 0) (cs:=#[I 0]) (hl:=Nat.zero_lt_one) ?_
    refine s_nil<|q_then<|c_seq<|c_reg<|s_y (y_ld (b:=b11) (v:=I 0))<|s_pure (fun w' hw=>try_ok w')<|s_nil<|q_then<|c_seq<|c_reg<|s_y y_mv<|s_nf (y_neq (p:=((r:Nat):Int)) (q:=0)) (by omega)<|s_y y_mv<|s_no<|s_no<|s_no<|s_no<|s_y y_pk<|?_
    exact s_dies (fun w' hw=>demand_dies w' 80)<|q_pt<|q_markP (.head _)<|leaveW_P (fun w' hw=>rcFinish_P w' b11 0 80 (hw.own _ (.head _)).1) Tryz.results29 (List.perm_middle (l₁:=[Res.blk Dk (.deferred none),Res.row y.1 y.2 46 2 (shL x c nd).length (shc (isort (shL x c nd))),Res.blk b5' (.cells #[I x] 3 (0,0)),Res.blk b4' (.cells #[I nd] 3 (0,0)),Res.blk b3' (.cells #[I c.p,I c.d,I c.v,I c.l,I c.st,.slice aa c.ap.length ac,.slice va c.vt.length vc] 30 (0,0)),Res.blk b13 (.cells #[.slice y.1 (shL x c nd).length y.2] 33 (0,0))])) (.cons (rv_ca (b:=b10) (cs:=#[I 0,I 0,I 0,I 0,I 0,I 0,I 0,I 0]) (hl:=rfl)) (.cons (rv_cf (b:=b11) (v:=I 80)) .nil)) fun w' hw=>⟨rfl,hw.sub (List.nil_sublist _)⟩
  · show Calls _ _ _ _ _
    have hps:=(show St w [] w' (sM L Dk _ b3' b4' b5' b13 c aa va ac vc nd x none 0 [] ++ [.blk b11 (.cells #[I 0] 34 (0,0)),.blk b10 (.cells #[I 0,I 0,I 0,I 0,I 0,I 0,I 0,I 0] 61 (0,0)),.blk b6 (.cells #[I c.p,I c.d,I c.v,I c.l,I c.st,.slice aa c.ap.length ac,.slice va c.vt.length vc] 30 (0,0)),.blk b5 (.cells #[I p.id,I p.rk,.slice ga p.gs.length gc,I nd,I p.cool] 26 (0,0))]) from hw').has
    refine (shares1_ok w' _ L Dk b3' b4' b5' b13 c aa va ac vc nd x hx0 hx hnl hac hal hR hgr hcp hql hps.1 hps.2 rfl (fun w2 l2 h=>hA.st (hw'.transL (l2:=[.blk b11 (.cells #[I 0] 34 (0,0)),.blk b10 (.cells #[I 0,I 0,I 0,I 0,I 0,I 0,I 0,I 0] 61 (0,0)),.blk b6 (.cells #[I c.p,I c.d,I c.v,I c.l,I c.st,.slice aa c.ap.length ac,.slice va c.vt.length vc] 30 (0,0)),.blk b5 (.cells #[I p.id,I p.rk,.slice ga p.gs.length gc,I nd,I p.cool] 26 (0,0))]) (.refl _) h)) (fun a c' k z w2 hk9 hz hse h2=>?_) (fun a c' k z w2 hk9 hz hne h2=>?_)).mono ?_
    rotate_left 2
    · rintro e w2 (⟨hv9,hal9,y,h2⟩ | ⟨m,z,y,hm9,hz9,hne9,hb9,he9,h2⟩)
      · exact ⟨hv9,y,trivial,hw'.transL (l2:=[.blk b11 (.cells #[I 0] 34 (0,0)),.blk b10 (.cells #[I 0,I 0,I 0,I 0,I 0,I 0,I 0,I 0] 61 (0,0)),.blk b6 (.cells #[I c.p,I c.d,I c.v,I c.l,I c.st,.slice aa c.ap.length ac,.slice va c.vt.length vc] 30 (0,0)),.blk b5 (.cells #[I p.id,I p.rk,.slice ga p.gs.length gc,I nd,I p.cool] 26 (0,0))]) (.refl _) h2⟩
      · exact absurd (hall m z hm9 hz9) hne9
    · -- a round that goes well
      have hqk:(shL x c k).length = k:=shL_length (by omega)
      have hf9:=((hfr []).put 41 (.agg #[I (shV x c z).1,I (shV x c z).2]) rfl).put 42 (I 0) rfl
      refine round_okE (σ:=Nat) (F1:=fun b14=>[(11,.pointer (some ⟨b11,0,none⟩)),(13,.pointer (some ⟨b13,0,none⟩)),(14,.pointer (some ⟨b14,0,none⟩)),(15,I 0)]) (l1:=fun b14=>(.blk b14 (.cells #[I (shV x c z).1,I (shV x c z).2] 46 (0,0))) :: sM L Dk _ b3' b4' b5' b13 c aa va ac vc nd x a c' (shL x c k)) (l2:=fun b14=>(.blk b14 (.cells #[I (shV x c z).1,I (shV x c z).2] 46 (0,0))) :: sM L Dk _ b3' b4' b5' b13 c aa va ac vc nd x a c' (shL x c k)) h2 hf9 (by simp [Act.put]) (by rfl) (fun _=>.tail _ (.head _)) ?_ (fun b14=>?_)
      · refine c_seq<|c_reg<|s_alloc fun b14=>s_sta (b:=b14) (vs:=#[I (shV x c z).1,I (shV x c z).2]) (cs:=#[I 0,I 0]) (h1:=by intro u hu; simp at hu; rcases hu with rfl | rfl <;> rfl) (hl:=rfl) (hs1:=rfl) ?_
        refine s_nil<|q_then<|c_reg<|s_y y_as<|s_nil<|?_
        exact q_joinE b14 ⟨rfl,rfl,rfl,rfl,trivial⟩ (.refl _)
      · refine c_block<|c_seq<|c_reg<|s_y y_mv<|s_pure (fun w3 h3=>try_ok w3)<|s_nil<|q_then<|c_reg<|s_y (y_ld (b:=b13) (v:=.slice a (shL x c k).length c'))<|s_y (y_lda (b:=b14) (cs:=#[I (shV x c z).1,I (shV x c z).2]) (hl:=rfl))<|s_bslr (cs:=[I (shV x c z).1,I (shV x c z).2]) fun b47=>s_app (m:=1) (fun w' hw=>Src.slice (rdR (.head _) w' hw) rfl) (h1:=fun v hv=>by simp at hv; rcases hv with rfl | rfl <;> rfl) (hm:=.tail _ (.tail _ (.tail _ (.tail _ (.head _))))) (hrep:=fun _ _=>.tail _ (.tail _ (.tail _ (.tail _ (.head _))))) fun a48 c48 h48=>?_
        rw [show shc (shL x c k) ++ [I (shV x c z).1,I (shV x c z).2] = shc (shL x c (k + 1)) by rw [shL_succ hz,shc_append]; rfl,show (shL x c k).length + 1 = (shL x c (k + 1)).length by rw [shL_succ hz,List.length_append]; rfl]
        refine s_st (b:=b13) (v:=.slice a48 (shL x c (k + 1)).length c48) (cs:=#[.slice a (shL x c k).length c']) (hl:=Nat.zero_lt_one) ?_
        exact s_nil<|q_nb<|q_rn (.tail _ (.tail _ (.head _))) fun w3 h3=>⟨(a48,c48),trivial,rfl,h3.sub (.cons _ (.cons _ (.refl _)))⟩
    · exact absurd (hall k z hk9 hz) hne
theorem Finish_key (w:World) (p:Pn) (c:Cs) (now ver:Int) (ga aa va:Option Addr) (gc ac vc:Nat) (hrg:Rd w ga (is p.gs)) (hra:Rd w aa (apc c.ap)) (hrv:Rd w va (vtc c.vt)) (hgl:p.gs.length ≤ 1000000) (hal:c.ap.length ≤ 1000000) (hvl:c.vt.length ≤ 1000000) (hst:stE p c now = 0) (x:Nat) (hx0:1 ≤ x) (hx:x < 2305843009213688669) (hv:((pp 4 x:Nat):Int) = c.l) (hac:c.ap.length ≤ ac) (hR:R5 c) (hcp:∀ z ∈ c.ap,z.q.length ≤ z.c) (hql:∀ z ∈ c.ap,z.q.length ≤ 100000) (hA:ApRd c aa w) (nd:Nat) (hnd:p.need = (nd:Int)) (hnd2:nd < 20) (hall:∀ k z,k < nd → c.ap[k]? = some z → shE x c z = 0) (r:Nat) (hrq:r < 2305843009213688669) (hch:chS (isort (shL x c nd)) = 0) (hjn:jnV (isort (shL x c nd)) = (r:Int)) (hr0:r ≠ 0) (hrk:¬ ((pp 4 r:Nat):Int) = p.rk):Pure Tryz.prog 29 [.agg #[I p.id,I p.rk,.slice ga p.gs.length gc,I p.need,I p.cool],.agg #[I c.p,I c.d,I c.v,I c.l,I c.st,.slice aa c.ap.length ac,.slice va c.vt.length vc],I now,I ver,I x] w (.tuple #[.agg #[I 0,I 0,I 0,I 0,I 0,I 0,I 0,I 0],I (80)]):=by
  have hgr:∀ z ∈ c.ap,R64 z.g:=fun z hz=>by
    obtain ⟨hp9,hb9,_⟩:=stE_inv hst
    have h9:=hp9.gs z.g (hb9.fg z hz)
    unfold R64; omega
  have hnl:nd ≤ c.ap.length:=by have:=(stE_inv hst).2.2.2.2; omega
  refine enterW Tryz.func29 Tryz.ntmps29 (g_cp ?_)
  refine c_seq<|c_reg<|s_box rfl fun b5=>s_box rfl fun b6=>s_alloc fun b10=>s_alloc fun b11=>s_nil<|q_then<|c_seq<|c_reg<|s_y y_func<|s_deferC<|s_nil<|q_then<|c_seq<|c_reg<|s_y (y_lda (b:=b5) (cs:=#[I p.id,I p.rk,.slice ga p.gs.length gc,I p.need,I p.cool]) (hl:=rfl))<|s_y (y_lda (b:=b6) (cs:=#[I c.p,I c.d,I c.v,I c.l,I c.st,.slice aa c.ap.length ac,.slice va c.vt.length vc]) (hl:=rfl))<|s_y y_mv<|s_pure (fun w' hw=>(by have h9:=State_ok w' p c now ga aa va gc ac vc (hrg.st hw) (hra.st hw) (hrv.st hw) hgl hal hvl; rw [hst] at h9; exact h9))<|s_pure (fun w' hw=>try_ok w')<|s_nil<|q_then<|c_seq<|c_reg<|s_y y_mv<|s_pure (fun w' hw=>sPublic_yes w' x hx0 hx)<|s_y y_mv<|s_y y_ext<|s_y y_ext<|s_y y_as<|s_st (b:=b11) (v:=I 0) (cs:=#[I 0]) (hl:=Nat.zero_lt_one) ?_
  refine s_nil<|q_then<|c_seq<|c_reg<|s_y (y_ld (b:=b11) (v:=I 0))<|s_pure (fun w' hw=>try_ok w')<|s_nil<|q_then<|c_seq<|c_reg<|s_y y_mv<|s_y y_fa<|s_y (y_ld (b:=b6) (v:=I c.l))<|s_kt (y_eql (p:=(pp 4 x:Nat)) (q:=c.l)) hv<|s_pure (fun w' hw=>demand_ok w' 390)<|s_nil<|q_then<|c_seq<|c_reg<|s_alloc fun b13=>s_nil<|q_then<|c_seq<|c_seq<|c_reg<|s_y (y_lda (b:=b6) (cs:=#[I c.p,I c.d,I c.v,I c.l,I c.st,.slice aa c.ap.length ac,.slice va c.vt.length vc]) (hl:=rfl))<|s_y y_fa<|s_y (y_ld (b:=b5) (v:=I p.need))<|s_y y_mv<|s_gives (fun w' hw=>shares_ok w' c p.need x aa va ac vc) fun x40 _=>s_nil<|q_then<|?_
  obtain ⟨b3',b4',b5'⟩:=x40
  dsimp only
  rw [hnd]
  refine c_nilrow 46 2<|c_block<|c_rangeN (σ:=Option Addr × Nat) (fun y=>[.row y.1 y.2 46 2 (shL x c nd).length (shc (shL x c nd)),.blk b5' (.cells #[I x] 3 (0,0)),.blk b4' (.cells #[I nd] 3 (0,0)),.blk b3' (.cells #[I c.p,I c.d,I c.v,I c.l,I c.st,.slice aa c.ap.length ac,.slice va c.vt.length vc] 30 (0,0)),.blk b13 (.cells #[.slice y.1 (shL x c nd).length y.2] 33 (0,0))] ++ [.blk b11 (.cells #[I 0] 34 (0,0)),.blk b10 (.cells #[I 0,I 0,I 0,I 0,I 0,I 0,I 0,I 0] 61 (0,0)),.blk b6 (.cells #[I c.p,I c.d,I c.v,I c.l,I c.st,.slice aa c.ap.length ac,.slice va c.vt.length vc] 30 (0,0)),.blk b5 (.cells #[I p.id,I p.rk,.slice ga p.gs.length gc,I nd,I p.cool] 26 (0,0))]) (fun _=>True) (fun fn tm Dk L hfr w' hw'=>?_) (fun Dk y _=>?_)
  rotate_left
  · refine q_nb<|q_then<|c_seq<|c_reg<|s_y (y_ld (b:=b13) (v:=.slice y.1 (shL x c nd).length y.2))<|?_
    refine s_upd (σ:=Unit) (p:=.row y.1 y.2 46 2 (shL x c nd).length (shc (shL x c nd))) (p':=fun _=>.row y.1 y.2 46 2 (shL x c nd).length (shc (isort (shL x c nd)))) (lx:=fun _=>[]) (φ:=fun _=>True) (val:=fun _=>.tuple #[]) (fun w' hw=>sortS_ok w' y.1 y.2 (shL x c nd).length (shL x c nd) rfl (by rw [shL_length hnl]; omega) (hw.own _ (.tail _ (.head _))).1) (fun _=>.tail _ (.head _)) fun _ _=>?_
    refine s_nil<|q_then<|c_seq<|c_reg<|s_y (y_ld (b:=b13) (v:=.slice y.1 (shL x c nd).length y.2))<|s_pure (fun w' hw=>(by have h9:=s_Join_ok w' y.1 y.2 (isort (shL x c nd)) (rdR (.tail _ (.head _)) w' hw) (by rw [isort_length,shL_length hnl]; omega); rw [isort_length] at h9; exact h9))<|s_y y_mv<|s_y y_ext<|s_y y_ext<|s_y y_as<|s_st (b:=b11) (v:=I (chS (isort (shL x c nd)))) (cs:=#[I 0]) (hl:=Nat.zero_lt_one) ?_
    refine s_nil<|q_then<|c_seq<|c_reg<|s_y (y_ld (b:=b11) (v:=I (chS (isort (shL x c nd)))))<|?_
    rw [hch]
    refine s_pure (fun w' hw=>try_ok w')<|s_nil<|q_then<|c_seq<|c_reg<|s_y y_mv<|?_
    rw [hjn]
    refine s_pure (fun w' hw=>gBase_el w' r hrq)<|s_y y_mv<|s_y y_ext<|s_y y_ext<|s_y y_as<|s_st (b:=b11) (v:=I 0) (cs:=#[I 0]) (hl:=Nat.zero_lt_one) ?_
    refine s_nil<|q_then<|c_seq<|c_reg<|s_y (y_ld (b:=b11) (v:=I 0))<|s_pure (fun w' hw=>try_ok w')<|s_nil<|q_then<|c_seq<|c_reg<|s_y y_mv<|s_nt (y_neq (p:=((r:Nat):Int)) (q:=0)) (by omega)<|s_y y_mv<|s_y y_mv<|s_y y_fa<|s_y (y_ld (b:=b5) (v:=I p.rk))<|s_kf (y_eql (p:=((pp 4 r:Nat):Int)) (q:=p.rk)) hrk<|s_y y_pk<|?_
    exact s_dies (fun w' hw=>demand_dies w' 80)<|q_pt<|q_markP (.head _)<|leaveW_P (fun w' hw=>rcFinish_P w' b11 0 80 (hw.own _ (.head _)).1) Tryz.results29 (List.perm_middle (l₁:=[Res.blk Dk (.deferred none),Res.row y.1 y.2 46 2 (shL x c nd).length (shc (isort (shL x c nd))),Res.blk b5' (.cells #[I x] 3 (0,0)),Res.blk b4' (.cells #[I nd] 3 (0,0)),Res.blk b3' (.cells #[I c.p,I c.d,I c.v,I c.l,I c.st,.slice aa c.ap.length ac,.slice va c.vt.length vc] 30 (0,0)),Res.blk b13 (.cells #[.slice y.1 (shL x c nd).length y.2] 33 (0,0))])) (.cons (rv_ca (b:=b10) (cs:=#[I 0,I 0,I 0,I 0,I 0,I 0,I 0,I 0]) (hl:=rfl)) (.cons (rv_cf (b:=b11) (v:=I 80)) .nil)) fun w' hw=>⟨rfl,hw.sub (List.nil_sublist _)⟩
  · show Calls _ _ _ _ _
    have hps:=(show St w [] w' (sM L Dk _ b3' b4' b5' b13 c aa va ac vc nd x none 0 [] ++ [.blk b11 (.cells #[I 0] 34 (0,0)),.blk b10 (.cells #[I 0,I 0,I 0,I 0,I 0,I 0,I 0,I 0] 61 (0,0)),.blk b6 (.cells #[I c.p,I c.d,I c.v,I c.l,I c.st,.slice aa c.ap.length ac,.slice va c.vt.length vc] 30 (0,0)),.blk b5 (.cells #[I p.id,I p.rk,.slice ga p.gs.length gc,I nd,I p.cool] 26 (0,0))]) from hw').has
    refine (shares1_ok w' _ L Dk b3' b4' b5' b13 c aa va ac vc nd x hx0 hx hnl hac hal hR hgr hcp hql hps.1 hps.2 rfl (fun w2 l2 h=>hA.st (hw'.transL (l2:=[.blk b11 (.cells #[I 0] 34 (0,0)),.blk b10 (.cells #[I 0,I 0,I 0,I 0,I 0,I 0,I 0,I 0] 61 (0,0)),.blk b6 (.cells #[I c.p,I c.d,I c.v,I c.l,I c.st,.slice aa c.ap.length ac,.slice va c.vt.length vc] 30 (0,0)),.blk b5 (.cells #[I p.id,I p.rk,.slice ga p.gs.length gc,I nd,I p.cool] 26 (0,0))]) (.refl _) h)) (fun a c' k z w2 hk9 hz hse h2=>?_) (fun a c' k z w2 hk9 hz hne h2=>?_)).mono ?_
    rotate_left 2
    · rintro e w2 (⟨hv9,hal9,y,h2⟩ | ⟨m,z,y,hm9,hz9,hne9,hb9,he9,h2⟩)
      · exact ⟨hv9,y,trivial,hw'.transL (l2:=[.blk b11 (.cells #[I 0] 34 (0,0)),.blk b10 (.cells #[I 0,I 0,I 0,I 0,I 0,I 0,I 0,I 0] 61 (0,0)),.blk b6 (.cells #[I c.p,I c.d,I c.v,I c.l,I c.st,.slice aa c.ap.length ac,.slice va c.vt.length vc] 30 (0,0)),.blk b5 (.cells #[I p.id,I p.rk,.slice ga p.gs.length gc,I nd,I p.cool] 26 (0,0))]) (.refl _) h2⟩
      · exact absurd (hall m z hm9 hz9) hne9
    · -- a round that goes well
      have hqk:(shL x c k).length = k:=shL_length (by omega)
      have hf9:=((hfr []).put 41 (.agg #[I (shV x c z).1,I (shV x c z).2]) rfl).put 42 (I 0) rfl
      refine round_okE (σ:=Nat) (F1:=fun b14=>[(11,.pointer (some ⟨b11,0,none⟩)),(13,.pointer (some ⟨b13,0,none⟩)),(14,.pointer (some ⟨b14,0,none⟩)),(15,I 0)]) (l1:=fun b14=>(.blk b14 (.cells #[I (shV x c z).1,I (shV x c z).2] 46 (0,0))) :: sM L Dk _ b3' b4' b5' b13 c aa va ac vc nd x a c' (shL x c k)) (l2:=fun b14=>(.blk b14 (.cells #[I (shV x c z).1,I (shV x c z).2] 46 (0,0))) :: sM L Dk _ b3' b4' b5' b13 c aa va ac vc nd x a c' (shL x c k)) h2 hf9 (by simp [Act.put]) (by rfl) (fun _=>.tail _ (.head _)) ?_ (fun b14=>?_)
      · refine c_seq<|c_reg<|s_alloc fun b14=>s_sta (b:=b14) (vs:=#[I (shV x c z).1,I (shV x c z).2]) (cs:=#[I 0,I 0]) (h1:=by intro u hu; simp at hu; rcases hu with rfl | rfl <;> rfl) (hl:=rfl) (hs1:=rfl) ?_
        refine s_nil<|q_then<|c_reg<|s_y y_as<|s_nil<|?_
        exact q_joinE b14 ⟨rfl,rfl,rfl,rfl,trivial⟩ (.refl _)
      · refine c_block<|c_seq<|c_reg<|s_y y_mv<|s_pure (fun w3 h3=>try_ok w3)<|s_nil<|q_then<|c_reg<|s_y (y_ld (b:=b13) (v:=.slice a (shL x c k).length c'))<|s_y (y_lda (b:=b14) (cs:=#[I (shV x c z).1,I (shV x c z).2]) (hl:=rfl))<|s_bslr (cs:=[I (shV x c z).1,I (shV x c z).2]) fun b47=>s_app (m:=1) (fun w' hw=>Src.slice (rdR (.head _) w' hw) rfl) (h1:=fun v hv=>by simp at hv; rcases hv with rfl | rfl <;> rfl) (hm:=.tail _ (.tail _ (.tail _ (.tail _ (.head _))))) (hrep:=fun _ _=>.tail _ (.tail _ (.tail _ (.tail _ (.head _))))) fun a48 c48 h48=>?_
        rw [show shc (shL x c k) ++ [I (shV x c z).1,I (shV x c z).2] = shc (shL x c (k + 1)) by rw [shL_succ hz,shc_append]; rfl,show (shL x c k).length + 1 = (shL x c (k + 1)).length by rw [shL_succ hz,List.length_append]; rfl]
        refine s_st (b:=b13) (v:=.slice a48 (shL x c (k + 1)).length c48) (cs:=#[.slice a (shL x c k).length c']) (hl:=Nat.zero_lt_one) ?_
        exact s_nil<|q_nb<|q_rn (.tail _ (.tail _ (.head _))) fun w3 h3=>⟨(a48,c48),trivial,rfl,h3.sub (.cons _ (.cons _ (.refl _)))⟩
    · exact absurd (hall k z hk9 hz) hne
theorem Finish_ver (w:World) (p:Pn) (c:Cs) (now ver:Int) (ga aa va:Option Addr) (gc ac vc:Nat) (hrg:Rd w ga (is p.gs)) (hra:Rd w aa (apc c.ap)) (hrv:Rd w va (vtc c.vt)) (hgl:p.gs.length ≤ 1000000) (hal:c.ap.length ≤ 1000000) (hvl:c.vt.length ≤ 1000000) (hst:stE p c now = 0) (x:Nat) (hx0:1 ≤ x) (hx:x < 2305843009213688669) (hv:((pp 4 x:Nat):Int) = c.l) (hac:c.ap.length ≤ ac) (hR:R5 c) (hcp:∀ z ∈ c.ap,z.q.length ≤ z.c) (hql:∀ z ∈ c.ap,z.q.length ≤ 100000) (hA:ApRd c aa w) (nd:Nat) (hnd:p.need = (nd:Int)) (hnd2:nd < 20) (hall:∀ k z,k < nd → c.ap[k]? = some z → shE x c z = 0) (r:Nat) (hrq:r < 2305843009213688669) (hch:chS (isort (shL x c nd)) = 0) (hjn:jnV (isort (shL x c nd)) = (r:Int)) (hr0:r ≠ 0) (hrk:((pp 4 r:Nat):Int) = p.rk) (hcr:¬ CrRt c.d c.v c.l ver):Pure Tryz.prog 29 [.agg #[I p.id,I p.rk,.slice ga p.gs.length gc,I p.need,I p.cool],.agg #[I c.p,I c.d,I c.v,I c.l,I c.st,.slice aa c.ap.length ac,.slice va c.vt.length vc],I now,I ver,I x] w (.tuple #[.agg #[I 0,I 0,I 0,I 0,I 0,I 0,I 0,I 0],I (370)]):=by
  have hgr:∀ z ∈ c.ap,R64 z.g:=fun z hz=>by
    obtain ⟨hp9,hb9,_⟩:=stE_inv hst
    have h9:=hp9.gs z.g (hb9.fg z hz)
    unfold R64; omega
  have hnl:nd ≤ c.ap.length:=by have:=(stE_inv hst).2.2.2.2; omega
  refine enterW Tryz.func29 Tryz.ntmps29 (g_cp ?_)
  refine c_seq<|c_reg<|s_box rfl fun b5=>s_box rfl fun b6=>s_alloc fun b10=>s_alloc fun b11=>s_nil<|q_then<|c_seq<|c_reg<|s_y y_func<|s_deferC<|s_nil<|q_then<|c_seq<|c_reg<|s_y (y_lda (b:=b5) (cs:=#[I p.id,I p.rk,.slice ga p.gs.length gc,I p.need,I p.cool]) (hl:=rfl))<|s_y (y_lda (b:=b6) (cs:=#[I c.p,I c.d,I c.v,I c.l,I c.st,.slice aa c.ap.length ac,.slice va c.vt.length vc]) (hl:=rfl))<|s_y y_mv<|s_pure (fun w' hw=>(by have h9:=State_ok w' p c now ga aa va gc ac vc (hrg.st hw) (hra.st hw) (hrv.st hw) hgl hal hvl; rw [hst] at h9; exact h9))<|s_pure (fun w' hw=>try_ok w')<|s_nil<|q_then<|c_seq<|c_reg<|s_y y_mv<|s_pure (fun w' hw=>sPublic_yes w' x hx0 hx)<|s_y y_mv<|s_y y_ext<|s_y y_ext<|s_y y_as<|s_st (b:=b11) (v:=I 0) (cs:=#[I 0]) (hl:=Nat.zero_lt_one) ?_
  refine s_nil<|q_then<|c_seq<|c_reg<|s_y (y_ld (b:=b11) (v:=I 0))<|s_pure (fun w' hw=>try_ok w')<|s_nil<|q_then<|c_seq<|c_reg<|s_y y_mv<|s_y y_fa<|s_y (y_ld (b:=b6) (v:=I c.l))<|s_kt (y_eql (p:=(pp 4 x:Nat)) (q:=c.l)) hv<|s_pure (fun w' hw=>demand_ok w' 390)<|s_nil<|q_then<|c_seq<|c_reg<|s_alloc fun b13=>s_nil<|q_then<|c_seq<|c_seq<|c_reg<|s_y (y_lda (b:=b6) (cs:=#[I c.p,I c.d,I c.v,I c.l,I c.st,.slice aa c.ap.length ac,.slice va c.vt.length vc]) (hl:=rfl))<|s_y y_fa<|s_y (y_ld (b:=b5) (v:=I p.need))<|s_y y_mv<|s_gives (fun w' hw=>shares_ok w' c p.need x aa va ac vc) fun x40 _=>s_nil<|q_then<|?_
  obtain ⟨b3',b4',b5'⟩:=x40
  dsimp only
  rw [hnd]
  refine c_nilrow 46 2<|c_block<|c_rangeN (σ:=Option Addr × Nat) (fun y=>[.row y.1 y.2 46 2 (shL x c nd).length (shc (shL x c nd)),.blk b5' (.cells #[I x] 3 (0,0)),.blk b4' (.cells #[I nd] 3 (0,0)),.blk b3' (.cells #[I c.p,I c.d,I c.v,I c.l,I c.st,.slice aa c.ap.length ac,.slice va c.vt.length vc] 30 (0,0)),.blk b13 (.cells #[.slice y.1 (shL x c nd).length y.2] 33 (0,0))] ++ [.blk b11 (.cells #[I 0] 34 (0,0)),.blk b10 (.cells #[I 0,I 0,I 0,I 0,I 0,I 0,I 0,I 0] 61 (0,0)),.blk b6 (.cells #[I c.p,I c.d,I c.v,I c.l,I c.st,.slice aa c.ap.length ac,.slice va c.vt.length vc] 30 (0,0)),.blk b5 (.cells #[I p.id,I p.rk,.slice ga p.gs.length gc,I nd,I p.cool] 26 (0,0))]) (fun _=>True) (fun fn tm Dk L hfr w' hw'=>?_) (fun Dk y _=>?_)
  rotate_left
  · refine q_nb<|q_then<|c_seq<|c_reg<|s_y (y_ld (b:=b13) (v:=.slice y.1 (shL x c nd).length y.2))<|?_
    refine s_upd (σ:=Unit) (p:=.row y.1 y.2 46 2 (shL x c nd).length (shc (shL x c nd))) (p':=fun _=>.row y.1 y.2 46 2 (shL x c nd).length (shc (isort (shL x c nd)))) (lx:=fun _=>[]) (φ:=fun _=>True) (val:=fun _=>.tuple #[]) (fun w' hw=>sortS_ok w' y.1 y.2 (shL x c nd).length (shL x c nd) rfl (by rw [shL_length hnl]; omega) (hw.own _ (.tail _ (.head _))).1) (fun _=>.tail _ (.head _)) fun _ _=>?_
    refine s_nil<|q_then<|c_seq<|c_reg<|s_y (y_ld (b:=b13) (v:=.slice y.1 (shL x c nd).length y.2))<|s_pure (fun w' hw=>(by have h9:=s_Join_ok w' y.1 y.2 (isort (shL x c nd)) (rdR (.tail _ (.head _)) w' hw) (by rw [isort_length,shL_length hnl]; omega); rw [isort_length] at h9; exact h9))<|s_y y_mv<|s_y y_ext<|s_y y_ext<|s_y y_as<|s_st (b:=b11) (v:=I (chS (isort (shL x c nd)))) (cs:=#[I 0]) (hl:=Nat.zero_lt_one) ?_
    refine s_nil<|q_then<|c_seq<|c_reg<|s_y (y_ld (b:=b11) (v:=I (chS (isort (shL x c nd)))))<|?_
    rw [hch]
    refine s_pure (fun w' hw=>try_ok w')<|s_nil<|q_then<|c_seq<|c_reg<|s_y y_mv<|?_
    rw [hjn]
    refine s_pure (fun w' hw=>gBase_el w' r hrq)<|s_y y_mv<|s_y y_ext<|s_y y_ext<|s_y y_as<|s_st (b:=b11) (v:=I 0) (cs:=#[I 0]) (hl:=Nat.zero_lt_one) ?_
    refine s_nil<|q_then<|c_seq<|c_reg<|s_y (y_ld (b:=b11) (v:=I 0))<|s_pure (fun w' hw=>try_ok w')<|s_nil<|q_then<|c_seq<|c_reg<|s_y y_mv<|s_nt (y_neq (p:=((r:Nat):Int)) (q:=0)) (by omega)<|s_y y_mv<|s_y y_mv<|s_y y_fa<|s_y (y_ld (b:=b5) (v:=I p.rk))<|s_kt (y_eql (p:=((pp 4 r:Nat):Int)) (q:=p.rk)) hrk<|s_y y_pk<|s_pure (fun w' hw=>demand_ok w' 80)<|s_nil<|q_then<|c_seq<|c_reg<|s_y y_fa<|s_y (y_ld (b:=b6) (v:=I c.d))<|s_y y_fa<|s_y (y_ld (b:=b6) (v:=I c.v))<|s_y y_fa<|s_y (y_ld (b:=b6) (v:=I c.l))<|s_y y_mv<|s_y y_mv<|s_pure (fun w' hw=>Certify3_no w' c.d c.v c.l ver r hcr)<|s_y y_ext<|s_y y_ext<|s_sta (b:=b10) (vs:=#[I 0,I 0,I 0,I 0,I 0,I 0,I 0,I 0]) (cs:=#[I 0,I 0,I 0,I 0,I 0,I 0,I 0,I 0]) (h1:=one_allA rfl) (hl:=rfl) (hs1:=rfl) ?_
    refine s_st (b:=b11) (v:=I 370) (cs:=#[I 0]) (hl:=Nat.zero_lt_one) ?_
    refine s_nil<|q_then<|c_ret<|q_mark (.head _)<|?_
    exact leaveW_R (cs:=[.pointer (some ⟨b11,0,none⟩)]) (fun w' hw=>rcFinish_R w' b11) Tryz.results29 (.cons (rv_ca (b:=b10) (cs:=#[I 0,I 0,I 0,I 0,I 0,I 0,I 0,I 0]) (hl:=rfl)) (.cons (rv_cf (b:=b11) (v:=I 370)) .nil)) fun w' hw=>⟨rfl,hw.sub (List.nil_sublist _)⟩
  · show Calls _ _ _ _ _
    have hps:=(show St w [] w' (sM L Dk _ b3' b4' b5' b13 c aa va ac vc nd x none 0 [] ++ [.blk b11 (.cells #[I 0] 34 (0,0)),.blk b10 (.cells #[I 0,I 0,I 0,I 0,I 0,I 0,I 0,I 0] 61 (0,0)),.blk b6 (.cells #[I c.p,I c.d,I c.v,I c.l,I c.st,.slice aa c.ap.length ac,.slice va c.vt.length vc] 30 (0,0)),.blk b5 (.cells #[I p.id,I p.rk,.slice ga p.gs.length gc,I nd,I p.cool] 26 (0,0))]) from hw').has
    refine (shares1_ok w' _ L Dk b3' b4' b5' b13 c aa va ac vc nd x hx0 hx hnl hac hal hR hgr hcp hql hps.1 hps.2 rfl (fun w2 l2 h=>hA.st (hw'.transL (l2:=[.blk b11 (.cells #[I 0] 34 (0,0)),.blk b10 (.cells #[I 0,I 0,I 0,I 0,I 0,I 0,I 0,I 0] 61 (0,0)),.blk b6 (.cells #[I c.p,I c.d,I c.v,I c.l,I c.st,.slice aa c.ap.length ac,.slice va c.vt.length vc] 30 (0,0)),.blk b5 (.cells #[I p.id,I p.rk,.slice ga p.gs.length gc,I nd,I p.cool] 26 (0,0))]) (.refl _) h)) (fun a c' k z w2 hk9 hz hse h2=>?_) (fun a c' k z w2 hk9 hz hne h2=>?_)).mono ?_
    rotate_left 2
    · rintro e w2 (⟨hv9,hal9,y,h2⟩ | ⟨m,z,y,hm9,hz9,hne9,hb9,he9,h2⟩)
      · exact ⟨hv9,y,trivial,hw'.transL (l2:=[.blk b11 (.cells #[I 0] 34 (0,0)),.blk b10 (.cells #[I 0,I 0,I 0,I 0,I 0,I 0,I 0,I 0] 61 (0,0)),.blk b6 (.cells #[I c.p,I c.d,I c.v,I c.l,I c.st,.slice aa c.ap.length ac,.slice va c.vt.length vc] 30 (0,0)),.blk b5 (.cells #[I p.id,I p.rk,.slice ga p.gs.length gc,I nd,I p.cool] 26 (0,0))]) (.refl _) h2⟩
      · exact absurd (hall m z hm9 hz9) hne9
    · -- a round that goes well
      have hqk:(shL x c k).length = k:=shL_length (by omega)
      have hf9:=((hfr []).put 41 (.agg #[I (shV x c z).1,I (shV x c z).2]) rfl).put 42 (I 0) rfl
      refine round_okE (σ:=Nat) (F1:=fun b14=>[(11,.pointer (some ⟨b11,0,none⟩)),(13,.pointer (some ⟨b13,0,none⟩)),(14,.pointer (some ⟨b14,0,none⟩)),(15,I 0)]) (l1:=fun b14=>(.blk b14 (.cells #[I (shV x c z).1,I (shV x c z).2] 46 (0,0))) :: sM L Dk _ b3' b4' b5' b13 c aa va ac vc nd x a c' (shL x c k)) (l2:=fun b14=>(.blk b14 (.cells #[I (shV x c z).1,I (shV x c z).2] 46 (0,0))) :: sM L Dk _ b3' b4' b5' b13 c aa va ac vc nd x a c' (shL x c k)) h2 hf9 (by simp [Act.put]) (by rfl) (fun _=>.tail _ (.head _)) ?_ (fun b14=>?_)
      · refine c_seq<|c_reg<|s_alloc fun b14=>s_sta (b:=b14) (vs:=#[I (shV x c z).1,I (shV x c z).2]) (cs:=#[I 0,I 0]) (h1:=by intro u hu; simp at hu; rcases hu with rfl | rfl <;> rfl) (hl:=rfl) (hs1:=rfl) ?_
        refine s_nil<|q_then<|c_reg<|s_y y_as<|s_nil<|?_
        exact q_joinE b14 ⟨rfl,rfl,rfl,rfl,trivial⟩ (.refl _)
      · refine c_block<|c_seq<|c_reg<|s_y y_mv<|s_pure (fun w3 h3=>try_ok w3)<|s_nil<|q_then<|c_reg<|s_y (y_ld (b:=b13) (v:=.slice a (shL x c k).length c'))<|s_y (y_lda (b:=b14) (cs:=#[I (shV x c z).1,I (shV x c z).2]) (hl:=rfl))<|s_bslr (cs:=[I (shV x c z).1,I (shV x c z).2]) fun b47=>s_app (m:=1) (fun w' hw=>Src.slice (rdR (.head _) w' hw) rfl) (h1:=fun v hv=>by simp at hv; rcases hv with rfl | rfl <;> rfl) (hm:=.tail _ (.tail _ (.tail _ (.tail _ (.head _))))) (hrep:=fun _ _=>.tail _ (.tail _ (.tail _ (.tail _ (.head _))))) fun a48 c48 h48=>?_
        rw [show shc (shL x c k) ++ [I (shV x c z).1,I (shV x c z).2] = shc (shL x c (k + 1)) by rw [shL_succ hz,shc_append]; rfl,show (shL x c k).length + 1 = (shL x c (k + 1)).length by rw [shL_succ hz,List.length_append]; rfl]
        refine s_st (b:=b13) (v:=.slice a48 (shL x c (k + 1)).length c48) (cs:=#[.slice a (shL x c k).length c']) (hl:=Nat.zero_lt_one) ?_
        exact s_nil<|q_nb<|q_rn (.tail _ (.tail _ (.head _))) fun w3 h3=>⟨(a48,c48),trivial,rfl,h3.sub (.cons _ (.cons _ (.refl _)))⟩
    · exact absurd (hall k z hk9 hz) hne
theorem Finish_y (w:World) (p:Pn) (c:Cs) (now ver:Int) (ga aa va:Option Addr) (gc ac vc:Nat) (hrg:Rd w ga (is p.gs)) (hra:Rd w aa (apc c.ap)) (hrv:Rd w va (vtc c.vt)) (hgl:p.gs.length ≤ 1000000) (hal:c.ap.length ≤ 1000000) (hvl:c.vt.length ≤ 1000000) (hst:stE p c now = 0) (x:Nat) (hx0:1 ≤ x) (hx:x < 2305843009213688669) (hv:((pp 4 x:Nat):Int) = c.l) (hac:c.ap.length ≤ ac) (hR:R5 c) (hcp:∀ z ∈ c.ap,z.q.length ≤ z.c) (hql:∀ z ∈ c.ap,z.q.length ≤ 100000) (hA:ApRd c aa w) (nd:Nat) (hnd:p.need = (nd:Int)) (hnd2:nd < 20) (hall:∀ k z,k < nd → c.ap[k]? = some z → shE x c z = 0) (r:Nat) (hrq:r < 2305843009213688669) (hch:chS (isort (shL x c nd)) = 0) (hjn:jnV (isort (shL x c nd)) = (r:Int)) (hr0:r ≠ 0) (hrk:((pp 4 r:Nat):Int) = p.rk) (hcr:CrRt c.d c.v c.l ver):Pure Tryz.prog 29 [.agg #[I p.id,I p.rk,.slice ga p.gs.length gc,I p.need,I p.cool],.agg #[I c.p,I c.d,I c.v,I c.l,I c.st,.slice aa c.ap.length ac,.slice va c.vt.length vc],I now,I ver,I x] w (.tuple #[.agg #[I 3,I c.d,I c.v,I c.l,I ver,I (-1),I (sgR r (cmsg [3,c.d,c.v,c.l,ver,-1]):Nat),I (sgS r (cmsg [3,c.d,c.v,c.l,ver,-1]):Nat)],I (0)]):=by
  have hgr:∀ z ∈ c.ap,R64 z.g:=fun z hz=>by
    obtain ⟨hp9,hb9,_⟩:=stE_inv hst
    have h9:=hp9.gs z.g (hb9.fg z hz)
    unfold R64; omega
  have hnl:nd ≤ c.ap.length:=by have:=(stE_inv hst).2.2.2.2; omega
  refine enterW Tryz.func29 Tryz.ntmps29 (g_cp ?_)
  refine c_seq<|c_reg<|s_box rfl fun b5=>s_box rfl fun b6=>s_alloc fun b10=>s_alloc fun b11=>s_nil<|q_then<|c_seq<|c_reg<|s_y y_func<|s_deferC<|s_nil<|q_then<|c_seq<|c_reg<|s_y (y_lda (b:=b5) (cs:=#[I p.id,I p.rk,.slice ga p.gs.length gc,I p.need,I p.cool]) (hl:=rfl))<|s_y (y_lda (b:=b6) (cs:=#[I c.p,I c.d,I c.v,I c.l,I c.st,.slice aa c.ap.length ac,.slice va c.vt.length vc]) (hl:=rfl))<|s_y y_mv<|s_pure (fun w' hw=>(by have h9:=State_ok w' p c now ga aa va gc ac vc (hrg.st hw) (hra.st hw) (hrv.st hw) hgl hal hvl; rw [hst] at h9; exact h9))<|s_pure (fun w' hw=>try_ok w')<|s_nil<|q_then<|c_seq<|c_reg<|s_y y_mv<|s_pure (fun w' hw=>sPublic_yes w' x hx0 hx)<|s_y y_mv<|s_y y_ext<|s_y y_ext<|s_y y_as<|s_st (b:=b11) (v:=I 0) (cs:=#[I 0]) (hl:=Nat.zero_lt_one) ?_
  refine s_nil<|q_then<|c_seq<|c_reg<|s_y (y_ld (b:=b11) (v:=I 0))<|s_pure (fun w' hw=>try_ok w')<|s_nil<|q_then<|c_seq<|c_reg<|s_y y_mv<|s_y y_fa<|s_y (y_ld (b:=b6) (v:=I c.l))<|s_kt (y_eql (p:=(pp 4 x:Nat)) (q:=c.l)) hv<|s_pure (fun w' hw=>demand_ok w' 390)<|s_nil<|q_then<|c_seq<|c_reg<|s_alloc fun b13=>s_nil<|q_then<|c_seq<|c_seq<|c_reg<|s_y (y_lda (b:=b6) (cs:=#[I c.p,I c.d,I c.v,I c.l,I c.st,.slice aa c.ap.length ac,.slice va c.vt.length vc]) (hl:=rfl))<|s_y y_fa<|s_y (y_ld (b:=b5) (v:=I p.need))<|s_y y_mv<|s_gives (fun w' hw=>shares_ok w' c p.need x aa va ac vc) fun x40 _=>s_nil<|q_then<|?_
  obtain ⟨b3',b4',b5'⟩:=x40
  dsimp only
  rw [hnd]
  refine c_nilrow 46 2<|c_block<|c_rangeN (σ:=Option Addr × Nat) (fun y=>[.row y.1 y.2 46 2 (shL x c nd).length (shc (shL x c nd)),.blk b5' (.cells #[I x] 3 (0,0)),.blk b4' (.cells #[I nd] 3 (0,0)),.blk b3' (.cells #[I c.p,I c.d,I c.v,I c.l,I c.st,.slice aa c.ap.length ac,.slice va c.vt.length vc] 30 (0,0)),.blk b13 (.cells #[.slice y.1 (shL x c nd).length y.2] 33 (0,0))] ++ [.blk b11 (.cells #[I 0] 34 (0,0)),.blk b10 (.cells #[I 0,I 0,I 0,I 0,I 0,I 0,I 0,I 0] 61 (0,0)),.blk b6 (.cells #[I c.p,I c.d,I c.v,I c.l,I c.st,.slice aa c.ap.length ac,.slice va c.vt.length vc] 30 (0,0)),.blk b5 (.cells #[I p.id,I p.rk,.slice ga p.gs.length gc,I nd,I p.cool] 26 (0,0))]) (fun _=>True) (fun fn tm Dk L hfr w' hw'=>?_) (fun Dk y _=>?_)
  rotate_left
  · refine q_nb<|q_then<|c_seq<|c_reg<|s_y (y_ld (b:=b13) (v:=.slice y.1 (shL x c nd).length y.2))<|?_
    refine s_upd (σ:=Unit) (p:=.row y.1 y.2 46 2 (shL x c nd).length (shc (shL x c nd))) (p':=fun _=>.row y.1 y.2 46 2 (shL x c nd).length (shc (isort (shL x c nd)))) (lx:=fun _=>[]) (φ:=fun _=>True) (val:=fun _=>.tuple #[]) (fun w' hw=>sortS_ok w' y.1 y.2 (shL x c nd).length (shL x c nd) rfl (by rw [shL_length hnl]; omega) (hw.own _ (.tail _ (.head _))).1) (fun _=>.tail _ (.head _)) fun _ _=>?_
    refine s_nil<|q_then<|c_seq<|c_reg<|s_y (y_ld (b:=b13) (v:=.slice y.1 (shL x c nd).length y.2))<|s_pure (fun w' hw=>(by have h9:=s_Join_ok w' y.1 y.2 (isort (shL x c nd)) (rdR (.tail _ (.head _)) w' hw) (by rw [isort_length,shL_length hnl]; omega); rw [isort_length] at h9; exact h9))<|s_y y_mv<|s_y y_ext<|s_y y_ext<|s_y y_as<|s_st (b:=b11) (v:=I (chS (isort (shL x c nd)))) (cs:=#[I 0]) (hl:=Nat.zero_lt_one) ?_
    refine s_nil<|q_then<|c_seq<|c_reg<|s_y (y_ld (b:=b11) (v:=I (chS (isort (shL x c nd)))))<|?_
    rw [hch]
    refine s_pure (fun w' hw=>try_ok w')<|s_nil<|q_then<|c_seq<|c_reg<|s_y y_mv<|?_
    rw [hjn]
    refine s_pure (fun w' hw=>gBase_el w' r hrq)<|s_y y_mv<|s_y y_ext<|s_y y_ext<|s_y y_as<|s_st (b:=b11) (v:=I 0) (cs:=#[I 0]) (hl:=Nat.zero_lt_one) ?_
    refine s_nil<|q_then<|c_seq<|c_reg<|s_y (y_ld (b:=b11) (v:=I 0))<|s_pure (fun w' hw=>try_ok w')<|s_nil<|q_then<|c_seq<|c_reg<|s_y y_mv<|s_nt (y_neq (p:=((r:Nat):Int)) (q:=0)) (by omega)<|s_y y_mv<|s_y y_mv<|s_y y_fa<|s_y (y_ld (b:=b5) (v:=I p.rk))<|s_kt (y_eql (p:=((pp 4 r:Nat):Int)) (q:=p.rk)) hrk<|s_y y_pk<|s_pure (fun w' hw=>demand_ok w' 80)<|s_nil<|q_then<|c_seq<|c_reg<|s_y y_fa<|s_y (y_ld (b:=b6) (v:=I c.d))<|s_y y_fa<|s_y (y_ld (b:=b6) (v:=I c.v))<|s_y y_fa<|s_y (y_ld (b:=b6) (v:=I c.l))<|s_y y_mv<|s_y y_mv<|s_pure (fun w' hw=>Certify3_yes w' c.d c.v c.l ver r hcr (hA.st hw).g.1 (by omega) hrq)<|s_y y_ext<|s_y y_ext<|s_sta (b:=b10) (vs:=#[I 3,I c.d,I c.v,I c.l,I ver,I (-1),I (sgR r (cmsg [3,c.d,c.v,c.l,ver,-1]):Nat),I (sgS r (cmsg [3,c.d,c.v,c.l,ver,-1]):Nat)]) (cs:=#[I 0,I 0,I 0,I 0,I 0,I 0,I 0,I 0]) (h1:=by intro u hu; simp at hu; rcases hu with rfl | rfl | rfl | rfl | rfl | rfl | rfl | rfl <;> rfl) (hl:=rfl) (hs1:=rfl) ?_
    refine s_st (b:=b11) (v:=I 0) (cs:=#[I 0]) (hl:=Nat.zero_lt_one) ?_
    refine s_nil<|q_then<|c_ret<|q_mark (.head _)<|?_
    exact leaveW_R (cs:=[.pointer (some ⟨b11,0,none⟩)]) (fun w' hw=>rcFinish_R w' b11) Tryz.results29 (.cons (rv_ca (b:=b10) (cs:=#[I 3,I c.d,I c.v,I c.l,I ver,I (-1),I (sgR r (cmsg [3,c.d,c.v,c.l,ver,-1]):Nat),I (sgS r (cmsg [3,c.d,c.v,c.l,ver,-1]):Nat)]) (hl:=rfl)) (.cons (rv_cf (b:=b11) (v:=I 0)) .nil)) fun w' hw=>⟨rfl,hw.sub (List.nil_sublist _)⟩
  · show Calls _ _ _ _ _
    have hps:=(show St w [] w' (sM L Dk _ b3' b4' b5' b13 c aa va ac vc nd x none 0 [] ++ [.blk b11 (.cells #[I 0] 34 (0,0)),.blk b10 (.cells #[I 0,I 0,I 0,I 0,I 0,I 0,I 0,I 0] 61 (0,0)),.blk b6 (.cells #[I c.p,I c.d,I c.v,I c.l,I c.st,.slice aa c.ap.length ac,.slice va c.vt.length vc] 30 (0,0)),.blk b5 (.cells #[I p.id,I p.rk,.slice ga p.gs.length gc,I nd,I p.cool] 26 (0,0))]) from hw').has
    refine (shares1_ok w' _ L Dk b3' b4' b5' b13 c aa va ac vc nd x hx0 hx hnl hac hal hR hgr hcp hql hps.1 hps.2 rfl (fun w2 l2 h=>hA.st (hw'.transL (l2:=[.blk b11 (.cells #[I 0] 34 (0,0)),.blk b10 (.cells #[I 0,I 0,I 0,I 0,I 0,I 0,I 0,I 0] 61 (0,0)),.blk b6 (.cells #[I c.p,I c.d,I c.v,I c.l,I c.st,.slice aa c.ap.length ac,.slice va c.vt.length vc] 30 (0,0)),.blk b5 (.cells #[I p.id,I p.rk,.slice ga p.gs.length gc,I nd,I p.cool] 26 (0,0))]) (.refl _) h)) (fun a c' k z w2 hk9 hz hse h2=>?_) (fun a c' k z w2 hk9 hz hne h2=>?_)).mono ?_
    rotate_left 2
    · rintro e w2 (⟨hv9,hal9,y,h2⟩ | ⟨m,z,y,hm9,hz9,hne9,hb9,he9,h2⟩)
      · exact ⟨hv9,y,trivial,hw'.transL (l2:=[.blk b11 (.cells #[I 0] 34 (0,0)),.blk b10 (.cells #[I 0,I 0,I 0,I 0,I 0,I 0,I 0,I 0] 61 (0,0)),.blk b6 (.cells #[I c.p,I c.d,I c.v,I c.l,I c.st,.slice aa c.ap.length ac,.slice va c.vt.length vc] 30 (0,0)),.blk b5 (.cells #[I p.id,I p.rk,.slice ga p.gs.length gc,I nd,I p.cool] 26 (0,0))]) (.refl _) h2⟩
      · exact absurd (hall m z hm9 hz9) hne9
    · -- a round that goes well
      have hqk:(shL x c k).length = k:=shL_length (by omega)
      have hf9:=((hfr []).put 41 (.agg #[I (shV x c z).1,I (shV x c z).2]) rfl).put 42 (I 0) rfl
      refine round_okE (σ:=Nat) (F1:=fun b14=>[(11,.pointer (some ⟨b11,0,none⟩)),(13,.pointer (some ⟨b13,0,none⟩)),(14,.pointer (some ⟨b14,0,none⟩)),(15,I 0)]) (l1:=fun b14=>(.blk b14 (.cells #[I (shV x c z).1,I (shV x c z).2] 46 (0,0))) :: sM L Dk _ b3' b4' b5' b13 c aa va ac vc nd x a c' (shL x c k)) (l2:=fun b14=>(.blk b14 (.cells #[I (shV x c z).1,I (shV x c z).2] 46 (0,0))) :: sM L Dk _ b3' b4' b5' b13 c aa va ac vc nd x a c' (shL x c k)) h2 hf9 (by simp [Act.put]) (by rfl) (fun _=>.tail _ (.head _)) ?_ (fun b14=>?_)
      · refine c_seq<|c_reg<|s_alloc fun b14=>s_sta (b:=b14) (vs:=#[I (shV x c z).1,I (shV x c z).2]) (cs:=#[I 0,I 0]) (h1:=by intro u hu; simp at hu; rcases hu with rfl | rfl <;> rfl) (hl:=rfl) (hs1:=rfl) ?_
        refine s_nil<|q_then<|c_reg<|s_y y_as<|s_nil<|?_
        exact q_joinE b14 ⟨rfl,rfl,rfl,rfl,trivial⟩ (.refl _)
      · refine c_block<|c_seq<|c_reg<|s_y y_mv<|s_pure (fun w3 h3=>try_ok w3)<|s_nil<|q_then<|c_reg<|s_y (y_ld (b:=b13) (v:=.slice a (shL x c k).length c'))<|s_y (y_lda (b:=b14) (cs:=#[I (shV x c z).1,I (shV x c z).2]) (hl:=rfl))<|s_bslr (cs:=[I (shV x c z).1,I (shV x c z).2]) fun b47=>s_app (m:=1) (fun w' hw=>Src.slice (rdR (.head _) w' hw) rfl) (h1:=fun v hv=>by simp at hv; rcases hv with rfl | rfl <;> rfl) (hm:=.tail _ (.tail _ (.tail _ (.tail _ (.head _))))) (hrep:=fun _ _=>.tail _ (.tail _ (.tail _ (.tail _ (.head _))))) fun a48 c48 h48=>?_
        rw [show shc (shL x c k) ++ [I (shV x c z).1,I (shV x c z).2] = shc (shL x c (k + 1)) by rw [shL_succ hz,shc_append]; rfl,show (shL x c k).length + 1 = (shL x c (k + 1)).length by rw [shL_succ hz,List.length_append]; rfl]
        refine s_st (b:=b13) (v:=.slice a48 (shL x c (k + 1)).length c48) (cs:=#[.slice a (shL x c k).length c']) (hl:=Nat.zero_lt_one) ?_
        exact s_nil<|q_nb<|q_rn (.tail _ (.tail _ (.head _))) fun w3 h3=>⟨(a48,c48),trivial,rfl,h3.sub (.cons _ (.cons _ (.refl _)))⟩
    · exact absurd (hall k z hk9 hz) hne
end Go.Proofs.YtojohglifijnnaaGreatDoor
end
section
namespace Rst
open Go Eng Gf Sha Sig Wr Cod Cha Go.Proofs.YtojohglifijnnaaGreatDoor
theorem sh8_nat {p:Nat} {d:UInt8} (hp:p < 36028797018963968):sh8 (p:Int) d = ((p * 256 + d.toNat:Nat):Int):=orV_byte hp
theorem div_step (A i:Nat) (h:i < 8):A / 2 ^ (8 * (8 - i)) * 256 + (UInt8.ofNat (A / 2 ^ (8 * (7 - i)))).toNat = A / 2 ^ (8 * (8 - (i + 1))):=by
  have e:8 * (8 - i) = 8 * (7 - i) + 8:=by omega
  rw [e,Nat.pow_add,← Nat.div_div_eq_div_mul,UInt8.toNat_ofNat',show 8 * (8 - (i + 1)) = 8 * (7 - i) by omega]
  omega
theorem div_lt {A i:Nat} (hA:A < 9223372036854775808) (h:i < 8):A / 2 ^ (8 * (8 - i)) < 36028797018963968:=by
  have h1:A / 2 ^ (8 * (8 - i)) ≤ A / 2 ^ 8:=Nat.div_le_div_left (Nat.pow_le_pow_right (by decide) (by omega)) (by decide)
  have h2:(2:Nat) ^ 8 = 256:=rfl
  omega
theorem nb_lo {b:List UInt8} {A:Nat} (hA:A < 9223372036854775808) (hb:∀ i,i < 8 → b.getD i 0 = UInt8.ofNat (A / 2 ^ (8 * (7 - i)))):∀ i,i ≤ 8 → nb b i = (((A / 2 ^ (8 * (8 - i)):Nat):Int),0)
  | 0,_=>by
    rw [nb,show A / 2 ^ (8 * (8 - 0)) = 0 from Nat.div_eq_of_lt (Nat.lt_of_lt_of_le hA (by decide))]; rfl
  | i + 1,h=>by
    rw [nb,if_pos (by omega),nb_lo hA hb i (by omega),hb i (by omega),sh8_nat (div_lt hA (by omega)),div_step A i (by omega)]
theorem nb_hi {b:List UInt8} {A Y:Nat} (hA:A < 9223372036854775808) (hY:Y < 9223372036854775808) (hb:∀ i,i < 8 → b.getD i 0 = UInt8.ofNat (A / 2 ^ (8 * (7 - i)))) (hb2:∀ i,i < 8 → b.getD (8 + i) 0 = UInt8.ofNat (Y / 2 ^ (8 * (7 - i)))):∀ i,i ≤ 8 → nb b (8 + i) = ((A:Int),((Y / 2 ^ (8 * (8 - i)):Nat):Int))
  | 0,_=>by
    rw [Nat.add_zero,nb_lo hA hb 8 (Nat.le_refl _),show Y / 2 ^ (8 * (8 - 0)) = 0 from Nat.div_eq_of_lt (Nat.lt_of_lt_of_le hY (by decide))]
    simp
  | i + 1,h=>by
    rw [show 8 + (i + 1) = (8 + i) + 1 by omega,nb,if_neg (by omega),nb_hi hA hY hb hb2 i (by omega),hb2 i (by omega),sh8_nat (div_lt hY (by omega)),div_step Y i (by omega)]
theorem nb_bdy {A Y:Nat} (hA:A < 9223372036854775808) (hY:Y < 9223372036854775808):nb (bdy A Y) 16 = ((A:Int),(Y:Int)):=by
  have h:=nb_hi (b:=bdy A Y) hA hY (fun i hi=>by
      unfold bdy
      rw [List.getD_eq_getElem?_getD,List.getElem?_append_left (by rw [be_length]; omega),← List.getD_eq_getElem?_getD,be_get A 8 i hi]) (fun i hi=>by
      unfold bdy
      rw [List.getD_eq_getElem?_getD,List.getElem?_append_right (by rw [be_length]; omega),be_length,Nat.add_sub_cancel_left,← List.getD_eq_getElem?_getD,be_get Y 8 i hi]) 8 (Nat.le_refl _)
  simpa using h
theorem uw_good (x:Nat) (s h b:List UInt8) (hb:b.length ≤ 65536):uwE x h (wU s:Nat) (wB (pp 4 x) s h b) = 0 ∧ uwL x h (wU s:Nat) (wB (pp 4 x) s h b) = b:=by
  obtain ⟨h1,h2⟩:=w_open x s h hb
  have h3:wchk (wU s:Nat) (wB (pp 4 x) s h b).length = 0:=wchk_ok s (by rw [wB_length]; omega) (by rw [wB_length]; omega)
  have e:uwE x h (wU s:Nat) (wB (pp 4 x) s h b) = 0:=by unfold uwE; rw [if_pos h3,Int.toNat_natCast,if_pos h1]
  exact ⟨e,by unfold uwL; rw [if_pos e,Int.toNat_natCast]; exact h2⟩
def GdAp (x:Nat) (c:Cs) (A Y:Nat) (a:Ap):Prop:=∃ s,a.u = (wU s:Nat) ∧ a.q = wB (pp 4 x) s (msg c 0 a.g) (bdy A Y)
theorem gd_sh {x:Nat} {c:Cs} {A Y:Nat} {a:Ap} (h:GdAp x c A Y a) (hA:A < 9223372036854775808) (hY:Y < 9223372036854775808):shE x c a = 0 ∧ shV x c a = ((A:Int),(Y:Int)):=by
  obtain ⟨s,hu,hq⟩:=h
  obtain ⟨e1,e2⟩:=uw_good x s (msg c 0 a.g) (bdy A Y) (by rw [bdy_length]; decide)
  unfold shE shV
  rw [hu,hq,e1,e2,if_pos rfl,bdy_length,if_pos rfl]
  exact ⟨rfl,nb_bdy hA hY⟩
def insR (x:Int × Int):List (Int × Int) → List (Int × Int)
  | []=>[x]
  | y :: ys=>if x.1 < y.1 then y :: insR x ys else x :: y :: ys
theorem insR_perm (x:Int × Int):∀ l,(insR x l).Perm (x :: l)
  | []=>.refl _
  | y :: ys=>by
    unfold insR
    split
    · exact ((insR_perm x ys).cons y).trans (.swap _ _ _)
    · exact .refl _
theorem insR_sorted {x:Int × Int}:∀ {l:List (Int × Int)},l.Pairwise (fun a b=>b.1 ≤ a.1) → (insR x l).Pairwise (fun a b=>b.1 ≤ a.1)
  | [],_=>by simp [insR]
  | y :: ys,h=>by
    obtain ⟨h1,h2⟩:=List.pairwise_cons.1 h
    unfold insR
    split
    · refine List.pairwise_cons.2 ⟨fun z hz=>?_,insR_sorted h2⟩
      rcases List.mem_cons.1 ((insR_perm x ys).mem_iff.1 hz) with rfl | hz
      · omega
      · exact h1 z hz
    · refine List.pairwise_cons.2 ⟨fun z hz=>?_,h⟩
      rcases List.mem_cons.1 hz with rfl | hz
      · omega
      · have:=h1 z hz; omega
theorem bub_ins (x:Int × Int) (r:List (Int × Int)):∀ pr:List (Int × Int),bub (pr.reverse ++ x :: r) pr.length = (insR x pr).reverse ++ r
  | []=>by simp [bub,insR]
  | y :: ys=>by
    have hl:ys.reverse.length = ys.length:=List.length_reverse
    have e:(y :: ys).reverse ++ x :: r = ys.reverse ++ y :: x :: r:=by simp
    have hx:(ys.reverse ++ y :: x :: r)[ys.length + 1]? = some x:=by
      rw [List.getElem?_append_right (by omega),hl,Nat.add_sub_cancel_left]; rfl
    have hy:(ys.reverse ++ y :: x :: r)[ys.length]? = some y:=by
      rw [List.getElem?_append_right (by omega),hl,Nat.sub_self]; rfl
    rw [e,List.length_cons]
    by_cases h:x.1 < y.1
    · rw [bub_lt hx hy h,List.set_append_right _ _ (by omega),List.set_append_right _ _ (by omega),hl,Nat.add_sub_cancel_left,Nat.sub_self]
      show bub (ys.reverse ++ x :: y :: r) ys.length = _
      rw [bub_ins x (y :: r) ys,insR,if_pos h]
      simp
    · rw [bub_ge hx hy h,insR,if_neg h]
      simp
theorem srtN_spec (l:List (Int × Int)):∀ k,k < l.length → ∃ pr:List (Int × Int),srtN l k = pr.reverse ++ l.drop (k + 1) ∧ pr.length = k + 1 ∧ pr.Pairwise (fun a b=>b.1 ≤ a.1) ∧ pr.Perm (l.take (k + 1))
  | 0,h=>by
    obtain ⟨x,r,rfl⟩:∃ x r,l = x :: r:=by cases l with
      | nil=>cases h
      | cons x r=>exact ⟨x,r,rfl⟩
    exact ⟨[x],rfl,rfl,by simp,by simp⟩
  | k + 1,h=>by
    obtain ⟨pr,h1,h2,h3,h4⟩:=srtN_spec l k (by omega)
    have e:l.drop (k + 1) = l[k + 1] :: l.drop (k + 1 + 1):=List.drop_eq_getElem_cons h
    refine ⟨insR l[k + 1] pr,?_,?_,insR_sorted h3,?_⟩
    · have h9:=bub_ins l[k + 1] (l.drop (k + 1 + 1)) pr
      rw [h2] at h9
      rw [srtN,h1,e,h9]
    · rw [(insR_perm _ _).length_eq,List.length_cons,h2]
    · refine (insR_perm _ _).trans ?_
      rw [List.take_add_one (i:=k + 1),List.getElem?_eq_getElem h]
      exact ((h4.cons _).trans (List.perm_append_singleton _ _).symm)
theorem isort_spec {l:List (Int × Int)} (h:l ≠ []):(isort l).Perm l ∧ (isort l).Pairwise (fun a b=>a.1 ≤ b.1):=by
  have hl:0 < l.length:=List.length_pos_iff.2 h
  obtain ⟨pr,h1,h2,h3,h4⟩:=srtN_spec l (l.length - 1) (by omega)
  rw [show l.length - 1 + 1 = l.length by omega,List.drop_length,List.append_nil] at h1
  rw [show l.length - 1 + 1 = l.length by omega,List.take_length] at h4
  unfold isort
  rw [h1]
  exact ⟨(List.reverse_perm _).trans h4,List.pairwise_reverse.2 h3⟩
theorem okS_of:∀ {q:List (Int × Int)} {last:Int},(∀ s ∈ q,last < s.1 ∧ s.1 ≤ 64 ∧ sc s.2 = true) → q.Pairwise (fun a b=>a.1 < b.1) → okS last q = true
  | [],_,_,_=>rfl
  | s :: q,last,h,hp=>by
    obtain ⟨h1,h2⟩:=List.pairwise_cons.1 hp
    obtain ⟨a1,a2,a3⟩:=h s (.head _)
    rw [okS,decide_eq_true a1,decide_eq_true a2,a3,okS_of (last:=s.1) (fun t ht=>⟨h1 t ht,(h t (.tail _ ht)).2⟩) h2]
    rfl
theorem asc_len:∀ {q:List (Int × Int)} {last:Int},last ≤ 64 → (∀ s ∈ q,last < s.1 ∧ s.1 ≤ 64) → q.Pairwise (fun a b=>a.1 < b.1) → (q.length:Int) ≤ 64 - last
  | [],last,h,_,_=>by simp; omega
  | s :: q,last,_,h,hp=>by
    obtain ⟨h1,h2⟩:=List.pairwise_cons.1 hp
    obtain ⟨a1,a2⟩:=h s (.head _)
    have:=asc_len (q:=q) (last:=s.1) a2 (fun t ht=>⟨h1 t ht,(h t (.tail _ ht)).2⟩) h2
    rw [List.length_cons]; omega
theorem sc_natR {n:Nat} (h:n < 2305843009213688669):sc (n:Int) = true:=scI.2 ⟨by omega,by omega⟩
theorem jn_good {cs:List Nat} {q:List (Int × Int)} {m:Nat} (hm:m ≤ 64) (hc:1 ≤ cs.length) (hcq:cs.length ≤ q.length) (hq:∀ s ∈ q,∃ i,i < m ∧ s = (((i + 1:Nat):Int),((hor cs (i + 1):Nat):Int))) (hnd:(q.map Prod.fst).Nodup) (hh:∀ y,hor cs y < 2305843009213688669) :
    chS (isort q) = 0 ∧ jnV (isort q) = ((hor cs 0:Nat):Int):=by
  have hne:q ≠ []:=by
    rintro rfl
    have h9:cs.length ≤ 0:=hcq
    omega
  obtain ⟨hp,hs⟩:=isort_spec hne
  have hnd2:((isort q).map Prod.fst).Nodup:=(hp.map Prod.fst).nodup_iff.2 hnd
  have hlt:(isort q).Pairwise fun a b=>a.1 < b.1:=by
    have h3:(isort q).Pairwise fun a b=>a.1 ≠ b.1:=List.pairwise_map.1 hnd2
    exact (hs.and h3).imp fun h=>by have:=h.1; have:=h.2; omega
  have hok:okS 0 (isort q) = true:=okS_of (fun s hs=>by
    obtain ⟨i,hi,rfl⟩:=hq s (hp.mem_iff.1 hs)
    exact ⟨by show (0:Int) < ((i + 1:Nat):Int); omega,by show ((i + 1:Nat):Int) ≤ 64; omega,sc_natR (hh _)⟩) hlt
  have hlen:(isort q).length = q.length:=isort_length q
  have hql:=asc_len (q:=isort q) (last:=0) (by decide) (fun s hs=>by
    obtain ⟨i,hi,rfl⟩:=hq s (hp.mem_iff.1 hs)
    exact ⟨by show (0:Int) < ((i + 1:Nat):Int); omega,by show ((i + 1:Nat):Int) ≤ 64; omega⟩) hlt
  have hch:chS (isort q) = 0:=by unfold chS; rw [if_pos ⟨by omega,by omega,hok⟩]
  obtain ⟨e1,hv⟩:=chS_vld hch
  refine ⟨hch,?_⟩
  rw [jnV,if_pos hch]
  congr 1
  refine valQ_hor hv cs (by rw [toN_length,hlen]; exact hcq) (fun s hs=>?_) 0
  unfold toN at hs
  obtain ⟨t,ht,rfl⟩:=List.mem_map.1 hs
  obtain ⟨i,hi,rfl⟩:=hq t (hp.mem_iff.1 ht)
  show ((hor cs (i + 1):Nat):Int).toNat = hor cs (((i + 1:Nat):Int).toNat)
  rw [Int.toNat_natCast,Int.toNat_natCast]
end Rst
end
section
namespace Rst
open Go Eng Gf Sha Sig Wr Cod Cha Go.Proofs.YtojohglifijnnaaGreatDoor
/-- Finish succeeds -/
structure FinOk (p:Pn) (c:Cs) (now ver:Int) (x:Nat):Prop where
  st:stE p c now = 0
  x0:1 ≤ x
  x1:x < 2305843009213688669
  lf:((pp 4 x:Nat):Int) = c.l
  sh:∀ k z,k < p.need.toNat → c.ap[k]? = some z → shE x c z = 0
  ch:chS (isort (shL x c p.need.toNat)) = 0
  r0:(jnV (isort (shL x c p.need.toNat))).toNat ≠ 0
  rk:((pp 4 (jnV (isort (shL x c p.need.toNat))).toNat:Nat):Int) = p.rk
  cr:CrRt c.d c.v c.l ver
noncomputable def certV (c:Cs) (ver:Int) (r:Nat):Array Value:=#[I 3,I c.d,I c.v,I c.l,I ver,I (-1),I (sgR r (cmsg [3,c.d,c.v,c.l,ver,-1]):Nat),I (sgS r (cmsg [3,c.d,c.v,c.l,ver,-1]):Nat)]
/-- what Finish reads -/
structure FinW (w:World) (p:Pn) (c:Cs) (ga aa va:Option Addr) (gc ac vc:Nat):Prop where
  rg:Rd w ga (is p.gs)
  ra:Rd w aa (apc c.ap)
  rv:Rd w va (vtc c.vt)
  gl:p.gs.length ≤ 1000000
  al:c.ap.length ≤ 1000000
  vl:c.vt.length ≤ 1000000
  ac':c.ap.length ≤ ac
  r5:R5 c
  cp:∀ z ∈ c.ap,z.q.length ≤ z.c
  ok:ApOk w c.ap
  g:LC w
theorem FinW.st {W w:World} {p:Pn} {c:Cs} {ga aa va:Option Addr} {gc ac vc:Nat} {ps:SH} (h:FinW W p c ga aa va gc ac vc) (hs:St W [] w ps):FinW w p c ga aa va gc ac vc :=
  ⟨h.rg.st hs,h.ra.st hs,h.rv.st hs,h.gl,h.al,h.vl,h.ac',h.r5,h.cp,h.ok.st hs,h.g.st hs⟩
theorem FinW.ql {w:World} {p:Pn} {c:Cs} {ga aa va:Option Addr} {gc ac vc:Nat} (h:FinW w p c ga aa va gc ac vc):∀ z ∈ c.ap,z.q.length ≤ 100000:=fun z hz=>(h.ok z hz).2
theorem FinW.rd {w:World} {p:Pn} {c:Cs} {ga aa va:Option Addr} {gc ac vc:Nat} (h:FinW w p c ga aa va gc ac vc):ApRd c aa w:=⟨h.g,h.ra,h.ok⟩
theorem jn_lt {q:List (Int × Int)} (h:chS q = 0):(jnV q).toNat < 2305843009213688669 ∧ jnV q = ((jnV q).toNat:Int):=by
  have e:jnV q = ((valQ (toN q) 0:Nat):Int):=by unfold jnV; rw [if_pos h]
  rw [e,Int.toNat_natCast]
  exact ⟨accQ_lt' _ _,rfl⟩
theorem least_fail {P:Nat → Prop}:∀ n,(∃ k,k < n ∧ ¬ P k) → ∃ m,m < n ∧ ¬ P m ∧ ∀ k,k < m → P k
  | 0,h=>by obtain ⟨k,hk,_⟩:=h; omega
  | n + 1,h=>by
    by_cases h1:∃ k,k < n ∧ ¬ P k
    · obtain ⟨m,h2,h3⟩:=least_fail n h1
      exact ⟨m,by omega,h3⟩
    · obtain ⟨k,hk,hp⟩:=h
      have e:k = n:=Classical.byContradiction fun h9=>h1 ⟨k,by omega,hp⟩
      subst e
      exact ⟨k,hk,hp,fun j hj=>Classical.byContradiction fun h9=>h1 ⟨j,hj,h9⟩⟩
theorem ApOk.nil' (w:World):ApOk w []:=fun _ h=>by cases h
theorem ApOk.snoc {w:World} {l:List Ap} {x:Ap} (h:ApOk w l) (hr:Rd w x.a (bs x.q)) (hl:x.q.length ≤ 100000):ApOk w (l ++ [x]):=fun y hy=>by
  rcases List.mem_append.1 hy with hy | hy
  · exact h y hy
  · rw [List.mem_singleton] at hy; subst hy; exact ⟨hr,hl⟩
theorem cap_snoc {l:List Ap} {x:Ap} (h:∀ z ∈ l,z.q.length ≤ z.c) (hx:x.q.length ≤ x.c):∀ z ∈ l ++ [x],z.q.length ≤ z.c:=fun y hy=>by
  rcases List.mem_append.1 hy with hy | hy
  · exact h y hy
  · rw [List.mem_singleton] at hy; subst hy; exact hx
theorem good_fin {p:Pn} {c:Cs} {now ver:Int} {x r:Nat} {cs:List Nat} (hst:stE p c now = 0) (hx0:1 ≤ x) (hx:x < 2305843009213688669) (hlf:((pp 4 x:Nat):Int) = c.l)
    (hg:∀ z ∈ c.ap,∃ i,i < p.gs.length ∧ p.gs[i]? = some z.g ∧ GdAp x c (i + 1) (hor cs (i + 1)) z) (hcs:cs.length = p.need.toNat) (hr:hor cs 0 = r) (hr0:1 ≤ r) (hrk:((pp 4 r:Nat):Int) = p.rk) (hver:1 ≤ ver ∧ ver ≤ 1048576) :
    FinOk p c now ver x ∧ (jnV (isort (shL x c p.need.toNat))).toNat = r:=by
  obtain ⟨hp,hb,_,_,hn⟩:=stE_inv hst
  have hgl:=hp.gl
  have hnd:=hp.need
  have hid:=hp.id
  have hfd:=hb.fd
  have hsv:∀ z ∈ c.ap,∃ i,i < p.gs.length ∧ p.gs[i]? = some z.g ∧ shE x c z = 0 ∧ shV x c z = (((i + 1:Nat):Int),((hor cs (i + 1):Nat):Int)):=fun z hz=>by
    obtain ⟨i,h1,h2,h3⟩:=hg z hz
    obtain ⟨h4,h5⟩:=gd_sh h3 (by omega) (Nat.lt_trans (hor_lt _ _) (by decide))
    exact ⟨i,h1,h2,h4,h5⟩
  have hlen:(shL x c p.need.toNat).length = p.need.toNat:=shL_length (by omega)
  have hq:∀ s ∈ shL x c p.need.toNat,∃ i,i < p.gs.length ∧ s = (((i + 1:Nat):Int),((hor cs (i + 1):Nat):Int)):=fun s hs=>by
    obtain ⟨z,hz,rfl⟩:=List.mem_map.1 hs
    obtain ⟨i,h1,_,_,h4⟩:=hsv z (List.mem_of_mem_take hz)
    exact ⟨i,h1,h4⟩
  have hdn:((shL x c p.need.toNat).map Prod.fst).Nodup:=by
    unfold shL
    rw [List.map_map]
    have h1:(c.ap.take p.need.toNat).Pairwise fun a b=>a.g ≠ b.g:=(List.pairwise_map.1 hb.fa).sublist (List.take_sublist _ _)
    refine List.pairwise_map.2 (h1.imp_of_mem fun {a b} ha hb' hab=>?_)
    obtain ⟨i,_,h3,_,h5⟩:=hsv a (List.mem_of_mem_take ha)
    obtain ⟨j,_,h3',_,h5'⟩:=hsv b (List.mem_of_mem_take hb')
    show (shV x c a).1 ≠ (shV x c b).1
    rw [h5,h5']
    intro e
    have e2:i = j:=by have:((i + 1:Nat):Int) = ((j + 1:Nat):Int):=e; omega
    subst e2
    exact hab (Option.some.inj (h3.symm.trans h3'))
  obtain ⟨h1,h2⟩:=jn_good (m:=p.gs.length) (by omega) (by omega) (by rw [hlen,hcs]; exact Nat.le_refl _) hq hdn (hor_lt cs)
  have h3:(jnV (isort (shL x c p.need.toNat))).toNat = r:=by rw [h2,Int.toNat_natCast,hr]
  refine ⟨⟨hst,hx0,hx,hlf,fun k z _ hz=>?_,h1,by omega,by rw [h3]; exact hrk,⟨by omega,hver,hb.fv,hb.fl⟩⟩,h3⟩
  obtain ⟨_,_,_,h4,_⟩:=hsv z (List.mem_of_getElem? hz)
  exact h4
end Rst
namespace Go.Proofs.YtojohglifijnnaaGreatDoor
open Go Eng Gf Sha Sig Wr Cod Cha Rst
set_option maxRecDepth 100000
set_option linter.all false
variable (w:World) (p:Pn) (c:Cs) (now ver:Int) (ga aa va:Option Addr) (gc ac vc:Nat) (h:FinW w p c ga aa va gc ac vc)
include h
theorem Finish_yes (x:Nat) (hf:FinOk p c now ver x):Pure Tryz.prog 29 [.agg #[I p.id,I p.rk,.slice ga p.gs.length gc,I p.need,I p.cool],.agg #[I c.p,I c.d,I c.v,I c.l,I c.st,.slice aa c.ap.length ac,.slice va c.vt.length vc],I now,I ver,I x] w (.tuple #[.agg (certV c ver (jnV (isort (shL x c p.need.toNat))).toNat),I 0]):=by
  have hp:=(stE_inv hf.st).1
  have hnd:=hp.need
  have hgl:=hp.gl
  obtain ⟨hr1,hr2⟩:=jn_lt hf.ch
  exact Finish_y w p c now ver ga aa va gc ac vc h.rg h.ra h.rv h.gl h.al h.vl hf.st x hf.x0 hf.x1 hf.lf h.ac' h.r5 h.cp h.ql h.rd p.need.toNat (by omega) (by omega) hf.sh _ hr1 hf.ch hr2 hf.r0 hf.rk hf.cr
end Go.Proofs.YtojohglifijnnaaGreatDoor
end
section
namespace Rst
open Go Eng Gf Sha Sig Wr Cod Cha Go.Proofs.YtojohglifijnnaaGreatDoor
def apd (c:Cs) (z:Ap):Cs:=⟨c.p,c.d,c.v,c.l,c.st,c.ap ++ [z],c.vt⟩
def vtd (c:Cs) (z:Vt):Cs:=⟨c.p,c.d,c.v,c.l,c.st,c.ap,c.vt ++ [z]⟩
def zC:Cs:=⟨0,0,0,0,0,[],[]⟩
theorem blg_apd {p:Pn} {c:Cs} {z:Ap} (h:Blg p c) (h1:z.g ∈ p.gs) (h2:¬ z.g ∈ c.ap.map Ap.g):Blg p (apd c z) where
  fp:=h.fp
  fd:=h.fd
  fv:=h.fv
  fl:=h.fl
  fs:=h.fs
  fa:=by
    show ((c.ap ++ [z]).map Ap.g).Nodup
    rw [List.map_append,List.nodup_append]
    exact ⟨h.fa,by simp,fun a ha b hb=>by rw [List.map_singleton,List.mem_singleton] at hb; subst hb; exact fun e=>h2 (e ▸ ha)⟩
  ft:=h.ft
  fg:=fun a ha=>by
    rcases List.mem_append.1 ha with ha | ha
    · exact h.fg a ha
    · rw [List.mem_singleton] at ha; subst ha; exact h1
theorem blg_vtd {p:Pn} {c:Cs} {z:Vt} (h:Blg p c) (h2:¬ z.d ∈ c.vt.map Vt.d):Blg p (vtd c z) where
  fp:=h.fp
  fd:=h.fd
  fv:=h.fv
  fl:=h.fl
  fs:=h.fs
  fa:=h.fa
  ft:=by
    show ((c.vt ++ [z]).map Vt.d).Nodup
    rw [List.map_append,List.nodup_append]
    exact ⟨h.ft,by simp,fun a ha b hb=>by rw [List.map_singleton,List.mem_singleton] at hb; subst hb; exact fun e=>h2 (e ▸ ha)⟩
  fg:=h.fg
theorem gIx_at {l:List Int} (hn:l.Nodup) {i:Nat} {g:Int} (h:l[i]? = some g):gIx g l = (i:Int):=by
  obtain ⟨hi,rfl⟩:=List.getElem?_eq_some_iff.1 h
  refine fidx_hit (d:=0) hi (fun j hj=>decide_eq_false ?_) (decide_eq_true ?_)
  · rw [List.getD_eq_getElem?_getD,List.getElem?_eq_getElem (by omega)]
    exact List.pairwise_iff_getElem.1 hn j i (by omega) hi hj
  · rw [List.getD_eq_getElem?_getD,List.getElem?_eq_getElem hi]; rfl
theorem chk_pub (x:Nat):chk ((pp 4 x:Nat):Int) = 0:=chk_0.2 (El.four.pow x).el
theorem chk_four:chk 4 = 0:=chk_0.2 El.four.el
theorem chk_r64 {v:Int} (h:chk v = 0):R64 v:=by
  obtain ⟨x,rfl,hx⟩:=Wr.el_El (chk_0.1 h)
  have:=Gf.El.l63 hx
  unfold R64; omega
theorem blg_r5 {p:Pn} {c:Cs} (hp:Prs p) (h:Blg p c):R5 c:=by
  have h1:=hp.id
  have h2:=h.fp
  have h3:=h.fd
  have h4:=h.fs
  exact ⟨by unfold R64; omega,by unfold R64; omega,chk_r64 h.fv,chk_r64 h.fl,by unfold R64; omega⟩
theorem apRt_of {p:Pn} {c:Cs} {cs:List Nat} {i:Nat} {g:Int} (hp:Prs p) (hb:Blg p c) (hi:p.gs[i]? = some g) (hn:¬ g ∈ c.ap.map Ap.g):ApRt p c g ((i + 1:Nat):Int) ((hor cs (i + 1):Nat):Int):=by
  have e:=gIx_at hp.nd hi
  exact ⟨hb,by omega,hn,by omega,by have:=hor_lt cs (i + 1); omega⟩
theorem gd_nap {x xs A Y:Nat} {c c':Cs} {g:Int} {k:List UInt8} {ba:Option Addr} {bc:Nat} (hm:msg c' 0 g = msg c 0 g) (hl:c'.l = (pp 4 x:Nat)):GdAp x c A Y (nAp c' g k A Y xs ba bc) :=
  ⟨k,rfl,by show wB c'.l.toNat k (msg c' 0 g) (bdy A Y) = _; rw [hl,Int.toNat_natCast,hm]; rfl⟩
theorem spl_at {cs:List Nat} {m i:Nat} (h:i < m):(sN (spl cs m))[i]? = some (((i + 1:Nat):Int),((hor cs (i + 1):Nat):Int)):=by
  unfold sN spl
  rw [List.getElem?_map,List.getElem?_map,List.getElem?_range h]; rfl
theorem toN_sN (l:List (Nat × Nat)):toN (sN l) = l:=by
  unfold toN sN
  rw [List.map_map]
  conv=>rhs; rw [← List.map_id l]
  exact List.map_congr_left fun s _=>rfl
theorem join_spl {cs:List Nat} {m:Nat} (h1:1 ≤ m) (h2:m ≤ 64) (h3:cs.length ≤ m):chS (sN (spl cs m)) = 0 ∧ jnV (sN (spl cs m)) = ((hor cs 0:Nat):Int):=by
  have hv:=spl_vld cs h1 h2
  have hl:(sN (spl cs m)).length = m:=by rw [sN_length,spl_length]
  have hch:chS (sN (spl cs m)) = 0:=by
    unfold chS
    refine if_pos ⟨by omega,by omega,okS_of (fun s hs=>?_) ?_⟩
    · obtain ⟨t,ht,rfl⟩:=List.mem_map.1 hs
      obtain ⟨a1,a2,a3⟩:=hv.at' t ht
      exact ⟨by show (0:Int) < (t.1:Int); omega,by show (t.1:Int) ≤ 64; omega,sc_natR a3⟩
    · exact List.pairwise_map.2 (hv.up.imp fun h=>by show ((_:Nat):Int) < _; omega)
  refine ⟨hch,?_⟩
  rw [jnV,if_pos hch,toN_sN]
  congr 1
  refine valQ_hor hv cs (by rw [spl_length]; exact h3) (fun s hs=>?_) 0
  unfold spl at hs
  obtain ⟨i,_,rfl⟩:=List.mem_map.1 hs
  rfl
theorem dir_one {z:Ls} (h:LsRt z):DirOk [z]:=fun k x hx=>by
  have hk:k = 0:=by have:=(List.getElem?_eq_some_iff.1 hx).1; simp at this; omega
  subst hk
  obtain rfl:z = x:=Option.some.inj hx
  refine ⟨h,?_⟩
  have:=h.d
  rw [lsL,if_pos rfl]; omega
def k9:List UInt8:=9 :: List.replicate 31 0
def k1:List UInt8:=1 :: List.replicate 31 0
def k2:List UInt8:=2 :: List.replicate 31 0
theorem k9_l:k9.length = 32:=rfl
theorem k1_l:k1.length = 32:=rfl
theorem k2_l:k2.length = 32:=rfl
noncomputable def sR:Nat:=dscal k9 lbRec
noncomputable def sP:Pn:=stP 3 [5,6] 2 4 k9
noncomputable def sC:Cs:=opC sP 25 4 (pp 4 77:Nat) 10
noncomputable def sco:List Nat:=cof (expand k9 lbShs []) (dscal k9 lbRec) 1
theorem sR_b:1 ≤ sR ∧ sR < 2305843009213688669:=scal_lt _ _
theorem hor_cof (k:List UInt8) {x:Nat} (n:Nat) (h:x < 2305843009213688669):hor (cof k x n) 0 = x:=hor_zero x _ h
theorem sco_0:hor sco 0 = sR:=hor_cof _ _ sR_b.2
theorem sP_ok:Prs sP where
  id:=show (0:Int) ≤ 3 ∧ (3:Int) ≤ 63 by decide
  rk:=chk_pub _
  gl:=show (1:Int) ≤ 2 ∧ (2:Int) ≤ 16 by decide
  need:=show (1:Int) ≤ 2 ∧ (2:Int) ≤ 2 by decide
  cool:=show (1:Int) ≤ 4 ∧ (4:Int) ≤ 1048576 by decide
  nd:=show [(5:Int),6].Nodup by decide
  gs:=show ∀ g ∈ [(5:Int),6],g ≠ 3 ∧ 0 ≤ g ∧ g ≤ 63 by decide
theorem sP_no:¬ Prs (stP 3 [3] 1 1 k9):=fun h=>(h.gs 3 (.head _)).1 rfl
theorem pz_no:¬ Prs ⟨0,0,[],0,0⟩:=fun h=>absurd h.gl.1 (by decide)
theorem sC_ok:Blg sP sC where
  fp:=rfl
  fd:=show (3:Int) * 8 ≤ 25 ∧ (25:Int) ≤ 3 * 8 + 8 - 1 by decide
  fv:=chk_four
  fl:=chk_pub _
  fs:=show (1:Int) ≤ 10 ∧ (10:Int) ≤ 65536 by decide
  fa:=List.nodup_nil
  ft:=List.nodup_nil
  fg:=fun _ h=>by cases h
section
variable (b1 b2:Option Addr) (c1 c2:Nat)
noncomputable def sA1:Ap:=nAp sC 5 k1 (0 + 1) (hor sco (0 + 1)) 55 b1 c1
noncomputable def sC1:Cs:=apd sC (sA1 b1 c1)
noncomputable def sA2:Ap:=nAp (sC1 b1 c1) 6 k2 (1 + 1) (hor sco (1 + 1)) 55 b2 c2
noncomputable def sC2:Cs:=apd (sC1 b1 c1) (sA2 b1 b2 c1 c2)
theorem sA1_rt:ApRt sP sC 5 ((0 + 1:Nat):Int) ((hor sco (0 + 1):Nat):Int):=apRt_of sP_ok sC_ok rfl (fun h=>by cases h)
theorem sC1_ok:Blg sP (sC1 b1 c1):=blg_apd sC_ok (.head _) (fun h=>by cases h)
theorem sA2_n:¬ (6:Int) ∈ (sC1 b1 c1).ap.map Ap.g:=show ¬ (6:Int) ∈ [5] by decide
theorem sA2_rt:ApRt sP (sC1 b1 c1) 6 ((1 + 1:Nat):Int) ((hor sco (1 + 1):Nat):Int):=apRt_of sP_ok (sC1_ok b1 c1) rfl (sA2_n b1 c1)
theorem sC2_ok:Blg sP (sC2 b1 b2 c1 c2):=blg_apd (sC1_ok b1 c1) (.tail _ (.head _)) (sA2_n b1 c1)
theorem sC2_st {now:Int} (h:14 ≤ now):stE sP (sC2 b1 b2 c1 c2) now = 0:=stE_0 sP_ok (sC2_ok b1 b2 c1 c2) (by show ¬ (false = true); simp) (by show ¬ now < (10:Int) + 4; omega) (by show ¬ (2:Int) < 2; decide)
theorem sC2_early:stE sP (sC2 b1 b2 c1 c2) 13 = 391:=stE_391 sP_ok (sC2_ok b1 b2 c1 c2) (by show ¬ (false = true); simp) (by show (13:Int) < (10:Int) + 4; decide)
theorem sC_early:stE sP sC 10 = 391:=stE_391 sP_ok sC_ok (by show ¬ (false = true); simp) (by show (10:Int) < (10:Int) + 4; decide)
theorem zC_st (now:Int):stE sP zC now = 390:=stE_390 sP_ok (fun h=>absurd h.fp (by show ¬ (0:Int) = 3; decide))
theorem sC2_fin:FinOk sP (sC2 b1 b2 c1 c2) 14 1 77 ∧ (jnV (isort (shL 77 (sC2 b1 b2 c1 c2) sP.need.toNat))).toNat = sR:=by
  refine good_fin (cs:=sco) (sC2_st b1 b2 c1 c2 (by decide)) (by decide) (by decide) rfl (fun z hz=>?_) rfl (hor_cof _ _ sR_b.2) sR_b.1 rfl (by decide)
  rcases List.mem_append.1 hz with hz | hz
  · rcases List.mem_append.1 hz with hz | hz
    · cases hz
    · rw [List.mem_singleton] at hz; subst hz
      exact ⟨0,by show 0 < 2; decide,rfl,gd_nap rfl rfl⟩
  · rw [List.mem_singleton] at hz; subst hz
    exact ⟨1,by show 1 < 2; decide,rfl,gd_nap rfl rfl⟩
theorem sC2_ob:ObR2 (sC2 b1 b2 c1 c2) 26 13:=⟨by show (26:Int) / 8 = 3; decide,by show (26:Int) ≠ 25; decide,(fun h=>by cases h),by show (10:Int) ≤ 13 ∧ (13:Int) ≤ 65536; decide⟩
theorem sC2_no:¬ ObR2 (sC2 b1 b2 c1 c2) 40 13:=fun h=>absurd h.q (by show ¬ (40:Int) / 8 = 3; decide)
noncomputable def sC3:Cs:=vtd (sC2 b1 b2 c1 c2) (nVt (sC2 b1 b2 c1 c2) 26 13 55)
theorem sC3_st (now:Int):stE sP (sC3 b1 b2 c1 c2) now = 392:=stE_392 sP_ok (blg_vtd (sC2_ok b1 b2 c1 c2) (fun h=>by cases h)) (by
  show (decide ((10:Int) ≤ 13 ∧ (13:Int) ≤ 10 + 4 - 1) || false) = true
  decide)
end
theorem ls26 (d:Int) (h:0 ≤ d ∧ d < 512):DirOk [⟨d,(pp 4 55:Nat),4,1,false⟩]:=dir_one ⟨h,chk_pub _,chk_four,by show (1:Int) ≤ 1 ∧ (1:Int) ≤ 1048576; decide⟩
attribute [irreducible] sR
end Rst
namespace Go.Proofs.YtojohglifijnnaaGreatDoor
open Go Eng Gf Rst
theorem l_secret_ok (w:World) (a:Option Addr) (c:Nat) (l:List (Int × Int)) (hr:Rd w a (shc l)) (hl:l.length < 1000000000000000000):Pure Tryz.prog 28 [.slice a l.length c] w (I (jnV l)):=by
  refine enter Tryz.func28 Tryz.ntmps28 ?_
  refine c_seq<|c_reg<|s_y y_as<|s_nil<|q_then<|c_seq<|c_reg<|s_y y_mv<|s_pure (fun w' hw=>r8_Join_ok w' a c l (hr.st hw) hl)<|s_y y_mv<|s_y y_ext<|s_y y_ext<|s_y y_as<|s_y y_as<|s_nil<|q_then<|c_seq<|c_reg<|s_y y_mv<|s_y y_as<|s_nil<|q_then<|c_ret<|?_
  exact ret1 Tryz.results28 rv_t fun w' hw=>⟨rfl,hw⟩
end Go.Proofs.YtojohglifijnnaaGreatDoor
end
section
namespace Eng
open Go
theorem Pure.gives0 {P:Program} {k:FuncId} {args:List Value} {w:World} {v:Value} (h:Pure P k args w v):Gives P k args w [] (fun _:Unit=>v) (fun _=>[]) (fun _=>True):=h.mono fun _ _ ⟨h1,h2⟩=>⟨(),trivial,h1,h2⟩
end Eng
namespace Go.Proofs.YtojohglifijnnaaGreatDoor
open Go Eng Gf Sha Sig Wr Cod Cha Rst
set_option maxRecDepth 100000
set_option linter.all false
theorem law_sane_ok (w:World) (hg:LC w):Pure Tryz.prog 9 [] w (.bool true):=by
  refine enter Tryz.func9 Tryz.ntmps9 ?_
  refine c_seq<|c_reg<|s_y y_as<|s_nil<|q_then<|c_seq<|c_reg<|s_y (y_blda (cs:=bs k9) (hf:=by kernel_rfl))<|s_alloc fun b1=>s_sta (b:=b1) (vs:=(bs k9).toArray) (cs:=(bs (List.replicate 32 0)).toArray) (h1:=fun v hv=>bs_one (by simpa using hv)) (hl:=((hz32 k9_l)).trans ((hz32 List.length_replicate)).symm) (hs1:=(hz32 k9_l)) ?_
  refine s_nil<|q_then<|c_seq<|c_reg<|s_bslr (cs:=[I 5,I 6]) fun b32=>s_y (y_lda (b:=b1) (cs:=(bs k9).toArray) (hl:=(hz32 k9_l)))<|s_gives (fun w' hw=>Setup_yes w' 3 4 1 [5,6] k9 (some ⟨b32,0,none⟩) 2 (hg.st hw).1 k9_l (rdR (.head _) w' hw) (show 2 ≤ 1000000 by decide) sP_ok) fun (x34:(Option Addr × Nat) × (Option Addr × Nat)) _=>?_
  refine s_row (fun hkg34 _=>?_) (hm:=.tail _ (.head _))
  refine s_y y_mv<|s_y y_ext<|s_y y_ext<|s_y y_ext<|s_alloc fun b2=>s_sta (b:=b2) (vs:=#[I 3,I (pp 4 (dscal k9 lbRec):Nat),.slice x34.1.1 2 x34.1.2,I 2,I 4]) (cs:=#[I 0,I 0,.slice none 0 0,I 0,I 0]) (h1:=one_allA rfl) (hl:=rfl) (hs1:=rfl) ?_
  refine s_y y_as<|s_y y_as<|s_nil<|q_then<|c_seq<|c_reg<|s_bslr (cs:=[I 3]) fun b39=>s_y (y_lda (b:=b1) (cs:=(bs k9).toArray) (hl:=(hz32 k9_l)))<|s_gives (fun w' hw=>Pure.gives0 (Setup_no w' 3 1 1 [3] k9 (some ⟨b39,0,none⟩) 1 (hg.st hw).1 k9_l (rdR (.head _) w' hw) (show 1 ≤ 1000000 by decide) sP_no)) fun (x41:Unit) _=>s_y y_mv<|s_y y_ext<|s_y y_ext<|s_y y_ext<|s_alloc fun b5=>s_sta (b:=b5) (vs:=#[I 0,I 0,.slice none 0 0,I 0,I 0]) (cs:=#[I 0,I 0,.slice none 0 0,I 0,I 0]) (h1:=one_allA rfl) (hl:=rfl) (hs1:=rfl) ?_
  refine s_y y_as<|s_y y_as<|s_nil<|q_then<|c_seq<|c_reg<|s_y (y_bper (cs:=[I 0,I 0,.slice none 0 0,I 0,I 0]))<|s_pure (fun w' hw=>Open_n1 w' (⟨0,0,[],0,0⟩:Pn) none 0 (Rd.nil _ _) (by decide) 24 4 16 1 pz_no)<|s_y y_mv<|s_y y_ext<|s_y y_ext<|s_alloc fun b8=>s_sta (b:=b8) (vs:=#[I 0,I 0,I 0,I 0,I 0,.slice none 0 0,.slice none 0 0]) (cs:=#[I 0,I 0,I 0,I 0,I 0,.slice none 0 0,.slice none 0 0]) (h1:=one_allA rfl) (hl:=rfl) (hs1:=rfl) ?_
  refine s_y y_as<|s_nil<|q_then<|c_seq<|c_reg<|s_pure (fun w' hw=>sPublic_yes w' 77 (by decide) (by decide))<|s_y y_mv<|s_y y_ext<|s_y y_ext<|s_y y_as<|s_y y_as<|s_nil<|q_then<|c_seq<|c_reg<|s_pure (fun w' hw=>sPublic_yes w' 55 (by decide) (by decide))<|s_y y_mv<|s_y y_ext<|s_y y_ext<|s_y y_as<|s_y y_as<|s_nil<|q_then<|c_seq<|c_seq<|c_reg<|s_y y_mv<|s_nf (y_neq (p:=0) (q:=0)) (by omega)<|s_y y_mv<|s_y y_mv<|s_nf (y_neq (p:=371) (q:=371)) (by omega)<|s_y y_pk<|s_y y_mv<|s_y y_mv<|s_nf (y_neq (p:=371) (q:=371)) (by omega)<|s_y y_pk<|s_y y_mv<|s_y y_mv<|s_nf (y_neq (p:=0) (q:=0)) (by omega)<|s_y y_pk<|s_y y_mv<|s_y y_mv<|s_nf (y_neq (p:=0) (q:=0)) (by omega)<|s_y y_pk<|s_y y_mv<|s_y y_mv<|s_y y_len<|s_nf (y_neq (p:=2) (q:=2)) (by omega)<|s_y y_pk<|s_nil<|q_then<|c_f<|c_skip<|q_then<|c_seq<|c_reg<|s_y (y_lda (b:=b2) (cs:=#[I 3,I (pp 4 (dscal k9 lbRec):Nat),.slice x34.1.1 2 x34.1.2,I 2,I 4]) (hl:=rfl))<|s_y y_mv<|s_pure (fun w' hw=>Open_y w' sP x34.1.1 x34.1.2 (rdR (.tail _ (.tail _ (.tail _ (.tail _ (.tail _ (.head _)))))) w' hw) (Nat.le_trans (show 2 ≤ 1000000 by decide) (by decide)) 25 4 (pp 4 77:Nat) 10 sP_ok sC_ok)<|s_y y_mv<|s_y y_ext<|s_y y_ext<|s_alloc fun b14=>s_sta (b:=b14) (vs:=#[I 3,I 25,I 4,I (pp 4 77:Nat),I 10,.slice none 0 0,.slice none 0 0]) (cs:=#[I 0,I 0,I 0,I 0,I 0,.slice none 0 0,.slice none 0 0]) (h1:=one_allA rfl) (hl:=rfl) (hs1:=rfl) ?_
  refine s_y y_as<|s_nil<|q_then<|c_seq<|c_regL [.blk b14 (.cells #[I 3,I 25,I 4,I (pp 4 77:Nat),I 10,.slice none 0 0,.slice none 0 0] 30 (0,0)),.blk b8 (.cells #[I 0,I 0,I 0,I 0,I 0,.slice none 0 0,.slice none 0 0] 30 (0,0)),.blk b5 (.cells #[I 0,I 0,.slice none 0 0,I 0,I 0] 26 (0,0)),.row (some ⟨b39,0,none⟩) 1 3 1 1 [I 3],.blk b2 (.cells #[I 3,I (pp 4 (dscal k9 lbRec):Nat),.slice x34.1.1 2 x34.1.2,I 2,I 4] 26 (0,0)),.row x34.2.1 x34.2.2 46 2 2 (shc (sN (spl sco 2))),.row x34.1.1 x34.1.2 3 1 2 (is [5,6]),.row (some ⟨b32,0,none⟩) 2 3 1 2 [I 5,I 6],.blk b1 (.cells (bs k9).toArray 24 (0,0))]<|r_y 0 rfl (y_lda (b:=b2) (cs:=#[I 3,I (pp 4 (dscal k9 lbRec):Nat),.slice x34.1.1 2 x34.1.2,I 2,I 4]) (hl:=rfl))<|r_y 1 rfl (y_lda (b:=b14) (cs:=#[I 3,I 25,I 4,I (pp 4 77:Nat),I 10,.slice none 0 0,.slice none 0 0]) (hl:=rfl))<|r_y 2 rfl y_mv<|r_y 3 rfl (y_ixs (xs:=shc (sN (spl sco 2))) (i:=((0:Nat):Int)) (hr:=(rdR (.tail _ (.tail _ (.tail _ (.tail _ (.tail _ (.head _)))))))) (hl:=by rw [shc_length,sN_length,spl_length]; decide) (h1:=by decide))<|r_y 4 rfl (y_ldra (i:=(0) * 2) (cs:=[I (0 + 1:Nat),I (hor sco (0 + 1):Nat)]) (rdR (.tail _ (.tail _ (.tail _ (.tail _ (.tail _ (.head _))))))) rfl (fun j v h=>shc_atA (spl_at (i:=0) (by decide)) h))<|r_y 5 rfl y_mv<|r_y 6 rfl (y_blda (cs:=bs k1) (hf:=by kernel_rfl))<|r_w2 7 11 rfl rfl ?_ ?_ (hsub:=by repeat (first | exact List.nil_sublist _ | exact List.Sublist.refl _ | apply List.Sublist.cons_cons | apply List.Sublist.cons))
  · refine s_gives (fun w' hw=>Approve_y w' sP sC x34.1.1 none none x34.1.2 0 0 5 (pp 4 55:Nat) k1 (0 + 1) (hor sco (0 + 1)) 55 (hg.st hw) k1_l (rdR (.tail _ (.tail _ (.tail _ (.tail _ (.tail _ (.tail _ (.head _))))))) w' hw) (show 2 ≤ 1000000 by decide) (Rd.nil _ _) (Nat.le_refl _) (Rd.nil _ _) (show 0 ≤ 1000000 by decide) (show 0 ≤ 1000000 by decide) (blg_r5 sP_ok sC_ok) (by unfold R64; omega) sP_ok sA1_rt (by decide) (by decide) rfl) fun (x95:AX) _=>?_
    refine s_row (fun hka95 _=>s_row (fun hkb95 _=>?_) (hm:=.tail _ (.head _))) (hm:=.head _)
    refine r_K<|r_y 8 rfl y_mv<|r_y 9 rfl y_ext<|r_y 10 rfl y_ext<|r_W 11 rfl<|s_alloc fun b16=>r_K<|r_W 12 rfl<|s_sta (b:=b16) (vs:=#[I 3,I 25,I 4,I (pp 4 77:Nat),I 10,.slice x95.aa 1 x95.ac,.slice none 0 0]) (cs:=#[I 0,I 0,I 0,I 0,I 0,.slice none 0 0,.slice none 0 0]) (h1:=one_allA rfl) (hl:=rfl) (hs1:=rfl) ?_
    refine r_K<|r_y 13 rfl y_as<|r_E<|q_then<|c_seq<|c_regL [.blk b16 (.cells #[I 3,I 25,I 4,I (pp 4 77:Nat),I 10,.slice x95.aa 1 x95.ac,.slice none 0 0] 30 (0,0)),.row x95.aa x95.ac 74 5 (sC.ap.length + 1) (apc (sC.ap ++ [nAp sC 5 k1 (0 + 1) (hor sco (0 + 1)) 55 x95.ba x95.bc])),.row x95.ba x95.bc 5 1 ((wtx sC 5 k1 (0 + 1) (hor sco (0 + 1))).length) (bs (wtx sC 5 k1 (0 + 1) (hor sco (0 + 1)))),.blk b14 (.cells #[I 3,I 25,I 4,I (pp 4 77:Nat),I 10,.slice none 0 0,.slice none 0 0] 30 (0,0)),.blk b8 (.cells #[I 0,I 0,I 0,I 0,I 0,.slice none 0 0,.slice none 0 0] 30 (0,0)),.blk b5 (.cells #[I 0,I 0,.slice none 0 0,I 0,I 0] 26 (0,0)),.row (some ⟨b39,0,none⟩) 1 3 1 1 [I 3],.blk b2 (.cells #[I 3,I (pp 4 (dscal k9 lbRec):Nat),.slice x34.1.1 2 x34.1.2,I 2,I 4] 26 (0,0)),.row x34.2.1 x34.2.2 46 2 2 (shc (sN (spl sco 2))),.row x34.1.1 x34.1.2 3 1 2 (is [5,6]),.row (some ⟨b32,0,none⟩) 2 3 1 2 [I 5,I 6],.blk b1 (.cells (bs k9).toArray 24 (0,0))]<|r_y 0 rfl (y_lda (b:=b2) (cs:=#[I 3,I (pp 4 (dscal k9 lbRec):Nat),.slice x34.1.1 2 x34.1.2,I 2,I 4]) (hl:=rfl))<|r_y 1 rfl (y_lda (b:=b16) (cs:=#[I 3,I 25,I 4,I (pp 4 77:Nat),I 10,.slice x95.aa 1 x95.ac,.slice none 0 0]) (hl:=rfl))<|r_y 2 rfl y_mv<|r_y 3 rfl (y_ixs (xs:=shc (sN (spl sco 2))) (i:=((1:Nat):Int)) (hr:=(rdR (.tail _ (.tail _ (.tail _ (.tail _ (.tail _ (.tail _ (.tail _ (.tail _ (.head _))))))))))) (hl:=by rw [shc_length,sN_length,spl_length]; decide) (h1:=by decide))<|r_y 4 rfl (y_ldra (i:=(1) * 2) (cs:=[I (1 + 1:Nat),I (hor sco (1 + 1):Nat)]) (rdR (.tail _ (.tail _ (.tail _ (.tail _ (.tail _ (.tail _ (.tail _ (.tail _ (.head _)))))))))) rfl (fun j v h=>shc_atA (spl_at (i:=1) (by decide)) h))<|r_y 5 rfl y_mv<|r_y 6 rfl (y_blda (cs:=bs k2) (hf:=by kernel_rfl))<|r_w2 7 11 rfl rfl ?_ ?_ (hsub:=by repeat (first | exact List.nil_sublist _ | exact List.Sublist.refl _ | apply List.Sublist.cons_cons | apply List.Sublist.cons))
    · refine s_gives (fun w' hw=>Approve_y w' sP (sC1 x95.ba x95.bc) x34.1.1 x95.aa none x34.1.2 x95.ac 0 6 (pp 4 55:Nat) k2 (1 + 1) (hor sco (1 + 1)) 55 (hg.st hw) k2_l (rdR (.tail _ (.tail _ (.tail _ (.tail _ (.tail _ (.tail _ (.tail _ (.tail _ (.tail _ (.head _)))))))))) w' hw) (show 2 ≤ 1000000 by decide) (rdR (.tail _ (.head _)) w' hw) hka95 (Rd.nil _ _) (show 1 ≤ 1000000 by decide) (show 0 ≤ 1000000 by decide) (blg_r5 sP_ok (sC1_ok x95.ba x95.bc)) (by unfold R64; omega) sP_ok (sA2_rt x95.ba x95.bc) (by decide) (by decide) rfl) fun (x106:AX) _=>?_
      refine s_row (fun hka106 _=>s_row (fun hkb106 _=>?_) (hm:=.tail _ (.head _))) (hm:=.head _)
      refine r_K<|r_y 8 rfl y_mv<|r_y 9 rfl y_ext<|r_y 10 rfl y_ext<|r_W 11 rfl<|s_alloc fun b18=>r_K<|r_W 12 rfl<|s_sta (b:=b18) (vs:=#[I 3,I 25,I 4,I (pp 4 77:Nat),I 10,.slice x106.aa 2 x106.ac,.slice none 0 0]) (cs:=#[I 0,I 0,I 0,I 0,I 0,.slice none 0 0,.slice none 0 0]) (h1:=one_allA rfl) (hl:=rfl) (hs1:=rfl) ?_
      refine r_K<|r_y 13 rfl y_as<|r_E<|q_then<|c_seq<|c_reg<|s_y (y_lda (b:=b2) (cs:=#[I 3,I (pp 4 (dscal k9 lbRec):Nat),.slice x34.1.1 2 x34.1.2,I 2,I 4]) (hl:=rfl))<|s_y (y_lda (b:=b18) (cs:=#[I 3,I 25,I 4,I (pp 4 77:Nat),I 10,.slice x106.aa 2 x106.ac,.slice none 0 0]) (hl:=rfl))<|s_pure (fun w' hw=>(by have h9:=Finish_yes w' sP (sC2 x95.ba x106.ba x95.bc x106.bc) 14 1 x34.1.1 x106.aa none x34.1.2 x106.ac 0 ⟨(rdR (.tail _ (.tail _ (.tail _ (.tail _ (.tail _ (.tail _ (.tail _ (.tail _ (.tail _ (.tail _ (.tail _ (.tail _ (.head _))))))))))))) w' hw),(rdR (.tail _ (.head _)) w' hw),(Rd.nil _ _),(show 2 ≤ 1000000 by decide),(show 2 ≤ 1000000 by decide),(show 0 ≤ 1000000 by decide),hka106,(blg_r5 sP_ok (sC2_ok x95.ba x106.ba x95.bc x106.bc)),(cap_snoc (cap_snoc (fun _ h=>by cases h) hkb95) hkb106),(ApOk.snoc (ApOk.snoc (ApOk.nil' w') (rdR (.tail _ (.tail _ (.tail _ (.tail _ (.tail _ (.head _)))))) w' hw) (Nat.le_trans (Nat.le_of_eq (wtx_length _ _ _ _ _)) (by decide))) (rdR (.tail _ (.tail _ (.head _))) w' hw) (Nat.le_trans (Nat.le_of_eq (wtx_length _ _ _ _ _)) (by decide))),(hg.st hw)⟩ 77 (sC2_fin x95.ba x106.ba x95.bc x106.bc).1; rw [(sC2_fin x95.ba x106.ba x95.bc x106.bc).2] at h9; exact h9))<|s_y y_mv<|s_y y_ext<|s_y y_ext<|s_alloc fun b20=>s_sta (b:=b20) (vs:=#[I 3,I (((sC2 x95.ba x106.ba x95.bc x106.bc)).d),I (((sC2 x95.ba x106.ba x95.bc x106.bc)).v),I (((sC2 x95.ba x106.ba x95.bc x106.bc)).l),I 1,I (-1),I (sgR sR (cmsg [3,((sC2 x95.ba x106.ba x95.bc x106.bc)).d,((sC2 x95.ba x106.ba x95.bc x106.bc)).v,((sC2 x95.ba x106.ba x95.bc x106.bc)).l,1,-1]):Nat),I (sgS sR (cmsg [3,((sC2 x95.ba x106.ba x95.bc x106.bc)).d,((sC2 x95.ba x106.ba x95.bc x106.bc)).v,((sC2 x95.ba x106.ba x95.bc x106.bc)).l,1,-1]):Nat)]) (cs:=#[I 0,I 0,I 0,I 0,I 0,I 0,I 0,I 0]) (h1:=by intro u hu; simp at hu; rcases hu with rfl | rfl | rfl | rfl | rfl | rfl | rfl | rfl <;> rfl) (hl:=(show (8:Nat) = 8 from rfl)) (hs1:=rfl) ?_
      refine s_y y_as<|s_nil<|q_then<|c_seq<|c_reg<|s_y y_mv<|s_y y_mv<|s_pure (fun w' hw=>(by have h9:=l_secret_ok w' x34.2.1 x34.2.2 (sN (spl sco 2)) (rdR (.tail _ (.tail _ (.tail _ (.tail _ (.tail _ (.tail _ (.tail _ (.tail _ (.tail _ (.tail _ (.tail _ (.tail _ (.head _))))))))))))) w' hw) (by rw [sN_length,spl_length]; decide); rw [(join_spl (cs:=sco) (m:=2) (by decide) (by decide) (by decide)).2,sco_0] at h9; exact h9))<|s_pure (fun w' hw=>Certify3_yes w' 25 4 (pp 4 77:Nat) 1 sR ⟨by decide,by decide,chk_four,chk_pub _⟩ (hg.st hw).1 sR_b.1 sR_b.2)<|s_y y_mv<|s_y y_ext<|s_y y_ext<|s_alloc fun b22=>s_sta (b:=b22) (vs:=#[I 3,I 25,I 4,I (pp 4 77:Nat),I 1,I (-1),I (sgR sR (cmsg [3,25,4,(pp 4 77:Nat),1,-1]):Nat),I (sgS sR (cmsg [3,25,4,(pp 4 77:Nat),1,-1]):Nat)]) (cs:=#[I 0,I 0,I 0,I 0,I 0,I 0,I 0,I 0]) (h1:=by intro u hu; simp at hu; rcases hu with rfl | rfl | rfl | rfl | rfl | rfl | rfl | rfl <;> rfl) (hl:=(show (8:Nat) = 8 from rfl)) (hs1:=rfl) ?_
      refine s_y y_as<|s_nil<|q_then<|c_seq<|c_reg<|s_y (y_lda (b:=b2) (cs:=#[I 3,I (pp 4 (dscal k9 lbRec):Nat),.slice x34.1.1 2 x34.1.2,I 2,I 4]) (hl:=rfl))<|s_y (y_lda (b:=b18) (cs:=#[I 3,I 25,I 4,I (pp 4 77:Nat),I 10,.slice x106.aa 2 x106.ac,.slice none 0 0]) (hl:=rfl))<|s_pure (fun w' hw=>(by have h9:=Finish_st w' sP (sC2 x95.ba x106.ba x95.bc x106.bc) 13 1 x34.1.1 x106.aa none x34.1.2 x106.ac 0 (rdR (.tail _ (.tail _ (.tail _ (.tail _ (.tail _ (.tail _ (.tail _ (.tail _ (.tail _ (.tail _ (.tail _ (.tail _ (.tail _ (.tail _ (.head _))))))))))))))) w' hw) (rdR (.tail _ (.tail _ (.tail _ (.head _)))) w' hw) (Rd.nil _ _) (show 2 ≤ 1000000 by decide) (show 2 ≤ 1000000 by decide) (show 0 ≤ 1000000 by decide) 77 (by rw [sC2_early]; decide); rw [sC2_early] at h9; exact h9))<|s_y y_mv<|s_y y_ext<|s_y y_ext<|s_alloc fun b24=>s_sta (b:=b24) (vs:=#[I 0,I 0,I 0,I 0,I 0,I 0,I 0,I 0]) (cs:=#[I 0,I 0,I 0,I 0,I 0,I 0,I 0,I 0]) (h1:=one_allA rfl) (hl:=(show (8:Nat) = 8 from rfl)) (hs1:=rfl) ?_
      refine s_y y_as<|s_nil<|q_then<|c_seq<|c_seq<|c_reg<|s_y y_mv<|s_nf (y_neq (p:=0) (q:=0)) (by omega)<|s_y y_mv<|s_y y_mv<|s_nf (y_neq (p:=0) (q:=0)) (by omega)<|s_y y_pk<|s_y y_mv<|s_y y_mv<|s_nf (y_neq (p:=0) (q:=0)) (by omega)<|s_y y_pk<|s_y y_mv<|s_y y_mv<|s_nf (y_neq (p:=0) (q:=0)) (by omega)<|s_y y_pk<|s_y y_mv<|s_y y_mv<|s_nf (y_neq (p:=0) (q:=0)) (by omega)<|s_y y_pk<|s_y y_mv<|s_y y_mv<|s_nf (y_neq (p:=391) (q:=391)) (by trivial)<|s_y y_pk<|s_y y_mv<|s_y (y_lda (b:=b20) (cs:=#[I 3,I (((sC2 x95.ba x106.ba x95.bc x106.bc)).d),I (((sC2 x95.ba x106.ba x95.bc x106.bc)).v),I (((sC2 x95.ba x106.ba x95.bc x106.bc)).l),I 1,I (-1),I (sgR sR (cmsg [3,((sC2 x95.ba x106.ba x95.bc x106.bc)).d,((sC2 x95.ba x106.ba x95.bc x106.bc)).v,((sC2 x95.ba x106.ba x95.bc x106.bc)).l,1,-1]):Nat),I (sgS sR (cmsg [3,((sC2 x95.ba x106.ba x95.bc x106.bc)).d,((sC2 x95.ba x106.ba x95.bc x106.bc)).v,((sC2 x95.ba x106.ba x95.bc x106.bc)).l,1,-1]):Nat)]) (hl:=rfl))<|s_y (y_lda (b:=b22) (cs:=#[I 3,I 25,I 4,I (pp 4 77:Nat),I 1,I (-1),I (sgR sR (cmsg [3,25,4,(pp 4 77:Nat),1,-1]):Nat),I (sgS sR (cmsg [3,25,4,(pp 4 77:Nat),1,-1]):Nat)]) (hl:=rfl))<|s_y y_neqCt<|s_y y_pk<|s_nil<|q_then<|c_f<|c_skip<|q_then<|c_seq<|c_reg<|s_y (y_lda (b:=b18) (cs:=#[I 3,I 25,I 4,I (pp 4 77:Nat),I 10,.slice x106.aa 2 x106.ac,.slice none 0 0]) (hl:=rfl))<|s_y y_mv<|s_y (y_blst (cs:=[I 26,I (pp 4 55:Nat),I 4,I 1,.bool false]))<|s_bslr (cs:=[I 26,I (pp 4 55:Nat),I 4,I 1,.bool false]) fun b159=>s_gives (fun w' hw=>Object_y w' (sC2 x95.ba x106.ba x95.bc x106.bc) x106.aa none (some ⟨b159,0,none⟩) x106.ac 0 1 [⟨26,(pp 4 55:Nat),4,1,false⟩] 26 13 55 (hg.st hw) (rdR (.head _) w' hw) (by decide) (Rd.nil _ _) (Nat.le_refl _) (show 0 ≤ 1000000 by decide) 0 _ _ _ (ls26 26 (by decide)) rfl (sC2_ob x95.ba x106.ba x95.bc x106.bc) (by decide) (by decide) rfl (blg_r5 sP_ok (sC2_ok x95.ba x106.ba x95.bc x106.bc)) (by unfold R64; omega) (by unfold R64; omega)) fun (x160:Option Addr × Nat) _=>?_
      refine s_row (fun hkv160 _=>?_) (hm:=.head _)
      refine s_y y_mv<|s_y y_ext<|s_y y_ext<|s_alloc fun b26=>s_sta (b:=b26) (vs:=#[I 3,I 25,I 4,I (pp 4 77:Nat),I 10,.slice x106.aa 2 x106.ac,.slice x160.1 1 x160.2]) (cs:=#[I 0,I 0,I 0,I 0,I 0,.slice none 0 0,.slice none 0 0]) (h1:=one_allA rfl) (hl:=rfl) (hs1:=rfl) ?_
      refine s_y y_as<|s_nil<|q_then<|c_seq<|c_reg<|s_y (y_lda (b:=b18) (cs:=#[I 3,I 25,I 4,I (pp 4 77:Nat),I 10,.slice x106.aa 2 x106.ac,.slice none 0 0]) (hl:=rfl))<|s_y y_mv<|s_y (y_blst (cs:=[I 40,I (pp 4 55:Nat),I 4,I 1,.bool false]))<|s_bslr (cs:=[I 40,I (pp 4 55:Nat),I 4,I 1,.bool false]) fun b167=>s_pure (fun w' hw=>Object_o2b w' (sC2 x95.ba x106.ba x95.bc x106.bc) x106.aa none (some ⟨b167,0,none⟩) x106.ac 0 1 [⟨40,(pp 4 55:Nat),4,1,false⟩] 40 13 55 (hg.st hw) (rdR (.head _) w' hw) (by decide) (Rd.nil _ _) (show 0 ≤ 1000000 by decide) 0 _ _ _ (ls26 40 (by decide)) rfl (sC2_no x95.ba x106.ba x95.bc x106.bc))<|s_y y_mv<|s_y y_ext<|s_y y_ext<|s_alloc fun b28=>s_sta (b:=b28) (vs:=#[I 0,I 0,I 0,I 0,I 0,.slice none 0 0,.slice none 0 0]) (cs:=#[I 0,I 0,I 0,I 0,I 0,.slice none 0 0,.slice none 0 0]) (h1:=one_allA rfl) (hl:=rfl) (hs1:=rfl) ?_
      refine s_y y_as<|s_nil<|q_then<|c_seq<|c_reg<|s_y y_mv<|s_kt (y_eql (p:=0) (q:=0)) (by omega)<|s_y y_mv<|s_y y_mv<|s_kt (y_eql (p:=390) (q:=390)) (by omega)<|s_y y_pk<|s_y y_mv<|s_y (y_lda (b:=b2) (cs:=#[I 3,I (pp 4 (dscal k9 lbRec):Nat),.slice x34.1.1 2 x34.1.2,I 2,I 4]) (hl:=rfl))<|s_y (y_lda (b:=b26) (cs:=#[I 3,I 25,I 4,I (pp 4 77:Nat),I 10,.slice x106.aa 2 x106.ac,.slice x160.1 1 x160.2]) (hl:=rfl))<|s_pure (fun w' hw=>(by have h9:=State_ok w' sP (sC3 x95.ba x106.ba x95.bc x106.bc) 99 x34.1.1 x106.aa x160.1 x34.1.2 x106.ac x160.2 (rdR (.tail _ (.tail _ (.tail _ (.tail _ (.tail _ (.tail _ (.tail _ (.tail _ (.tail _ (.tail _ (.tail _ (.tail _ (.tail _ (.tail _ (.tail _ (.tail _ (.tail _ (.tail _ (.tail _ (.tail _ (.head _))))))))))))))))))))) w' hw) (rdR (.tail _ (.tail _ (.tail _ (.tail _ (.tail _ (.tail _ (.tail _ (.tail _ (.tail _ (.head _)))))))))) w' hw) (rdR (.tail _ (.tail _ (.tail _ (.head _)))) w' hw) (show 2 ≤ 1000000 by decide) (show 2 ≤ 1000000 by decide) (show 1 ≤ 1000000 by decide); rw [sC3_st] at h9; exact h9))<|s_kt (y_eql (p:=392) (q:=392)) (by trivial)<|s_y y_pk<|s_y y_mv<|s_y (y_lda (b:=b2) (cs:=#[I 3,I (pp 4 (dscal k9 lbRec):Nat),.slice x34.1.1 2 x34.1.2,I 2,I 4]) (hl:=rfl))<|s_y (y_bcas (cs:=[I 0,I 0,I 0,I 0,I 0,.slice none 0 0,.slice none 0 0]))<|s_pure (fun w' hw=>(by have h9:=State_ok w' sP zC 1 x34.1.1 none none x34.1.2 0 0 (rdR (.tail _ (.tail _ (.tail _ (.tail _ (.tail _ (.tail _ (.tail _ (.tail _ (.tail _ (.tail _ (.tail _ (.tail _ (.tail _ (.tail _ (.tail _ (.tail _ (.tail _ (.tail _ (.tail _ (.tail _ (.head _))))))))))))))))))))) w' hw) (Rd.nil _ _) (Rd.nil _ _) (show 2 ≤ 1000000 by decide) (show 0 ≤ 1000000 by decide) (show 0 ≤ 1000000 by decide); rw [zC_st] at h9; exact h9))<|s_kt (y_eql (p:=390) (q:=390)) (by trivial)<|s_y y_pk<|s_y y_mv<|s_y (y_lda (b:=b2) (cs:=#[I 3,I (pp 4 (dscal k9 lbRec):Nat),.slice x34.1.1 2 x34.1.2,I 2,I 4]) (hl:=rfl))<|s_y (y_lda (b:=b14) (cs:=#[I 3,I 25,I 4,I (pp 4 77:Nat),I 10,.slice none 0 0,.slice none 0 0]) (hl:=rfl))<|s_pure (fun w' hw=>(by have h9:=State_ok w' sP sC 10 x34.1.1 none none x34.1.2 0 0 (rdR (.tail _ (.tail _ (.tail _ (.tail _ (.tail _ (.tail _ (.tail _ (.tail _ (.tail _ (.tail _ (.tail _ (.tail _ (.tail _ (.tail _ (.tail _ (.tail _ (.tail _ (.tail _ (.tail _ (.tail _ (.head _))))))))))))))))))))) w' hw) (Rd.nil _ _) (Rd.nil _ _) (show 2 ≤ 1000000 by decide) (show 0 ≤ 1000000 by decide) (show 0 ≤ 1000000 by decide); rw [sC_early] at h9; exact h9))<|s_kt (y_eql (p:=391) (q:=391)) (by trivial)<|s_y y_pk<|s_y y_as<|s_nil<|q_then<|c_ret<|?_
      exact ret1 Tryz.results9 rv_t fun w' hw=>⟨rfl,hw.sub (List.nil_sublist _)⟩
    · refine s_alloc fun b18=>r_K<|r_W 7 rfl<|s_gives (fun w' hw=>Approve_y w' sP (sC1 x95.ba x95.bc) x34.1.1 x95.aa none x34.1.2 x95.ac 0 6 (pp 4 55:Nat) k2 (1 + 1) (hor sco (1 + 1)) 55 (hg.st hw) k2_l (rdR (.tail _ (.tail _ (.tail _ (.tail _ (.tail _ (.tail _ (.tail _ (.tail _ (.tail _ (.tail _ (.head _))))))))))) w' hw) (show 2 ≤ 1000000 by decide) (rdR (.tail _ (.tail _ (.head _))) w' hw) hka95 (Rd.nil _ _) (show 1 ≤ 1000000 by decide) (show 0 ≤ 1000000 by decide) (blg_r5 sP_ok (sC1_ok x95.ba x95.bc)) (by unfold R64; omega) sP_ok (sA2_rt x95.ba x95.bc) (by decide) (by decide) rfl) fun (x106:AX) _=>?_
      refine s_row (fun hka106 _=>s_row (fun hkb106 _=>?_) (hm:=.tail _ (.head _))) (hm:=.head _)
      refine r_K<|r_y 8 rfl y_mv<|r_y 9 rfl y_ext<|r_y 10 rfl y_ext<|r_W 12 rfl<|s_sta (b:=b18) (vs:=#[I 3,I 25,I 4,I (pp 4 77:Nat),I 10,.slice x106.aa 2 x106.ac,.slice none 0 0]) (cs:=#[I 0,I 0,I 0,I 0,I 0,.slice none 0 0,.slice none 0 0]) (h1:=one_allA rfl) (hl:=rfl) (hs1:=rfl) ?_
      refine r_K<|r_y 13 rfl y_as<|r_E<|q_then<|c_seq<|c_reg<|s_y (y_lda (b:=b2) (cs:=#[I 3,I (pp 4 (dscal k9 lbRec):Nat),.slice x34.1.1 2 x34.1.2,I 2,I 4]) (hl:=rfl))<|s_y (y_lda (b:=b18) (cs:=#[I 3,I 25,I 4,I (pp 4 77:Nat),I 10,.slice x106.aa 2 x106.ac,.slice none 0 0]) (hl:=rfl))<|s_pure (fun w' hw=>(by have h9:=Finish_yes w' sP (sC2 x95.ba x106.ba x95.bc x106.bc) 14 1 x34.1.1 x106.aa none x34.1.2 x106.ac 0 ⟨(rdR (.tail _ (.tail _ (.tail _ (.tail _ (.tail _ (.tail _ (.tail _ (.tail _ (.tail _ (.tail _ (.tail _ (.tail _ (.head _))))))))))))) w' hw),(rdR (.head _) w' hw),(Rd.nil _ _),(show 2 ≤ 1000000 by decide),(show 2 ≤ 1000000 by decide),(show 0 ≤ 1000000 by decide),hka106,(blg_r5 sP_ok (sC2_ok x95.ba x106.ba x95.bc x106.bc)),(cap_snoc (cap_snoc (fun _ h=>by cases h) hkb95) hkb106),(ApOk.snoc (ApOk.snoc (ApOk.nil' w') (rdR (.tail _ (.tail _ (.tail _ (.tail _ (.tail _ (.head _)))))) w' hw) (Nat.le_trans (Nat.le_of_eq (wtx_length _ _ _ _ _)) (by decide))) (rdR (.tail _ (.head _)) w' hw) (Nat.le_trans (Nat.le_of_eq (wtx_length _ _ _ _ _)) (by decide))),(hg.st hw)⟩ 77 (sC2_fin x95.ba x106.ba x95.bc x106.bc).1; rw [(sC2_fin x95.ba x106.ba x95.bc x106.bc).2] at h9; exact h9))<|s_y y_mv<|s_y y_ext<|s_y y_ext<|s_alloc fun b20=>s_sta (b:=b20) (vs:=#[I 3,I (((sC2 x95.ba x106.ba x95.bc x106.bc)).d),I (((sC2 x95.ba x106.ba x95.bc x106.bc)).v),I (((sC2 x95.ba x106.ba x95.bc x106.bc)).l),I 1,I (-1),I (sgR sR (cmsg [3,((sC2 x95.ba x106.ba x95.bc x106.bc)).d,((sC2 x95.ba x106.ba x95.bc x106.bc)).v,((sC2 x95.ba x106.ba x95.bc x106.bc)).l,1,-1]):Nat),I (sgS sR (cmsg [3,((sC2 x95.ba x106.ba x95.bc x106.bc)).d,((sC2 x95.ba x106.ba x95.bc x106.bc)).v,((sC2 x95.ba x106.ba x95.bc x106.bc)).l,1,-1]):Nat)]) (cs:=#[I 0,I 0,I 0,I 0,I 0,I 0,I 0,I 0]) (h1:=by intro u hu; simp at hu; rcases hu with rfl | rfl | rfl | rfl | rfl | rfl | rfl | rfl <;> rfl) (hl:=(show (8:Nat) = 8 from rfl)) (hs1:=rfl) ?_
      refine s_y y_as<|s_nil<|q_then<|c_seq<|c_reg<|s_y y_mv<|s_y y_mv<|s_pure (fun w' hw=>(by have h9:=l_secret_ok w' x34.2.1 x34.2.2 (sN (spl sco 2)) (rdR (.tail _ (.tail _ (.tail _ (.tail _ (.tail _ (.tail _ (.tail _ (.tail _ (.tail _ (.tail _ (.tail _ (.tail _ (.head _))))))))))))) w' hw) (by rw [sN_length,spl_length]; decide); rw [(join_spl (cs:=sco) (m:=2) (by decide) (by decide) (by decide)).2,sco_0] at h9; exact h9))<|s_pure (fun w' hw=>Certify3_yes w' 25 4 (pp 4 77:Nat) 1 sR ⟨by decide,by decide,chk_four,chk_pub _⟩ (hg.st hw).1 sR_b.1 sR_b.2)<|s_y y_mv<|s_y y_ext<|s_y y_ext<|s_alloc fun b22=>s_sta (b:=b22) (vs:=#[I 3,I 25,I 4,I (pp 4 77:Nat),I 1,I (-1),I (sgR sR (cmsg [3,25,4,(pp 4 77:Nat),1,-1]):Nat),I (sgS sR (cmsg [3,25,4,(pp 4 77:Nat),1,-1]):Nat)]) (cs:=#[I 0,I 0,I 0,I 0,I 0,I 0,I 0,I 0]) (h1:=by intro u hu; simp at hu; rcases hu with rfl | rfl | rfl | rfl | rfl | rfl | rfl | rfl <;> rfl) (hl:=(show (8:Nat) = 8 from rfl)) (hs1:=rfl) ?_
      refine s_y y_as<|s_nil<|q_then<|c_seq<|c_reg<|s_y (y_lda (b:=b2) (cs:=#[I 3,I (pp 4 (dscal k9 lbRec):Nat),.slice x34.1.1 2 x34.1.2,I 2,I 4]) (hl:=rfl))<|s_y (y_lda (b:=b18) (cs:=#[I 3,I 25,I 4,I (pp 4 77:Nat),I 10,.slice x106.aa 2 x106.ac,.slice none 0 0]) (hl:=rfl))<|s_pure (fun w' hw=>(by have h9:=Finish_st w' sP (sC2 x95.ba x106.ba x95.bc x106.bc) 13 1 x34.1.1 x106.aa none x34.1.2 x106.ac 0 (rdR (.tail _ (.tail _ (.tail _ (.tail _ (.tail _ (.tail _ (.tail _ (.tail _ (.tail _ (.tail _ (.tail _ (.tail _ (.tail _ (.tail _ (.head _))))))))))))))) w' hw) (rdR (.tail _ (.tail _ (.head _))) w' hw) (Rd.nil _ _) (show 2 ≤ 1000000 by decide) (show 2 ≤ 1000000 by decide) (show 0 ≤ 1000000 by decide) 77 (by rw [sC2_early]; decide); rw [sC2_early] at h9; exact h9))<|s_y y_mv<|s_y y_ext<|s_y y_ext<|s_alloc fun b24=>s_sta (b:=b24) (vs:=#[I 0,I 0,I 0,I 0,I 0,I 0,I 0,I 0]) (cs:=#[I 0,I 0,I 0,I 0,I 0,I 0,I 0,I 0]) (h1:=one_allA rfl) (hl:=(show (8:Nat) = 8 from rfl)) (hs1:=rfl) ?_
      refine s_y y_as<|s_nil<|q_then<|c_seq<|c_seq<|c_reg<|s_y y_mv<|s_nf (y_neq (p:=0) (q:=0)) (by omega)<|s_y y_mv<|s_y y_mv<|s_nf (y_neq (p:=0) (q:=0)) (by omega)<|s_y y_pk<|s_y y_mv<|s_y y_mv<|s_nf (y_neq (p:=0) (q:=0)) (by omega)<|s_y y_pk<|s_y y_mv<|s_y y_mv<|s_nf (y_neq (p:=0) (q:=0)) (by omega)<|s_y y_pk<|s_y y_mv<|s_y y_mv<|s_nf (y_neq (p:=0) (q:=0)) (by omega)<|s_y y_pk<|s_y y_mv<|s_y y_mv<|s_nf (y_neq (p:=391) (q:=391)) (by trivial)<|s_y y_pk<|s_y y_mv<|s_y (y_lda (b:=b20) (cs:=#[I 3,I (((sC2 x95.ba x106.ba x95.bc x106.bc)).d),I (((sC2 x95.ba x106.ba x95.bc x106.bc)).v),I (((sC2 x95.ba x106.ba x95.bc x106.bc)).l),I 1,I (-1),I (sgR sR (cmsg [3,((sC2 x95.ba x106.ba x95.bc x106.bc)).d,((sC2 x95.ba x106.ba x95.bc x106.bc)).v,((sC2 x95.ba x106.ba x95.bc x106.bc)).l,1,-1]):Nat),I (sgS sR (cmsg [3,((sC2 x95.ba x106.ba x95.bc x106.bc)).d,((sC2 x95.ba x106.ba x95.bc x106.bc)).v,((sC2 x95.ba x106.ba x95.bc x106.bc)).l,1,-1]):Nat)]) (hl:=rfl))<|s_y (y_lda (b:=b22) (cs:=#[I 3,I 25,I 4,I (pp 4 77:Nat),I 1,I (-1),I (sgR sR (cmsg [3,25,4,(pp 4 77:Nat),1,-1]):Nat),I (sgS sR (cmsg [3,25,4,(pp 4 77:Nat),1,-1]):Nat)]) (hl:=rfl))<|s_y y_neqCt<|s_y y_pk<|s_nil<|q_then<|c_f<|c_skip<|q_then<|c_seq<|c_reg<|s_y (y_lda (b:=b18) (cs:=#[I 3,I 25,I 4,I (pp 4 77:Nat),I 10,.slice x106.aa 2 x106.ac,.slice none 0 0]) (hl:=rfl))<|s_y y_mv<|s_y (y_blst (cs:=[I 26,I (pp 4 55:Nat),I 4,I 1,.bool false]))<|s_bslr (cs:=[I 26,I (pp 4 55:Nat),I 4,I 1,.bool false]) fun b159=>s_gives (fun w' hw=>Object_y w' (sC2 x95.ba x106.ba x95.bc x106.bc) x106.aa none (some ⟨b159,0,none⟩) x106.ac 0 1 [⟨26,(pp 4 55:Nat),4,1,false⟩] 26 13 55 (hg.st hw) (rdR (.head _) w' hw) (by decide) (Rd.nil _ _) (Nat.le_refl _) (show 0 ≤ 1000000 by decide) 0 _ _ _ (ls26 26 (by decide)) rfl (sC2_ob x95.ba x106.ba x95.bc x106.bc) (by decide) (by decide) rfl (blg_r5 sP_ok (sC2_ok x95.ba x106.ba x95.bc x106.bc)) (by unfold R64; omega) (by unfold R64; omega)) fun (x160:Option Addr × Nat) _=>?_
      refine s_row (fun hkv160 _=>?_) (hm:=.head _)
      refine s_y y_mv<|s_y y_ext<|s_y y_ext<|s_alloc fun b26=>s_sta (b:=b26) (vs:=#[I 3,I 25,I 4,I (pp 4 77:Nat),I 10,.slice x106.aa 2 x106.ac,.slice x160.1 1 x160.2]) (cs:=#[I 0,I 0,I 0,I 0,I 0,.slice none 0 0,.slice none 0 0]) (h1:=one_allA rfl) (hl:=rfl) (hs1:=rfl) ?_
      refine s_y y_as<|s_nil<|q_then<|c_seq<|c_reg<|s_y (y_lda (b:=b18) (cs:=#[I 3,I 25,I 4,I (pp 4 77:Nat),I 10,.slice x106.aa 2 x106.ac,.slice none 0 0]) (hl:=rfl))<|s_y y_mv<|s_y (y_blst (cs:=[I 40,I (pp 4 55:Nat),I 4,I 1,.bool false]))<|s_bslr (cs:=[I 40,I (pp 4 55:Nat),I 4,I 1,.bool false]) fun b167=>s_pure (fun w' hw=>Object_o2b w' (sC2 x95.ba x106.ba x95.bc x106.bc) x106.aa none (some ⟨b167,0,none⟩) x106.ac 0 1 [⟨40,(pp 4 55:Nat),4,1,false⟩] 40 13 55 (hg.st hw) (rdR (.head _) w' hw) (by decide) (Rd.nil _ _) (show 0 ≤ 1000000 by decide) 0 _ _ _ (ls26 40 (by decide)) rfl (sC2_no x95.ba x106.ba x95.bc x106.bc))<|s_y y_mv<|s_y y_ext<|s_y y_ext<|s_alloc fun b28=>s_sta (b:=b28) (vs:=#[I 0,I 0,I 0,I 0,I 0,.slice none 0 0,.slice none 0 0]) (cs:=#[I 0,I 0,I 0,I 0,I 0,.slice none 0 0,.slice none 0 0]) (h1:=one_allA rfl) (hl:=rfl) (hs1:=rfl) ?_
      refine s_y y_as<|s_nil<|q_then<|c_seq<|c_reg<|s_y y_mv<|s_kt (y_eql (p:=0) (q:=0)) (by omega)<|s_y y_mv<|s_y y_mv<|s_kt (y_eql (p:=390) (q:=390)) (by omega)<|s_y y_pk<|s_y y_mv<|s_y (y_lda (b:=b2) (cs:=#[I 3,I (pp 4 (dscal k9 lbRec):Nat),.slice x34.1.1 2 x34.1.2,I 2,I 4]) (hl:=rfl))<|s_y (y_lda (b:=b26) (cs:=#[I 3,I 25,I 4,I (pp 4 77:Nat),I 10,.slice x106.aa 2 x106.ac,.slice x160.1 1 x160.2]) (hl:=rfl))<|s_pure (fun w' hw=>(by have h9:=State_ok w' sP (sC3 x95.ba x106.ba x95.bc x106.bc) 99 x34.1.1 x106.aa x160.1 x34.1.2 x106.ac x160.2 (rdR (.tail _ (.tail _ (.tail _ (.tail _ (.tail _ (.tail _ (.tail _ (.tail _ (.tail _ (.tail _ (.tail _ (.tail _ (.tail _ (.tail _ (.tail _ (.tail _ (.tail _ (.tail _ (.tail _ (.tail _ (.head _))))))))))))))))))))) w' hw) (rdR (.tail _ (.tail _ (.tail _ (.tail _ (.tail _ (.tail _ (.tail _ (.tail _ (.head _))))))))) w' hw) (rdR (.tail _ (.tail _ (.tail _ (.head _)))) w' hw) (show 2 ≤ 1000000 by decide) (show 2 ≤ 1000000 by decide) (show 1 ≤ 1000000 by decide); rw [sC3_st] at h9; exact h9))<|s_kt (y_eql (p:=392) (q:=392)) (by trivial)<|s_y y_pk<|s_y y_mv<|s_y (y_lda (b:=b2) (cs:=#[I 3,I (pp 4 (dscal k9 lbRec):Nat),.slice x34.1.1 2 x34.1.2,I 2,I 4]) (hl:=rfl))<|s_y (y_bcas (cs:=[I 0,I 0,I 0,I 0,I 0,.slice none 0 0,.slice none 0 0]))<|s_pure (fun w' hw=>(by have h9:=State_ok w' sP zC 1 x34.1.1 none none x34.1.2 0 0 (rdR (.tail _ (.tail _ (.tail _ (.tail _ (.tail _ (.tail _ (.tail _ (.tail _ (.tail _ (.tail _ (.tail _ (.tail _ (.tail _ (.tail _ (.tail _ (.tail _ (.tail _ (.tail _ (.tail _ (.tail _ (.head _))))))))))))))))))))) w' hw) (Rd.nil _ _) (Rd.nil _ _) (show 2 ≤ 1000000 by decide) (show 0 ≤ 1000000 by decide) (show 0 ≤ 1000000 by decide); rw [zC_st] at h9; exact h9))<|s_kt (y_eql (p:=390) (q:=390)) (by trivial)<|s_y y_pk<|s_y y_mv<|s_y (y_lda (b:=b2) (cs:=#[I 3,I (pp 4 (dscal k9 lbRec):Nat),.slice x34.1.1 2 x34.1.2,I 2,I 4]) (hl:=rfl))<|s_y (y_lda (b:=b14) (cs:=#[I 3,I 25,I 4,I (pp 4 77:Nat),I 10,.slice none 0 0,.slice none 0 0]) (hl:=rfl))<|s_pure (fun w' hw=>(by have h9:=State_ok w' sP sC 10 x34.1.1 none none x34.1.2 0 0 (rdR (.tail _ (.tail _ (.tail _ (.tail _ (.tail _ (.tail _ (.tail _ (.tail _ (.tail _ (.tail _ (.tail _ (.tail _ (.tail _ (.tail _ (.tail _ (.tail _ (.tail _ (.tail _ (.tail _ (.tail _ (.head _))))))))))))))))))))) w' hw) (Rd.nil _ _) (Rd.nil _ _) (show 2 ≤ 1000000 by decide) (show 0 ≤ 1000000 by decide) (show 0 ≤ 1000000 by decide); rw [sC_early] at h9; exact h9))<|s_kt (y_eql (p:=391) (q:=391)) (by trivial)<|s_y y_pk<|s_y y_as<|s_nil<|q_then<|c_ret<|?_
      exact ret1 Tryz.results9 rv_t fun w' hw=>⟨rfl,hw.sub (List.nil_sublist _)⟩
  · refine s_alloc fun b16=>r_K<|r_W 7 rfl<|s_gives (fun w' hw=>Approve_y w' sP sC x34.1.1 none none x34.1.2 0 0 5 (pp 4 55:Nat) k1 (0 + 1) (hor sco (0 + 1)) 55 (hg.st hw) k1_l (rdR (.tail _ (.tail _ (.tail _ (.tail _ (.tail _ (.tail _ (.tail _ (.head _)))))))) w' hw) (show 2 ≤ 1000000 by decide) (Rd.nil _ _) (Nat.le_refl _) (Rd.nil _ _) (show 0 ≤ 1000000 by decide) (show 0 ≤ 1000000 by decide) (blg_r5 sP_ok sC_ok) (by unfold R64; omega) sP_ok sA1_rt (by decide) (by decide) rfl) fun (x95:AX) _=>?_
    refine s_row (fun hka95 _=>s_row (fun hkb95 _=>?_) (hm:=.tail _ (.head _))) (hm:=.head _)
    refine r_K<|r_y 8 rfl y_mv<|r_y 9 rfl y_ext<|r_y 10 rfl y_ext<|r_W 12 rfl<|s_sta (b:=b16) (vs:=#[I 3,I 25,I 4,I (pp 4 77:Nat),I 10,.slice x95.aa 1 x95.ac,.slice none 0 0]) (cs:=#[I 0,I 0,I 0,I 0,I 0,.slice none 0 0,.slice none 0 0]) (h1:=one_allA rfl) (hl:=rfl) (hs1:=rfl) ?_
    refine r_K<|r_y 13 rfl y_as<|r_E<|q_then<|c_seq<|c_regL [.row x95.aa x95.ac 74 5 (sC.ap.length + 1) (apc (sC.ap ++ [nAp sC 5 k1 (0 + 1) (hor sco (0 + 1)) 55 x95.ba x95.bc])),.row x95.ba x95.bc 5 1 ((wtx sC 5 k1 (0 + 1) (hor sco (0 + 1))).length) (bs (wtx sC 5 k1 (0 + 1) (hor sco (0 + 1)))),.blk b16 (.cells #[I 3,I 25,I 4,I (pp 4 77:Nat),I 10,.slice x95.aa 1 x95.ac,.slice none 0 0] 30 (0,0)),.blk b14 (.cells #[I 3,I 25,I 4,I (pp 4 77:Nat),I 10,.slice none 0 0,.slice none 0 0] 30 (0,0)),.blk b8 (.cells #[I 0,I 0,I 0,I 0,I 0,.slice none 0 0,.slice none 0 0] 30 (0,0)),.blk b5 (.cells #[I 0,I 0,.slice none 0 0,I 0,I 0] 26 (0,0)),.row (some ⟨b39,0,none⟩) 1 3 1 1 [I 3],.blk b2 (.cells #[I 3,I (pp 4 (dscal k9 lbRec):Nat),.slice x34.1.1 2 x34.1.2,I 2,I 4] 26 (0,0)),.row x34.2.1 x34.2.2 46 2 2 (shc (sN (spl sco 2))),.row x34.1.1 x34.1.2 3 1 2 (is [5,6]),.row (some ⟨b32,0,none⟩) 2 3 1 2 [I 5,I 6],.blk b1 (.cells (bs k9).toArray 24 (0,0))]<|r_y 0 rfl (y_lda (b:=b2) (cs:=#[I 3,I (pp 4 (dscal k9 lbRec):Nat),.slice x34.1.1 2 x34.1.2,I 2,I 4]) (hl:=rfl))<|r_y 1 rfl (y_lda (b:=b16) (cs:=#[I 3,I 25,I 4,I (pp 4 77:Nat),I 10,.slice x95.aa 1 x95.ac,.slice none 0 0]) (hl:=rfl))<|r_y 2 rfl y_mv<|r_y 3 rfl (y_ixs (xs:=shc (sN (spl sco 2))) (i:=((1:Nat):Int)) (hr:=(rdR (.tail _ (.tail _ (.tail _ (.tail _ (.tail _ (.tail _ (.tail _ (.tail _ (.head _))))))))))) (hl:=by rw [shc_length,sN_length,spl_length]; decide) (h1:=by decide))<|r_y 4 rfl (y_ldra (i:=(1) * 2) (cs:=[I (1 + 1:Nat),I (hor sco (1 + 1):Nat)]) (rdR (.tail _ (.tail _ (.tail _ (.tail _ (.tail _ (.tail _ (.tail _ (.tail _ (.head _)))))))))) rfl (fun j v h=>shc_atA (spl_at (i:=1) (by decide)) h))<|r_y 5 rfl y_mv<|r_y 6 rfl (y_blda (cs:=bs k2) (hf:=by kernel_rfl))<|r_w2 7 11 rfl rfl ?_ ?_ (hsub:=by repeat (first | exact List.nil_sublist _ | exact List.Sublist.refl _ | apply List.Sublist.cons_cons | apply List.Sublist.cons))
    · refine s_gives (fun w' hw=>Approve_y w' sP (sC1 x95.ba x95.bc) x34.1.1 x95.aa none x34.1.2 x95.ac 0 6 (pp 4 55:Nat) k2 (1 + 1) (hor sco (1 + 1)) 55 (hg.st hw) k2_l (rdR (.tail _ (.tail _ (.tail _ (.tail _ (.tail _ (.tail _ (.tail _ (.tail _ (.tail _ (.head _)))))))))) w' hw) (show 2 ≤ 1000000 by decide) (rdR (.head _) w' hw) hka95 (Rd.nil _ _) (show 1 ≤ 1000000 by decide) (show 0 ≤ 1000000 by decide) (blg_r5 sP_ok (sC1_ok x95.ba x95.bc)) (by unfold R64; omega) sP_ok (sA2_rt x95.ba x95.bc) (by decide) (by decide) rfl) fun (x106:AX) _=>?_
      refine s_row (fun hka106 _=>s_row (fun hkb106 _=>?_) (hm:=.tail _ (.head _))) (hm:=.head _)
      refine r_K<|r_y 8 rfl y_mv<|r_y 9 rfl y_ext<|r_y 10 rfl y_ext<|r_W 11 rfl<|s_alloc fun b18=>r_K<|r_W 12 rfl<|s_sta (b:=b18) (vs:=#[I 3,I 25,I 4,I (pp 4 77:Nat),I 10,.slice x106.aa 2 x106.ac,.slice none 0 0]) (cs:=#[I 0,I 0,I 0,I 0,I 0,.slice none 0 0,.slice none 0 0]) (h1:=one_allA rfl) (hl:=rfl) (hs1:=rfl) ?_
      refine r_K<|r_y 13 rfl y_as<|r_E<|q_then<|c_seq<|c_reg<|s_y (y_lda (b:=b2) (cs:=#[I 3,I (pp 4 (dscal k9 lbRec):Nat),.slice x34.1.1 2 x34.1.2,I 2,I 4]) (hl:=rfl))<|s_y (y_lda (b:=b18) (cs:=#[I 3,I 25,I 4,I (pp 4 77:Nat),I 10,.slice x106.aa 2 x106.ac,.slice none 0 0]) (hl:=rfl))<|s_pure (fun w' hw=>(by have h9:=Finish_yes w' sP (sC2 x95.ba x106.ba x95.bc x106.bc) 14 1 x34.1.1 x106.aa none x34.1.2 x106.ac 0 ⟨(rdR (.tail _ (.tail _ (.tail _ (.tail _ (.tail _ (.tail _ (.tail _ (.tail _ (.tail _ (.tail _ (.tail _ (.tail _ (.head _))))))))))))) w' hw),(rdR (.tail _ (.head _)) w' hw),(Rd.nil _ _),(show 2 ≤ 1000000 by decide),(show 2 ≤ 1000000 by decide),(show 0 ≤ 1000000 by decide),hka106,(blg_r5 sP_ok (sC2_ok x95.ba x106.ba x95.bc x106.bc)),(cap_snoc (cap_snoc (fun _ h=>by cases h) hkb95) hkb106),(ApOk.snoc (ApOk.snoc (ApOk.nil' w') (rdR (.tail _ (.tail _ (.tail _ (.tail _ (.head _))))) w' hw) (Nat.le_trans (Nat.le_of_eq (wtx_length _ _ _ _ _)) (by decide))) (rdR (.tail _ (.tail _ (.head _))) w' hw) (Nat.le_trans (Nat.le_of_eq (wtx_length _ _ _ _ _)) (by decide))),(hg.st hw)⟩ 77 (sC2_fin x95.ba x106.ba x95.bc x106.bc).1; rw [(sC2_fin x95.ba x106.ba x95.bc x106.bc).2] at h9; exact h9))<|s_y y_mv<|s_y y_ext<|s_y y_ext<|s_alloc fun b20=>s_sta (b:=b20) (vs:=#[I 3,I (((sC2 x95.ba x106.ba x95.bc x106.bc)).d),I (((sC2 x95.ba x106.ba x95.bc x106.bc)).v),I (((sC2 x95.ba x106.ba x95.bc x106.bc)).l),I 1,I (-1),I (sgR sR (cmsg [3,((sC2 x95.ba x106.ba x95.bc x106.bc)).d,((sC2 x95.ba x106.ba x95.bc x106.bc)).v,((sC2 x95.ba x106.ba x95.bc x106.bc)).l,1,-1]):Nat),I (sgS sR (cmsg [3,((sC2 x95.ba x106.ba x95.bc x106.bc)).d,((sC2 x95.ba x106.ba x95.bc x106.bc)).v,((sC2 x95.ba x106.ba x95.bc x106.bc)).l,1,-1]):Nat)]) (cs:=#[I 0,I 0,I 0,I 0,I 0,I 0,I 0,I 0]) (h1:=by intro u hu; simp at hu; rcases hu with rfl | rfl | rfl | rfl | rfl | rfl | rfl | rfl <;> rfl) (hl:=(show (8:Nat) = 8 from rfl)) (hs1:=rfl) ?_
      refine s_y y_as<|s_nil<|q_then<|c_seq<|c_reg<|s_y y_mv<|s_y y_mv<|s_pure (fun w' hw=>(by have h9:=l_secret_ok w' x34.2.1 x34.2.2 (sN (spl sco 2)) (rdR (.tail _ (.tail _ (.tail _ (.tail _ (.tail _ (.tail _ (.tail _ (.tail _ (.tail _ (.tail _ (.tail _ (.tail _ (.head _))))))))))))) w' hw) (by rw [sN_length,spl_length]; decide); rw [(join_spl (cs:=sco) (m:=2) (by decide) (by decide) (by decide)).2,sco_0] at h9; exact h9))<|s_pure (fun w' hw=>Certify3_yes w' 25 4 (pp 4 77:Nat) 1 sR ⟨by decide,by decide,chk_four,chk_pub _⟩ (hg.st hw).1 sR_b.1 sR_b.2)<|s_y y_mv<|s_y y_ext<|s_y y_ext<|s_alloc fun b22=>s_sta (b:=b22) (vs:=#[I 3,I 25,I 4,I (pp 4 77:Nat),I 1,I (-1),I (sgR sR (cmsg [3,25,4,(pp 4 77:Nat),1,-1]):Nat),I (sgS sR (cmsg [3,25,4,(pp 4 77:Nat),1,-1]):Nat)]) (cs:=#[I 0,I 0,I 0,I 0,I 0,I 0,I 0,I 0]) (h1:=by intro u hu; simp at hu; rcases hu with rfl | rfl | rfl | rfl | rfl | rfl | rfl | rfl <;> rfl) (hl:=(show (8:Nat) = 8 from rfl)) (hs1:=rfl) ?_
      refine s_y y_as<|s_nil<|q_then<|c_seq<|c_reg<|s_y (y_lda (b:=b2) (cs:=#[I 3,I (pp 4 (dscal k9 lbRec):Nat),.slice x34.1.1 2 x34.1.2,I 2,I 4]) (hl:=rfl))<|s_y (y_lda (b:=b18) (cs:=#[I 3,I 25,I 4,I (pp 4 77:Nat),I 10,.slice x106.aa 2 x106.ac,.slice none 0 0]) (hl:=rfl))<|s_pure (fun w' hw=>(by have h9:=Finish_st w' sP (sC2 x95.ba x106.ba x95.bc x106.bc) 13 1 x34.1.1 x106.aa none x34.1.2 x106.ac 0 (rdR (.tail _ (.tail _ (.tail _ (.tail _ (.tail _ (.tail _ (.tail _ (.tail _ (.tail _ (.tail _ (.tail _ (.tail _ (.tail _ (.tail _ (.head _))))))))))))))) w' hw) (rdR (.tail _ (.tail _ (.tail _ (.head _)))) w' hw) (Rd.nil _ _) (show 2 ≤ 1000000 by decide) (show 2 ≤ 1000000 by decide) (show 0 ≤ 1000000 by decide) 77 (by rw [sC2_early]; decide); rw [sC2_early] at h9; exact h9))<|s_y y_mv<|s_y y_ext<|s_y y_ext<|s_alloc fun b24=>s_sta (b:=b24) (vs:=#[I 0,I 0,I 0,I 0,I 0,I 0,I 0,I 0]) (cs:=#[I 0,I 0,I 0,I 0,I 0,I 0,I 0,I 0]) (h1:=one_allA rfl) (hl:=(show (8:Nat) = 8 from rfl)) (hs1:=rfl) ?_
      refine s_y y_as<|s_nil<|q_then<|c_seq<|c_seq<|c_reg<|s_y y_mv<|s_nf (y_neq (p:=0) (q:=0)) (by omega)<|s_y y_mv<|s_y y_mv<|s_nf (y_neq (p:=0) (q:=0)) (by omega)<|s_y y_pk<|s_y y_mv<|s_y y_mv<|s_nf (y_neq (p:=0) (q:=0)) (by omega)<|s_y y_pk<|s_y y_mv<|s_y y_mv<|s_nf (y_neq (p:=0) (q:=0)) (by omega)<|s_y y_pk<|s_y y_mv<|s_y y_mv<|s_nf (y_neq (p:=0) (q:=0)) (by omega)<|s_y y_pk<|s_y y_mv<|s_y y_mv<|s_nf (y_neq (p:=391) (q:=391)) (by trivial)<|s_y y_pk<|s_y y_mv<|s_y (y_lda (b:=b20) (cs:=#[I 3,I (((sC2 x95.ba x106.ba x95.bc x106.bc)).d),I (((sC2 x95.ba x106.ba x95.bc x106.bc)).v),I (((sC2 x95.ba x106.ba x95.bc x106.bc)).l),I 1,I (-1),I (sgR sR (cmsg [3,((sC2 x95.ba x106.ba x95.bc x106.bc)).d,((sC2 x95.ba x106.ba x95.bc x106.bc)).v,((sC2 x95.ba x106.ba x95.bc x106.bc)).l,1,-1]):Nat),I (sgS sR (cmsg [3,((sC2 x95.ba x106.ba x95.bc x106.bc)).d,((sC2 x95.ba x106.ba x95.bc x106.bc)).v,((sC2 x95.ba x106.ba x95.bc x106.bc)).l,1,-1]):Nat)]) (hl:=rfl))<|s_y (y_lda (b:=b22) (cs:=#[I 3,I 25,I 4,I (pp 4 77:Nat),I 1,I (-1),I (sgR sR (cmsg [3,25,4,(pp 4 77:Nat),1,-1]):Nat),I (sgS sR (cmsg [3,25,4,(pp 4 77:Nat),1,-1]):Nat)]) (hl:=rfl))<|s_y y_neqCt<|s_y y_pk<|s_nil<|q_then<|c_f<|c_skip<|q_then<|c_seq<|c_reg<|s_y (y_lda (b:=b18) (cs:=#[I 3,I 25,I 4,I (pp 4 77:Nat),I 10,.slice x106.aa 2 x106.ac,.slice none 0 0]) (hl:=rfl))<|s_y y_mv<|s_y (y_blst (cs:=[I 26,I (pp 4 55:Nat),I 4,I 1,.bool false]))<|s_bslr (cs:=[I 26,I (pp 4 55:Nat),I 4,I 1,.bool false]) fun b159=>s_gives (fun w' hw=>Object_y w' (sC2 x95.ba x106.ba x95.bc x106.bc) x106.aa none (some ⟨b159,0,none⟩) x106.ac 0 1 [⟨26,(pp 4 55:Nat),4,1,false⟩] 26 13 55 (hg.st hw) (rdR (.head _) w' hw) (by decide) (Rd.nil _ _) (Nat.le_refl _) (show 0 ≤ 1000000 by decide) 0 _ _ _ (ls26 26 (by decide)) rfl (sC2_ob x95.ba x106.ba x95.bc x106.bc) (by decide) (by decide) rfl (blg_r5 sP_ok (sC2_ok x95.ba x106.ba x95.bc x106.bc)) (by unfold R64; omega) (by unfold R64; omega)) fun (x160:Option Addr × Nat) _=>?_
      refine s_row (fun hkv160 _=>?_) (hm:=.head _)
      refine s_y y_mv<|s_y y_ext<|s_y y_ext<|s_alloc fun b26=>s_sta (b:=b26) (vs:=#[I 3,I 25,I 4,I (pp 4 77:Nat),I 10,.slice x106.aa 2 x106.ac,.slice x160.1 1 x160.2]) (cs:=#[I 0,I 0,I 0,I 0,I 0,.slice none 0 0,.slice none 0 0]) (h1:=one_allA rfl) (hl:=rfl) (hs1:=rfl) ?_
      refine s_y y_as<|s_nil<|q_then<|c_seq<|c_reg<|s_y (y_lda (b:=b18) (cs:=#[I 3,I 25,I 4,I (pp 4 77:Nat),I 10,.slice x106.aa 2 x106.ac,.slice none 0 0]) (hl:=rfl))<|s_y y_mv<|s_y (y_blst (cs:=[I 40,I (pp 4 55:Nat),I 4,I 1,.bool false]))<|s_bslr (cs:=[I 40,I (pp 4 55:Nat),I 4,I 1,.bool false]) fun b167=>s_pure (fun w' hw=>Object_o2b w' (sC2 x95.ba x106.ba x95.bc x106.bc) x106.aa none (some ⟨b167,0,none⟩) x106.ac 0 1 [⟨40,(pp 4 55:Nat),4,1,false⟩] 40 13 55 (hg.st hw) (rdR (.head _) w' hw) (by decide) (Rd.nil _ _) (show 0 ≤ 1000000 by decide) 0 _ _ _ (ls26 40 (by decide)) rfl (sC2_no x95.ba x106.ba x95.bc x106.bc))<|s_y y_mv<|s_y y_ext<|s_y y_ext<|s_alloc fun b28=>s_sta (b:=b28) (vs:=#[I 0,I 0,I 0,I 0,I 0,.slice none 0 0,.slice none 0 0]) (cs:=#[I 0,I 0,I 0,I 0,I 0,.slice none 0 0,.slice none 0 0]) (h1:=one_allA rfl) (hl:=rfl) (hs1:=rfl) ?_
      refine s_y y_as<|s_nil<|q_then<|c_seq<|c_reg<|s_y y_mv<|s_kt (y_eql (p:=0) (q:=0)) (by omega)<|s_y y_mv<|s_y y_mv<|s_kt (y_eql (p:=390) (q:=390)) (by omega)<|s_y y_pk<|s_y y_mv<|s_y (y_lda (b:=b2) (cs:=#[I 3,I (pp 4 (dscal k9 lbRec):Nat),.slice x34.1.1 2 x34.1.2,I 2,I 4]) (hl:=rfl))<|s_y (y_lda (b:=b26) (cs:=#[I 3,I 25,I 4,I (pp 4 77:Nat),I 10,.slice x106.aa 2 x106.ac,.slice x160.1 1 x160.2]) (hl:=rfl))<|s_pure (fun w' hw=>(by have h9:=State_ok w' sP (sC3 x95.ba x106.ba x95.bc x106.bc) 99 x34.1.1 x106.aa x160.1 x34.1.2 x106.ac x160.2 (rdR (.tail _ (.tail _ (.tail _ (.tail _ (.tail _ (.tail _ (.tail _ (.tail _ (.tail _ (.tail _ (.tail _ (.tail _ (.tail _ (.tail _ (.tail _ (.tail _ (.tail _ (.tail _ (.tail _ (.tail _ (.head _))))))))))))))))))))) w' hw) (rdR (.tail _ (.tail _ (.tail _ (.tail _ (.tail _ (.tail _ (.tail _ (.tail _ (.tail _ (.head _)))))))))) w' hw) (rdR (.tail _ (.tail _ (.tail _ (.head _)))) w' hw) (show 2 ≤ 1000000 by decide) (show 2 ≤ 1000000 by decide) (show 1 ≤ 1000000 by decide); rw [sC3_st] at h9; exact h9))<|s_kt (y_eql (p:=392) (q:=392)) (by trivial)<|s_y y_pk<|s_y y_mv<|s_y (y_lda (b:=b2) (cs:=#[I 3,I (pp 4 (dscal k9 lbRec):Nat),.slice x34.1.1 2 x34.1.2,I 2,I 4]) (hl:=rfl))<|s_y (y_bcas (cs:=[I 0,I 0,I 0,I 0,I 0,.slice none 0 0,.slice none 0 0]))<|s_pure (fun w' hw=>(by have h9:=State_ok w' sP zC 1 x34.1.1 none none x34.1.2 0 0 (rdR (.tail _ (.tail _ (.tail _ (.tail _ (.tail _ (.tail _ (.tail _ (.tail _ (.tail _ (.tail _ (.tail _ (.tail _ (.tail _ (.tail _ (.tail _ (.tail _ (.tail _ (.tail _ (.tail _ (.tail _ (.head _))))))))))))))))))))) w' hw) (Rd.nil _ _) (Rd.nil _ _) (show 2 ≤ 1000000 by decide) (show 0 ≤ 1000000 by decide) (show 0 ≤ 1000000 by decide); rw [zC_st] at h9; exact h9))<|s_kt (y_eql (p:=390) (q:=390)) (by trivial)<|s_y y_pk<|s_y y_mv<|s_y (y_lda (b:=b2) (cs:=#[I 3,I (pp 4 (dscal k9 lbRec):Nat),.slice x34.1.1 2 x34.1.2,I 2,I 4]) (hl:=rfl))<|s_y (y_lda (b:=b14) (cs:=#[I 3,I 25,I 4,I (pp 4 77:Nat),I 10,.slice none 0 0,.slice none 0 0]) (hl:=rfl))<|s_pure (fun w' hw=>(by have h9:=State_ok w' sP sC 10 x34.1.1 none none x34.1.2 0 0 (rdR (.tail _ (.tail _ (.tail _ (.tail _ (.tail _ (.tail _ (.tail _ (.tail _ (.tail _ (.tail _ (.tail _ (.tail _ (.tail _ (.tail _ (.tail _ (.tail _ (.tail _ (.tail _ (.tail _ (.tail _ (.head _))))))))))))))))))))) w' hw) (Rd.nil _ _) (Rd.nil _ _) (show 2 ≤ 1000000 by decide) (show 0 ≤ 1000000 by decide) (show 0 ≤ 1000000 by decide); rw [sC_early] at h9; exact h9))<|s_kt (y_eql (p:=391) (q:=391)) (by trivial)<|s_y y_pk<|s_y y_as<|s_nil<|q_then<|c_ret<|?_
      exact ret1 Tryz.results9 rv_t fun w' hw=>⟨rfl,hw.sub (List.nil_sublist _)⟩
    · refine s_alloc fun b18=>r_K<|r_W 7 rfl<|s_gives (fun w' hw=>Approve_y w' sP (sC1 x95.ba x95.bc) x34.1.1 x95.aa none x34.1.2 x95.ac 0 6 (pp 4 55:Nat) k2 (1 + 1) (hor sco (1 + 1)) 55 (hg.st hw) k2_l (rdR (.tail _ (.tail _ (.tail _ (.tail _ (.tail _ (.tail _ (.tail _ (.tail _ (.tail _ (.tail _ (.head _))))))))))) w' hw) (show 2 ≤ 1000000 by decide) (rdR (.tail _ (.head _)) w' hw) hka95 (Rd.nil _ _) (show 1 ≤ 1000000 by decide) (show 0 ≤ 1000000 by decide) (blg_r5 sP_ok (sC1_ok x95.ba x95.bc)) (by unfold R64; omega) sP_ok (sA2_rt x95.ba x95.bc) (by decide) (by decide) rfl) fun (x106:AX) _=>?_
      refine s_row (fun hka106 _=>s_row (fun hkb106 _=>?_) (hm:=.tail _ (.head _))) (hm:=.head _)
      refine r_K<|r_y 8 rfl y_mv<|r_y 9 rfl y_ext<|r_y 10 rfl y_ext<|r_W 12 rfl<|s_sta (b:=b18) (vs:=#[I 3,I 25,I 4,I (pp 4 77:Nat),I 10,.slice x106.aa 2 x106.ac,.slice none 0 0]) (cs:=#[I 0,I 0,I 0,I 0,I 0,.slice none 0 0,.slice none 0 0]) (h1:=one_allA rfl) (hl:=rfl) (hs1:=rfl) ?_
      refine r_K<|r_y 13 rfl y_as<|r_E<|q_then<|c_seq<|c_reg<|s_y (y_lda (b:=b2) (cs:=#[I 3,I (pp 4 (dscal k9 lbRec):Nat),.slice x34.1.1 2 x34.1.2,I 2,I 4]) (hl:=rfl))<|s_y (y_lda (b:=b18) (cs:=#[I 3,I 25,I 4,I (pp 4 77:Nat),I 10,.slice x106.aa 2 x106.ac,.slice none 0 0]) (hl:=rfl))<|s_pure (fun w' hw=>(by have h9:=Finish_yes w' sP (sC2 x95.ba x106.ba x95.bc x106.bc) 14 1 x34.1.1 x106.aa none x34.1.2 x106.ac 0 ⟨(rdR (.tail _ (.tail _ (.tail _ (.tail _ (.tail _ (.tail _ (.tail _ (.tail _ (.tail _ (.tail _ (.tail _ (.tail _ (.head _))))))))))))) w' hw),(rdR (.head _) w' hw),(Rd.nil _ _),(show 2 ≤ 1000000 by decide),(show 2 ≤ 1000000 by decide),(show 0 ≤ 1000000 by decide),hka106,(blg_r5 sP_ok (sC2_ok x95.ba x106.ba x95.bc x106.bc)),(cap_snoc (cap_snoc (fun _ h=>by cases h) hkb95) hkb106),(ApOk.snoc (ApOk.snoc (ApOk.nil' w') (rdR (.tail _ (.tail _ (.tail _ (.tail _ (.head _))))) w' hw) (Nat.le_trans (Nat.le_of_eq (wtx_length _ _ _ _ _)) (by decide))) (rdR (.tail _ (.head _)) w' hw) (Nat.le_trans (Nat.le_of_eq (wtx_length _ _ _ _ _)) (by decide))),(hg.st hw)⟩ 77 (sC2_fin x95.ba x106.ba x95.bc x106.bc).1; rw [(sC2_fin x95.ba x106.ba x95.bc x106.bc).2] at h9; exact h9))<|s_y y_mv<|s_y y_ext<|s_y y_ext<|s_alloc fun b20=>s_sta (b:=b20) (vs:=#[I 3,I (((sC2 x95.ba x106.ba x95.bc x106.bc)).d),I (((sC2 x95.ba x106.ba x95.bc x106.bc)).v),I (((sC2 x95.ba x106.ba x95.bc x106.bc)).l),I 1,I (-1),I (sgR sR (cmsg [3,((sC2 x95.ba x106.ba x95.bc x106.bc)).d,((sC2 x95.ba x106.ba x95.bc x106.bc)).v,((sC2 x95.ba x106.ba x95.bc x106.bc)).l,1,-1]):Nat),I (sgS sR (cmsg [3,((sC2 x95.ba x106.ba x95.bc x106.bc)).d,((sC2 x95.ba x106.ba x95.bc x106.bc)).v,((sC2 x95.ba x106.ba x95.bc x106.bc)).l,1,-1]):Nat)]) (cs:=#[I 0,I 0,I 0,I 0,I 0,I 0,I 0,I 0]) (h1:=by intro u hu; simp at hu; rcases hu with rfl | rfl | rfl | rfl | rfl | rfl | rfl | rfl <;> rfl) (hl:=(show (8:Nat) = 8 from rfl)) (hs1:=rfl) ?_
      refine s_y y_as<|s_nil<|q_then<|c_seq<|c_reg<|s_y y_mv<|s_y y_mv<|s_pure (fun w' hw=>(by have h9:=l_secret_ok w' x34.2.1 x34.2.2 (sN (spl sco 2)) (rdR (.tail _ (.tail _ (.tail _ (.tail _ (.tail _ (.tail _ (.tail _ (.tail _ (.tail _ (.tail _ (.tail _ (.tail _ (.head _))))))))))))) w' hw) (by rw [sN_length,spl_length]; decide); rw [(join_spl (cs:=sco) (m:=2) (by decide) (by decide) (by decide)).2,sco_0] at h9; exact h9))<|s_pure (fun w' hw=>Certify3_yes w' 25 4 (pp 4 77:Nat) 1 sR ⟨by decide,by decide,chk_four,chk_pub _⟩ (hg.st hw).1 sR_b.1 sR_b.2)<|s_y y_mv<|s_y y_ext<|s_y y_ext<|s_alloc fun b22=>s_sta (b:=b22) (vs:=#[I 3,I 25,I 4,I (pp 4 77:Nat),I 1,I (-1),I (sgR sR (cmsg [3,25,4,(pp 4 77:Nat),1,-1]):Nat),I (sgS sR (cmsg [3,25,4,(pp 4 77:Nat),1,-1]):Nat)]) (cs:=#[I 0,I 0,I 0,I 0,I 0,I 0,I 0,I 0]) (h1:=by intro u hu; simp at hu; rcases hu with rfl | rfl | rfl | rfl | rfl | rfl | rfl | rfl <;> rfl) (hl:=(show (8:Nat) = 8 from rfl)) (hs1:=rfl) ?_
      refine s_y y_as<|s_nil<|q_then<|c_seq<|c_reg<|s_y (y_lda (b:=b2) (cs:=#[I 3,I (pp 4 (dscal k9 lbRec):Nat),.slice x34.1.1 2 x34.1.2,I 2,I 4]) (hl:=rfl))<|s_y (y_lda (b:=b18) (cs:=#[I 3,I 25,I 4,I (pp 4 77:Nat),I 10,.slice x106.aa 2 x106.ac,.slice none 0 0]) (hl:=rfl))<|s_pure (fun w' hw=>(by have h9:=Finish_st w' sP (sC2 x95.ba x106.ba x95.bc x106.bc) 13 1 x34.1.1 x106.aa none x34.1.2 x106.ac 0 (rdR (.tail _ (.tail _ (.tail _ (.tail _ (.tail _ (.tail _ (.tail _ (.tail _ (.tail _ (.tail _ (.tail _ (.tail _ (.tail _ (.tail _ (.head _))))))))))))))) w' hw) (rdR (.tail _ (.tail _ (.head _))) w' hw) (Rd.nil _ _) (show 2 ≤ 1000000 by decide) (show 2 ≤ 1000000 by decide) (show 0 ≤ 1000000 by decide) 77 (by rw [sC2_early]; decide); rw [sC2_early] at h9; exact h9))<|s_y y_mv<|s_y y_ext<|s_y y_ext<|s_alloc fun b24=>s_sta (b:=b24) (vs:=#[I 0,I 0,I 0,I 0,I 0,I 0,I 0,I 0]) (cs:=#[I 0,I 0,I 0,I 0,I 0,I 0,I 0,I 0]) (h1:=one_allA rfl) (hl:=(show (8:Nat) = 8 from rfl)) (hs1:=rfl) ?_
      refine s_y y_as<|s_nil<|q_then<|c_seq<|c_seq<|c_reg<|s_y y_mv<|s_nf (y_neq (p:=0) (q:=0)) (by omega)<|s_y y_mv<|s_y y_mv<|s_nf (y_neq (p:=0) (q:=0)) (by omega)<|s_y y_pk<|s_y y_mv<|s_y y_mv<|s_nf (y_neq (p:=0) (q:=0)) (by omega)<|s_y y_pk<|s_y y_mv<|s_y y_mv<|s_nf (y_neq (p:=0) (q:=0)) (by omega)<|s_y y_pk<|s_y y_mv<|s_y y_mv<|s_nf (y_neq (p:=0) (q:=0)) (by omega)<|s_y y_pk<|s_y y_mv<|s_y y_mv<|s_nf (y_neq (p:=391) (q:=391)) (by trivial)<|s_y y_pk<|s_y y_mv<|s_y (y_lda (b:=b20) (cs:=#[I 3,I (((sC2 x95.ba x106.ba x95.bc x106.bc)).d),I (((sC2 x95.ba x106.ba x95.bc x106.bc)).v),I (((sC2 x95.ba x106.ba x95.bc x106.bc)).l),I 1,I (-1),I (sgR sR (cmsg [3,((sC2 x95.ba x106.ba x95.bc x106.bc)).d,((sC2 x95.ba x106.ba x95.bc x106.bc)).v,((sC2 x95.ba x106.ba x95.bc x106.bc)).l,1,-1]):Nat),I (sgS sR (cmsg [3,((sC2 x95.ba x106.ba x95.bc x106.bc)).d,((sC2 x95.ba x106.ba x95.bc x106.bc)).v,((sC2 x95.ba x106.ba x95.bc x106.bc)).l,1,-1]):Nat)]) (hl:=rfl))<|s_y (y_lda (b:=b22) (cs:=#[I 3,I 25,I 4,I (pp 4 77:Nat),I 1,I (-1),I (sgR sR (cmsg [3,25,4,(pp 4 77:Nat),1,-1]):Nat),I (sgS sR (cmsg [3,25,4,(pp 4 77:Nat),1,-1]):Nat)]) (hl:=rfl))<|s_y y_neqCt<|s_y y_pk<|s_nil<|q_then<|c_f<|c_skip<|q_then<|c_seq<|c_reg<|s_y (y_lda (b:=b18) (cs:=#[I 3,I 25,I 4,I (pp 4 77:Nat),I 10,.slice x106.aa 2 x106.ac,.slice none 0 0]) (hl:=rfl))<|s_y y_mv<|s_y (y_blst (cs:=[I 26,I (pp 4 55:Nat),I 4,I 1,.bool false]))<|s_bslr (cs:=[I 26,I (pp 4 55:Nat),I 4,I 1,.bool false]) fun b159=>s_gives (fun w' hw=>Object_y w' (sC2 x95.ba x106.ba x95.bc x106.bc) x106.aa none (some ⟨b159,0,none⟩) x106.ac 0 1 [⟨26,(pp 4 55:Nat),4,1,false⟩] 26 13 55 (hg.st hw) (rdR (.head _) w' hw) (by decide) (Rd.nil _ _) (Nat.le_refl _) (show 0 ≤ 1000000 by decide) 0 _ _ _ (ls26 26 (by decide)) rfl (sC2_ob x95.ba x106.ba x95.bc x106.bc) (by decide) (by decide) rfl (blg_r5 sP_ok (sC2_ok x95.ba x106.ba x95.bc x106.bc)) (by unfold R64; omega) (by unfold R64; omega)) fun (x160:Option Addr × Nat) _=>?_
      refine s_row (fun hkv160 _=>?_) (hm:=.head _)
      refine s_y y_mv<|s_y y_ext<|s_y y_ext<|s_alloc fun b26=>s_sta (b:=b26) (vs:=#[I 3,I 25,I 4,I (pp 4 77:Nat),I 10,.slice x106.aa 2 x106.ac,.slice x160.1 1 x160.2]) (cs:=#[I 0,I 0,I 0,I 0,I 0,.slice none 0 0,.slice none 0 0]) (h1:=one_allA rfl) (hl:=rfl) (hs1:=rfl) ?_
      refine s_y y_as<|s_nil<|q_then<|c_seq<|c_reg<|s_y (y_lda (b:=b18) (cs:=#[I 3,I 25,I 4,I (pp 4 77:Nat),I 10,.slice x106.aa 2 x106.ac,.slice none 0 0]) (hl:=rfl))<|s_y y_mv<|s_y (y_blst (cs:=[I 40,I (pp 4 55:Nat),I 4,I 1,.bool false]))<|s_bslr (cs:=[I 40,I (pp 4 55:Nat),I 4,I 1,.bool false]) fun b167=>s_pure (fun w' hw=>Object_o2b w' (sC2 x95.ba x106.ba x95.bc x106.bc) x106.aa none (some ⟨b167,0,none⟩) x106.ac 0 1 [⟨40,(pp 4 55:Nat),4,1,false⟩] 40 13 55 (hg.st hw) (rdR (.head _) w' hw) (by decide) (Rd.nil _ _) (show 0 ≤ 1000000 by decide) 0 _ _ _ (ls26 40 (by decide)) rfl (sC2_no x95.ba x106.ba x95.bc x106.bc))<|s_y y_mv<|s_y y_ext<|s_y y_ext<|s_alloc fun b28=>s_sta (b:=b28) (vs:=#[I 0,I 0,I 0,I 0,I 0,.slice none 0 0,.slice none 0 0]) (cs:=#[I 0,I 0,I 0,I 0,I 0,.slice none 0 0,.slice none 0 0]) (h1:=one_allA rfl) (hl:=rfl) (hs1:=rfl) ?_
      refine s_y y_as<|s_nil<|q_then<|c_seq<|c_reg<|s_y y_mv<|s_kt (y_eql (p:=0) (q:=0)) (by omega)<|s_y y_mv<|s_y y_mv<|s_kt (y_eql (p:=390) (q:=390)) (by omega)<|s_y y_pk<|s_y y_mv<|s_y (y_lda (b:=b2) (cs:=#[I 3,I (pp 4 (dscal k9 lbRec):Nat),.slice x34.1.1 2 x34.1.2,I 2,I 4]) (hl:=rfl))<|s_y (y_lda (b:=b26) (cs:=#[I 3,I 25,I 4,I (pp 4 77:Nat),I 10,.slice x106.aa 2 x106.ac,.slice x160.1 1 x160.2]) (hl:=rfl))<|s_pure (fun w' hw=>(by have h9:=State_ok w' sP (sC3 x95.ba x106.ba x95.bc x106.bc) 99 x34.1.1 x106.aa x160.1 x34.1.2 x106.ac x160.2 (rdR (.tail _ (.tail _ (.tail _ (.tail _ (.tail _ (.tail _ (.tail _ (.tail _ (.tail _ (.tail _ (.tail _ (.tail _ (.tail _ (.tail _ (.tail _ (.tail _ (.tail _ (.tail _ (.tail _ (.tail _ (.head _))))))))))))))))))))) w' hw) (rdR (.tail _ (.tail _ (.tail _ (.tail _ (.tail _ (.tail _ (.tail _ (.tail _ (.head _))))))))) w' hw) (rdR (.tail _ (.tail _ (.tail _ (.head _)))) w' hw) (show 2 ≤ 1000000 by decide) (show 2 ≤ 1000000 by decide) (show 1 ≤ 1000000 by decide); rw [sC3_st] at h9; exact h9))<|s_kt (y_eql (p:=392) (q:=392)) (by trivial)<|s_y y_pk<|s_y y_mv<|s_y (y_lda (b:=b2) (cs:=#[I 3,I (pp 4 (dscal k9 lbRec):Nat),.slice x34.1.1 2 x34.1.2,I 2,I 4]) (hl:=rfl))<|s_y (y_bcas (cs:=[I 0,I 0,I 0,I 0,I 0,.slice none 0 0,.slice none 0 0]))<|s_pure (fun w' hw=>(by have h9:=State_ok w' sP zC 1 x34.1.1 none none x34.1.2 0 0 (rdR (.tail _ (.tail _ (.tail _ (.tail _ (.tail _ (.tail _ (.tail _ (.tail _ (.tail _ (.tail _ (.tail _ (.tail _ (.tail _ (.tail _ (.tail _ (.tail _ (.tail _ (.tail _ (.tail _ (.tail _ (.head _))))))))))))))))))))) w' hw) (Rd.nil _ _) (Rd.nil _ _) (show 2 ≤ 1000000 by decide) (show 0 ≤ 1000000 by decide) (show 0 ≤ 1000000 by decide); rw [zC_st] at h9; exact h9))<|s_kt (y_eql (p:=390) (q:=390)) (by trivial)<|s_y y_pk<|s_y y_mv<|s_y (y_lda (b:=b2) (cs:=#[I 3,I (pp 4 (dscal k9 lbRec):Nat),.slice x34.1.1 2 x34.1.2,I 2,I 4]) (hl:=rfl))<|s_y (y_lda (b:=b14) (cs:=#[I 3,I 25,I 4,I (pp 4 77:Nat),I 10,.slice none 0 0,.slice none 0 0]) (hl:=rfl))<|s_pure (fun w' hw=>(by have h9:=State_ok w' sP sC 10 x34.1.1 none none x34.1.2 0 0 (rdR (.tail _ (.tail _ (.tail _ (.tail _ (.tail _ (.tail _ (.tail _ (.tail _ (.tail _ (.tail _ (.tail _ (.tail _ (.tail _ (.tail _ (.tail _ (.tail _ (.tail _ (.tail _ (.tail _ (.tail _ (.head _))))))))))))))))))))) w' hw) (Rd.nil _ _) (Rd.nil _ _) (show 2 ≤ 1000000 by decide) (show 0 ≤ 1000000 by decide) (show 0 ≤ 1000000 by decide); rw [sC_early] at h9; exact h9))<|s_kt (y_eql (p:=391) (q:=391)) (by trivial)<|s_y y_pk<|s_y y_as<|s_nil<|q_then<|c_ret<|?_
      exact ret1 Tryz.results9 rv_t fun w' hw=>⟨rfl,hw.sub (List.nil_sublist _)⟩
end Go.Proofs.YtojohglifijnnaaGreatDoor
end
section
namespace Rst
open Go Eng
theorem vtd_len (c:Cs) (z:Vt):(vtd c z).vt.length = c.vt.length + 1:=List.length_append
end Rst
namespace Go.Proofs.YtojohglifijnnaaGreatDoor
open Go Eng Gf Sha Sig Wr Cod Cha Rst
set_option maxRecDepth 100000
set_option linter.all false
end Go.Proofs.YtojohglifijnnaaGreatDoor
end
section
namespace Go.Proofs.YtojohglifijnnaaGreatDoor
open Go Eng Gf Sha Sig Wr Cod Cha Rst
set_option maxRecDepth 100000
set_option linter.all false
end Go.Proofs.YtojohglifijnnaaGreatDoor
end
section
namespace Rst
open Go Eng Gf Sha Sig Wr Cod Cha Go.Proofs.YtojohglifijnnaaGreatDoor
/-- what is known of a person and a case among the arguments -/
structure ArgP (w:World) (p:Pn) (ga:Option Addr) (gc:Nat):Prop where
  r:Rd w ga (is p.gs)
  c:p.gs.length ≤ gc
structure ArgC (w:World) (c:Cs) (aa va:Option Addr) (ac vc:Nat):Prop where
  ra:Rd w aa (apc c.ap)
  ac':c.ap.length ≤ ac
  am:ac ≤ 9223372036854775807
  rv:Rd w va (vtc c.vt)
  vc':c.vt.length ≤ vc
  b:∀ z ∈ c.ap,Rd w z.a (bs z.q) ∧ z.q.length ≤ z.c
  r5:R5 c
theorem ArgC.ok {w:World} {p:Pn} {c:Cs} {aa va:Option Addr} {ac vc:Nat} (h:ArgC w c aa va ac vc) (hf:Few p c):ApOk w c.ap:=fun z hz=>⟨(h.b z hz).1,Nat.le_trans (hf.a z hz) (by decide)⟩
theorem ArgC.cp {w:World} {c:Cs} {aa va:Option Addr} {ac vc:Nat} (h:ArgC w c aa va ac vc):∀ z ∈ c.ap,z.q.length ≤ z.c:=fun z hz=>(h.b z hz).2
end Rst
namespace Go.Proofs.YtojohglifijnnaaGreatDoor
open Go Eng Gf Sha Sig Wr Cod Cha Rst
set_option linter.all false
section
variable (w:World) (hg:LC w) (p:Pn) (c:Cs) (ga aa va:Option Addr) (gc ac vc:Nat) (hP:ArgP w p ga gc) (hC:ArgC w c aa va ac vc)
include hg hP hC
end
end Go.Proofs.YtojohglifijnnaaGreatDoor
end
section
namespace Eng
open Go Go.RowKit Go.ChangeShapes Go.WideShapes Go.ChangeAt
theorem St.kept {W w:World} (h:St W [] w []) (may:MemPlace → Prop):W.keptBut w may:=by
  refine ⟨h.os,h.output,fun i hi=>?_⟩
  rw [h.old i hi (by simp)]
  cases ho:W.heap[i]? with
  | none=>rfl
  | some o=>cases o <;> simp
theorem trodAll_below {H:Type} {enc:TypeId × Value → H} {P:Program} (hl:laidOutB P = true) {W w:World} (hb:Below W.heap.size W w) :
    ∀ {ts:List TypeId} {vs:List Value} {ds:List (DataW H)} {ps:List MemPlace},(ts.all fun t=>P.readableRec t && decide (t < P.types.size)) = true → (∀ x ∈ ps,x.block < W.heap.size) →
      DataW.TrodAll enc P W 0 (fun _=>true) true ts vs ds ps → DataW.TrodAll enc P w 0 (fun b=>decide (b < W.heap.size)) true ts vs ds ps
  | [],[],[],_,_,_,h=>h
  | t :: ts,v :: vs,d :: ds,ps,ht,hlt,h=>by
    obtain ⟨p,q,h1,h2,rfl⟩:=h
    simp only [List.all_cons,Bool.and_eq_true,decide_eq_true_eq] at ht
    exact ⟨p,q,Below.trod hl ht.1.1 ht.1.2 h1 hb (fun x hx=>hlt x (List.mem_append_left _ hx)),trodAll_below hl hb (by simpa using ht.2) (fun x hx=>hlt x (List.mem_append_right _ hx)) h2,rfl⟩
  | [],_ :: _,_,_,_,_,h=>h.elim
  | _ :: _,[],_,_,_,_,h=>h.elim
  | [],[],_ :: _,_,_,_,h=>h.elim
  | _ :: _,_ :: _,[],_,_,_,h=>h.elim
theorem post_true {H:Type} {enc:TypeId × Value → H} {P:Program} {f:Func} {s:ChangeSpec} {W w:World} {args:Array Value} {ds gs:List (DataW H)} {before:List MemPlace} {tb:TypeId}
    (hl:laidOutB P = true) (ht:(f.params.toList.all fun t=>P.readableRec t && decide (t < P.types.size)) = true) (hr:f.resultTypes = #[tb]) (hb:P.underlying tb = some .bool) (hv:s.vars = [])
    (hfn:s.fn H (ds ++ gs) = { results:=[.lit (.bool true)],args:=ds })
    (hW:DataW.Whole enc P f.params.toList s.vars false W args.toList ds gs before) (hs:St W [] w []):s.post enc P f false true false false W args (.bool true) w:=by
  have hlt:∀ x ∈ before,x.block < W.heap.size:=fun x hx=>hW.lt x hx
  have hW':=hW
  obtain ⟨p,q,hA,hV,rfl,hfz,hnd⟩:=hW
  rw [hv] at hV
  obtain ⟨rfl,rfl⟩:=trodVars_none hV
  refine ⟨ds,[],p ++ [],[],p,[],hW',?_,?_,?_,hs.kept _,fun h=>by cases h⟩
  · rw [hfn,hr]
    exact trodAll_cons_mk (shut_bool hb _) trodAll_mk0
  · rw [hfn]
    exact trodAll_below hl hs.below ht (fun x hx=>hlt x (List.mem_append_left _ hx)) hA
  · rw [hfn,hv]
    exact rfl
theorem law_lifted {H:Type} {enc:TypeId × Value → H} {C:Checked} {os:Os} {f:FuncId} {fn:Func} {s:ChangeSpec} {X:World → Array Value → Prop} {tb:TypeId}
    (hX:∀ (w w':World) (args:Array Value),w.heap = w'.heap → X w args → X w' args)
    (own:ownKnob C.prog.godebug = none) (started:os.Started) (noInit:C.prog.inits.idxOf? f = none) (hfn:C.prog.funcs[f]? = some fn)
    (witness:∃ (w:World) (tape:Tape) (i:Input),w.os = os ∧ (w.forCall tape i).Shaped C.prog ∧ i.vars = [] ∧ Input.okWide C.prog (w.forCall tape i) .any w.heap.size f i ∧
      ((s.pre enc C.prog fn [] false (w.forCall tape i).memory i.args ∧ X (w.forCall tape i).memory i.args) ∧ sizedMet enc C.prog fn (OpenSpec.ofChange s) false (w.forCall tape i).memory i.args) ∧ ({}:Assume).holds C.prog (lone (Frame.enter C.prog f i.args .normal) [] (w.forCall tape i)))
    (hl:laidOutB C.prog = true) (ht:(fn.params.toList.all fun t=>C.prog.readableRec t && decide (t < C.prog.types.size)) = true) (hr:fn.resultTypes = #[tb]) (hb:C.prog.underlying tb = some .bool) (hv:s.vars = [])
    (hsp:∀ ds:List (DataW H),ds.length = fn.params.size → s.fn H ds = { results:=[.lit (.bool true)],args:=ds })
    (walk:∀ (W:World) (base:Nat) (args:Array Value) (ds:List (DataW H)) (p:List MemPlace),
      (∀ (j:Nat) t v,fn.params[j]? = some t → args[j]? = some v → Value.okWide C.prog W .any base t v) →
      DataW.TrodAll enc C.prog W 0 (fun _=>true) true fn.params.toList args.toList ds p →
      (DataW.weightsEach C.prog fn.params.toList ds).all (· ≤ reachBytes) = true → X W args →
      Calls C.prog f args W fun e w=>e = .returned (.bool true) ∧ St W [] w []) :
    ReturnsInHanded {} C os f .any (fun w args=>(s.pre enc C.prog fn [] false w args ∧ X w args) ∧ sizedMet enc C.prog fn (OpenSpec.ofChange s) false w args) (s.post enc C.prog fn false true false false):=by
  refine returnsInHanded_of_change_and (C:=C) (X:=X) hX own started noInit hfn witness ?_
  intro W base args ds gs before hval hW _ hsz hx _
  have hW':=hW
  obtain ⟨p,q,hA,hV,hpq,hfz,hnd⟩:=hW
  have hV':=hV
  rw [hv] at hV'
  obtain ⟨rfl,rfl⟩:=trodVars_none hV'
  have hvt:s.plain.varTypes C.prog = []:=by unfold DataSpec.varTypes ChangeSpec.plain; rw [hv]; rfl
  rw [hvt,List.append_nil,List.append_nil] at hsz
  refine (walk W base args ds p hval hA hsz hx).mono fun e w ⟨he,hs⟩=>⟨_,he,?_⟩
  have hlen:ds.length = fn.params.size:=by
    have key:∀ {ts:List TypeId} {vs:List Value} {ds:List (DataW H)} {ps:List MemPlace},DataW.TrodAll enc C.prog W 0 (fun _=>true) true ts vs ds ps → ds.length = ts.length:=by
      intro ts
      induction ts with
      | nil=>intro vs ds ps h; cases vs <;> cases ds <;> first | rfl | exact h.elim
      | cons t ts ih =>
        intro vs ds ps h
        cases vs with
        | nil=>exact h.elim
        | cons v vs =>
          cases ds with
          | nil=>exact h.elim
          | cons d ds =>
            obtain ⟨_,_,_,h2,_⟩:=h
            simp [ih h2]
    have:=key hA
    simpa using this
  exact post_true hl ht hr hb hv (by rw [List.append_nil]; exact hsp ds hlen) hW' hs
theorem var_heap {P:Program} {w:World} {n:String} {g:Nat} {cs:Array Value} (hg:P.globalNamed n = some g) (h:w.var? P n = some cs):∃ t fz,w.heap[g]? = some (.cells cs t fz):=by
  simp only [World.var?,hg,Option.bind_some] at h
  split at h
  · rename_i c t fz hh
    cases h
    exact ⟨t,fz,hh⟩
  · cases h
end Eng
namespace Eng
open Go Go.RowKit Go.ChangeShapes Go.WideShapes Go.ChangeAt
section
variable {H:Type} {enc:TypeId × Value → H} {P:Program} {W:World} {r:Reach} {b0 t e:Nat} {v:Value} {d:DataW H} {ps:List MemPlace}
theorem op_int (ht:P.underlying t = some (.int .i64)) (hval:Value.okWide P W r b0 t v) (hd:DataW.Trod enc P W 0 (fun _=>true) true t v d ps):∃ a,v = I a ∧ R64 a:=by
  obtain ⟨a0,rfl,rfl,rfl,w0⟩:=open_int ht hval hd
  exact ⟨a0,rfl,bounds_i64 w0⟩
theorem op_u16 (ht:P.underlying t = some (.int .u16)) (hval:Value.okWide P W r b0 t v) (hd:DataW.Trod enc P W 0 (fun _=>true) true t v d ps):∃ z:Nat,v = .int .u16 (z:Int) ∧ z < 65536:=by
  obtain ⟨a0,rfl,rfl,rfl,w0⟩:=open_int ht hval hd
  have h:=bounds_u16 w0
  exact ⟨a0.toNat,by rw [Int.toNat_of_nonneg h.1],by omega⟩
end
end Eng
namespace Eng
open Go Go.RowKit Go.ChangeShapes Go.WideShapes Go.ChangeAt
section
variable {H:Type} {enc:TypeId × Value → H} {P:Program} {W:World} {r:Reach} {b0 t e:Nat} {v:Value} {d:DataW H} {ps:List MemPlace}
end
theorem rd_listedW {P:Program} {w:World} {nm:String} {g t e n fuel:Nat} {cs:Array Value} {l:List UInt32} {p:List MemPlace} (hg:P.globalNamed nm = some g) (hv:w.var? P nm = some cs)
    (ht:P.underlying t = some (.array n e)) (he:P.underlying e = some (.int .u32)) (hce:P.cellsOf e = 1)
    (hd:DataW.trod (fun _=>()) P w 0 (fun _=>true) false fuel t cs.toList = some (.agg (l.map fun z=>.lit (.int .u32 z.toNat)),p)):Rd w (some ⟨g,0,none⟩) (ws l):=by
  obtain ⟨tt,fz,hh⟩:=var_heap hg hv
  obtain ⟨xs,m,rfl,hx,hlen,hn,hel⟩:=DataW.trod_array ht hd
  refine .inr ⟨g,0,cs,tt,fz,rfl,hh,fun i v hiv=>?_⟩
  simp only [Prod.mk.injEq,DataW.agg.injEq] at hx
  obtain ⟨z,hz,rfl⟩:∃ z,l[i]? = some z ∧ W32 z = v:=by simpa [ws,List.getElem?_map] using hiv
  have hi:i < n:=by
    have h1:i < l.length:=(List.getElem?_eq_some_iff.1 hz).1
    have h2:l.length = xs.length:=by have:=congrArg List.length hx.1; simpa using this
    omega
  have h1:=hel i hi
  have h2:(xs.map (·.1))[i]? = some (.lit (.int .u32 z.toNat)):=by rw [← hx.1]; simp [hz]
  rw [List.getElem?_map] at h2
  cases hxi:xs[i]? with
  | none=>rw [hxi] at h2; cases h2
  | some y =>
    rw [hxi] at h2 h1
    obtain ⟨z',e1,e2,_⟩:=DataW.trod_int he h1
    have:z' = (z.toNat:Int):=by
      rw [e2] at h2
      simpa using h2
    subst this
    rw [hce,Nat.mul_one] at e1
    have h3:(cs.toList.drop i)[0]? = some (W32 z):=by
      have:((cs.toList.drop i).take 1)[0]? = some (W32 z):=by rw [e1]; rfl
      simpa [List.getElem?_take] using this
    rw [List.getElem?_drop] at h3
    simpa using h3
end Eng
namespace Eng
open Go Go.RowKit Go.ChangeShapes Go.WideShapes Go.ChangeAt
theorem mapM_len {α β:Type} {f:α → Option β}:∀ {l:List α} {r:List β},l.mapM f = some r → r.length = l.length
  | [],r,h=>by simp at h; subst h; rfl
  | a :: l,r,h=>by
    rw [List.mapM_cons] at h
    cases h1:f a with
    | none=>simp [h1] at h
    | some b =>
      cases h2:l.mapM f with
      | none=>simp [h1,h2] at h
      | some r2=>simp [h1,h2] at h; subst h; simp [mapM_len h2]
theorem mapM_at {α β:Type} {f:α → Option β}:∀ {l:List α} {r:List β},l.mapM f = some r → ∀ (i:Nat) (a:α),l[i]? = some a → f a = r[i]?
  | [],r,h,i,a,ha=>by simp at ha
  | b :: l,r,h,i,a,ha=>by
    rw [List.mapM_cons] at h
    cases h1:f b with
    | none=>simp [h1] at h
    | some c =>
      cases h2:l.mapM f with
      | none=>simp [h1,h2] at h
      | some r2 =>
        simp [h1,h2] at h
        subst h
        cases i with
        | zero=>simp at ha; subst ha; simpa using h1
        | succ i=>simp at ha; simpa using mapM_at h2 i a ha
theorem cells_at {w:World} {base:Nat} {a:Addr} {n:Nat} {cs:List Value} (h:w.cells? base a n = some cs):cs.length = n ∧ ∀ i v,cs[i]? = some v → w.cell? (a.add i) = some v:=by
  unfold World.cells? at h
  split at h
  · have hl:=mapM_len h
    rw [List.length_range] at hl
    refine ⟨hl,fun i v hv=>?_⟩
    have hi:i < n:=by rw [← hl]; exact (List.getElem?_eq_some_iff.1 hv).1
    rw [← hv]
    exact mapM_at h i i (List.getElem?_range hi)
  · cases h
theorem flat_at {α:Type} {s:Nat}:∀ {L:List (List α)},(∀ y ∈ L,y.length = s) → ∀ (j:Nat) (v:α),L.flatten[j]? = some v → ∃ i k,i < L.length ∧ j = i * s + k ∧ (L.getD i [])[k]? = some v
  | [],_,j,v,h=>by simp at h
  | y :: L,hL,j,v,h=>by
    have hy:=hL y (.head _)
    rw [List.flatten_cons] at h
    rcases Nat.lt_or_ge j y.length with h1 | h1
    · rw [List.getElem?_append_left h1] at h
      exact ⟨0,j,by simp,by omega,by simpa using h⟩
    · rw [List.getElem?_append_right h1] at h
      obtain ⟨i,k,h2,h3,h4⟩:=flat_at (fun z hz=>hL z (.tail _ hz)) _ v h
      refine ⟨i + 1,k,by simp; omega,?_,by simpa using h4⟩
      rw [Nat.add_mul]; omega
theorem map_of {α β:Type} {f:β → α} {p:β → Prop}:∀ {L:List α},(∀ x ∈ L,∃ q,x = f q ∧ p q) → ∃ qs:List β,L = qs.map f ∧ ∀ q ∈ qs,p q
  | [],_=>⟨[],rfl,fun _ h=>by cases h⟩
  | x :: L,h=>by
    obtain ⟨q,rfl,hq⟩:=h x (.head _)
    obtain ⟨qs,rfl,hqs⟩:=map_of fun y hy=>h y (.tail _ hy)
    exact ⟨q :: qs,rfl,fun z hz=>(List.mem_cons.1 hz).elim (fun h=>by rw [h]; exact hq) (hqs z)⟩
section
variable {H:Type} {enc:TypeId × Value → H} {P:Program} {W:World} {b0:Nat} {t e fuel:Nat} {cs:List Value} {x:DataW H × List MemPlace}
theorem td_int (ht:P.underlying t = some (.int .i64)) (h:DataW.trod enc P W b0 (fun _=>true) true fuel t cs = some x):∃ n,cs = [I n] ∧ R64 n:=by
  obtain ⟨n,h1,_,h3⟩:=DataW.trod_int ht h
  exact ⟨n,h1,bounds_i64 h3⟩
theorem td_bool (ht:P.underlying t = some .bool) (h:DataW.trod enc P W b0 (fun _=>true) true fuel t cs = some x):∃ b,cs = [.bool b]:=by
  cases fuel with
  | zero=>simp [DataW.trod] at h
  | succ n =>
    unfold DataW.trod at h
    rw [ht] at h
    split at h <;> simp_all
theorem td_u8 (ht:P.underlying t = some (.int .u8)) (h:DataW.trod enc P W b0 (fun _=>true) true fuel t cs = some x):∃ z:UInt8,cs = [B z]:=by
  obtain ⟨n,h1,_,h3⟩:=DataW.trod_int ht h
  have h4:=bounds_u8 h3
  refine ⟨UInt8.ofNat n.toNat,?_⟩
  rw [h1,B,UInt8.toNat_ofNat']
  congr 2; omega
theorem td_slice (ht:P.underlying t = some (.slice e)) (h:DataW.trod enc P W b0 (fun _=>true) true fuel t cs = some x) :
    ∃ a L c,cs = [.slice a (List.length L) c] ∧ Rd W a (List.flatten L) ∧ L.length ≤ c ∧ c ≤ maxLen ∧ ∀ y ∈ L,y.length = P.cellsOf e ∧ ∃ n z,DataW.trod enc P W b0 (fun _=>true) true n e y = some z:=by
  rcases Go.Deep.open_slice ht h with ⟨rfl,_⟩ | ⟨a,len,cap,m,n,D,Pl,rfl,hb,hl,hm,hmm,_,hx⟩
  · exact ⟨none,[],0,rfl,Rd.nil _ _,by simp,by simp,fun y hy=>by cases hy⟩
  simp only [if_true] at hmm
  rw [hmm] at hx
  let L:List (List Value):=(List.range len).map fun i=>(W.cells? b0 (a.add (i * P.cellsOf e)) (P.cellsOf e)).getD []
  have hLl:L.length = len:=by simp [L]
  have hLi:∀ i,i < len → ∃ cs',L.getD i [] = cs' ∧ W.cells? b0 (a.add (i * P.cellsOf e)) (P.cellsOf e) = some cs' ∧ ∃ z,DataW.trod enc P W b0 (fun _=>true) true n e cs' = some z:=fun i hi=>by
    obtain ⟨cs',h1,h2⟩:=hx i (by omega)
    refine ⟨cs',?_,h1,_,h2⟩
    simp only [L]
    rw [List.getD_eq_getElem?_getD,List.getElem?_map,List.getElem?_range hi,Option.map_some,h1]; rfl
  have hLe:∀ y ∈ L,y.length = P.cellsOf e ∧ ∃ n z,DataW.trod enc P W b0 (fun _=>true) true n e y = some z:=fun y hy=>by
    obtain ⟨i,hi,rfl⟩:=List.getElem_of_mem hy
    obtain ⟨cs',h1,h2,h3⟩:=hLi i (by omega)
    rw [List.getD_eq_getElem?_getD,List.getElem?_eq_getElem hi,Option.getD_some] at h1
    rw [h1]
    exact ⟨(cells_at h2).1,n,h3⟩
  refine ⟨some a,L,cap,by rw [hLl],?_,by omega,hm,hLe⟩
  have hcell:∀ j v,L.flatten[j]? = some v → W.cell? (a.add j) = some v:=fun j v hv=>by
    obtain ⟨i,k,hi,rfl,hk⟩:=flat_at (fun y hy=>(hLe y hy).1) j v hv
    obtain ⟨cs',h1,h2,_⟩:=hLi i (by omega)
    rw [h1] at hk
    have:=(cells_at h2).2 k v hk
    rwa [Go.Deep.add_add] at this
  rcases Nat.eq_zero_or_pos L.flatten.length with h0 | h0
  · rw [List.eq_nil_of_length_eq_zero h0]; exact Rd.nil _ _
  obtain ⟨v0,hv0⟩:∃ v,L.flatten[0]? = some v:=⟨L.flatten[0],List.getElem?_eq_getElem h0⟩
  have hc0:=hcell 0 v0 hv0
  obtain ⟨b,off,spot⟩:=a
  have hspot:spot = none:=by simpa [Addr.add] using World.cell?_spot hc0
  subst hspot
  have key:∃ cs t fz,W.heap[b]? = some (.cells cs t fz):=by
    rw [addr_add] at hc0
    unfold World.cell? at hc0
    cases hh:W.heap[b]? with
    | none=>simp [hh] at hc0
    | some o =>
      cases o with
      | cells cs t fz=>exact ⟨cs,t,fz,rfl⟩
      | _=>simp [hh] at hc0
  obtain ⟨cs,t,fz,hh⟩:=key
  refine .inr ⟨b,off,cs,t,fz,rfl,hh,fun i v hv=>?_⟩
  have h1:=hcell i v hv
  rw [addr_add,cell_of_row W b (off + i) cs t fz hh] at h1
  exact h1
end
section
variable {H:Type} {enc:TypeId × Value → H} {P:Program} {W:World} {r:Reach} {b0 t e:Nat} {v:Value} {d:DataW H} {ps:List MemPlace}
end
end Eng
end
section
namespace Go.Proofs.YtojohglifijnnaaGreatDoor
open Go Eng Sha Cha Rst Go.ChangeShapes Go.WideShapes Go.ChangeAt Go.RowKit
theorem own39:ownKnob Tryz.prog.godebug = none:=by kernel_rfl
theorem gStart : Tryz.prog.globalNamed "chartroom/digest.start" = some 0 := by kernel_rfl
theorem tStart:(Tryz.prog.globals[0]?).map (·.type) = some 213:=by kernel_rfl
theorem gNums : Tryz.prog.globalNamed "chartroom/digest.numbers" = some 2 := by kernel_rfl
theorem tNums:(Tryz.prog.globals[2]?).map (·.type) = some 243:=by kernel_rfl
theorem gCons : Tryz.prog.globalNamed "chartroom/cipher.constants" = some 5 := by kernel_rfl
theorem tCons:(Tryz.prog.globals[5]?).map (·.type) = some 263:=by kernel_rfl
abbrev laid39 : List (String × DataW Unit) := [("chartroom/digest.start", Rows.laid_chartroom_digest_start), ("chartroom/digest.numbers", Rows.laid_chartroom_digest_numbers), ("bytes.ErrTooLarge", Rows.laid_bytes_ErrTooLarge), ("chartroom/cipher.constants", Rows.laid_chartroom_cipher_constants)]
theorem eStart:(Rows.laid_chartroom_digest_start:DataW Unit) = .agg (init.l.map fun z=>.lit (.int .u32 z.toNat)):=by kernel_rfl
theorem eNums:(Rows.laid_chartroom_digest_numbers:DataW Unit) = .agg (K.map fun z=>.lit (.int .u32 z.toNat)):=by kernel_rfl
theorem eCons:(Rows.laid_chartroom_cipher_constants:DataW Unit) = .agg (cst.map fun z=>.lit (.int .u32 z.toNat)):=by kernel_rfl
theorem door39 (os:Os) (args:Array Value):laidMetH Tryz.prog laid39 ((World.doorLaid Tryz.prog 400 os).forCall (fun _ _=>0) ⟨#[],args,[]⟩).memory :=
  laidMetH_of_parts3 (fuel:=8) (laidMet_of_run' 8 (by kernel_rfl) (by kernel_rfl)) (by kernel_rfl) (by kernel_rfl)
theorem lc_of_laid {W:World} (h:laidMetH Tryz.prog laid39 W):LC W:=by
  rw [MakeChecks.laidMetH_plain _ _ _ (by kernel_rfl)] at h
  obtain ⟨ps,⟨g0,t0,cs0,f0,p0,q0,hg0,ht0,hv0,hd0,⟨g1,t1,cs1,f1,p1,q1,hg1,ht1,hv1,hd1,⟨g2,t2,cs2,f2,p2,q2,hg2,ht2,hv2,hd2,⟨g3,t3,cs3,f3,p3,q3,hg3,ht3,hv3,hd3,_⟩,_⟩,_⟩,_⟩,_⟩:=h
  obtain rfl:=Option.some.inj (gStart.symm.trans hg0)
  obtain rfl:=Option.some.inj (tStart.symm.trans ht0)
  obtain rfl:=Option.some.inj (gNums.symm.trans hg1)
  obtain rfl:=Option.some.inj (tNums.symm.trans ht1)
  obtain rfl:=Option.some.inj (gCons.symm.trans hg3)
  obtain rfl:=Option.some.inj (tCons.symm.trans ht3)
  rw [eStart] at hd0
  rw [eNums] at hd1
  rw [eCons] at hd3
  exact ⟨⟨rd_listedW gStart hv0 Tryz.underlying213 Tryz.underlying212 (by kernel_rfl) hd0,rd_listedW gNums hv1 Tryz.underlying243 Tryz.underlying212 (by kernel_rfl) hd1⟩,rd_listedW gCons hv3 Tryz.underlying263 Tryz.underlying212 (by kernel_rfl) hd3⟩
section
variable {H:Type} {enc:TypeId × Value → H} {P:Program} {W:World} {r:Reach} {b0 t e fuel:Nat} {v:Value} {d:DataW H} {ps:List MemPlace} {cs:List Value} {x:DataW H × List MemPlace}
theorem td_bytes0 (ht:P.underlying t = some (.slice e)) (he:P.underlying e = some (.int .u8)) 
    (h:DataW.trod enc P W 0 (fun _=>true) true fuel t cs = some x):∃ a c q,cs = [.slice a (List.length q) c] ∧ Rd W a (bs q) ∧ q.length ≤ c:=by
  obtain ⟨a,L,c,h1,h2,h3,h4,h5⟩:=td_slice ht h
  obtain ⟨q,rfl,_⟩:=map_of (f:=fun z:UInt8=>[B z]) (p:=fun _=>True) fun y hy=>by
    obtain ⟨_,n,z,hz⟩:=h5 y hy
    obtain ⟨b,hb⟩:=td_u8 he hz
    exact ⟨b,hb,trivial⟩
  have ef:∀ l:List UInt8,(l.map fun z:UInt8=>[B z]).flatten = bs l:=fun l=>by
    induction l with
    | nil=>rfl
    | cons b l ih=>rw [List.map_cons,List.flatten_cons,ih]; rfl
  rw [ef] at h2
  rw [List.length_map] at h1 h3
  exact ⟨a,c,q,h1,h2,h3⟩
theorem op_st {fs:Array Field} (ht:P.underlying t = some (.struct fs)) (hval:Value.okWide P W r b0 t v) (hd:DataW.Trod enc P W 0 (fun _=>true) true t v d ps) :
    ∃ (L:List Value) (fuel:Nat),v = .agg L.toArray ∧ DataW.trod enc P W 0 (fun _=>true) true fuel t L = some (d,ps):=by
  have h0:∃ cs,v = .agg cs:=by
    simp only [Value.okWide,ht] at hval
    obtain ⟨cs,h1,_⟩:=hval
    exact ⟨cs,h1⟩
  obtain ⟨cs,rfl⟩:=h0
  obtain ⟨fuel,hf⟩:=hd
  exact ⟨cs.toList,fuel,by simp,hf⟩
theorem dcut {L s:List Value} {a n:Nat} (b:Nat) (h:(L.drop a).take n = s) (hb:a + n = b):L.drop a = s ++ L.drop b:=by
  rw [← h,← hb,← List.drop_drop]; exact (List.take_append_drop n _).symm
set_option maxRecDepth 100000
theorem td_sig (h:DataW.trod enc Tryz.prog W 0 (fun _=>true) true fuel 59 cs = some x):∃ a b:Int,cs = [I a,I b] ∧ R64 a ∧ R64 b:=by
  obtain ⟨xs,n,_,_,hl,hn,hel⟩:=DataW.trod_struct Tryz.underlying59 h
  have hn':xs.length = 2:=hn
  rw [show (Tryz.prog).cellsOf 59 = 2 by kernel_rfl] at hl
  have h0:=hel 0 _ rfl
  have h1:=hel 1 _ rfl
  rw [List.getElem?_eq_getElem (by omega)] at h0 h1
  obtain ⟨a,e0,ha⟩:=td_int Tryz.underlying3 h0
  obtain ⟨b,e1,hb⟩:=td_int Tryz.underlying3 h1
  have c0:=dcut (L:=cs) (s:=[I a]) (a:=0) (n:=1) 1 e0 rfl
  have c1:=dcut (L:=cs) (s:=[I b]) (a:=1) (n:=1) 2 e1 rfl
  refine ⟨a,b,?_,ha,hb⟩
  rw [← List.drop_zero (l:=cs),c0,c1,List.drop_eq_nil_of_le (show cs.length ≤ 2 by omega)]; rfl
theorem td_ints0 (h:DataW.trod enc Tryz.prog W 0 (fun _=>true) true fuel 22 cs = some x):∃ a c q,cs = [.slice a (List.length q) c] ∧ Rd W a (is q) ∧ q.length ≤ c:=by
  obtain ⟨a,L,c,h1,h2,h3,h4,h5⟩:=td_slice Tryz.underlying22 h
  obtain ⟨q,rfl,hq⟩:=map_of (f:=fun z:Int=>[I z]) (p:=fun _=>True) fun y hy=>by
    obtain ⟨_,n,z,hz⟩:=h5 y hy
    obtain ⟨b,hb,_⟩:=td_int Tryz.underlying3 hz
    exact ⟨b,hb,trivial⟩
  have ef:∀ l:List Int,(l.map fun z:Int=>[I z]).flatten = is l:=fun l=>by
    induction l with
    | nil=>rfl
    | cons b l ih=>rw [List.map_cons,List.flatten_cons,ih]; rfl
  rw [ef] at h2
  rw [List.length_map] at h1 h3
  exact ⟨a,c,q,h1,h2,h3⟩
theorem td_wrap (h:DataW.trod enc Tryz.prog W 0 (fun _=>true) true fuel 72 cs = some x):∃ u a c q,cs = [I u,.slice a (List.length q) c] ∧ Rd W a (bs q) ∧ q.length ≤ c:=by
  obtain ⟨xs,n,_,_,hl,hn,hel⟩:=DataW.trod_struct Tryz.underlying72 h
  have hn':xs.length = 2:=hn
  rw [show (Tryz.prog).cellsOf 72 = 2 by kernel_rfl] at hl
  have h0:=hel 0 _ rfl
  have h1:=hel 1 _ rfl
  rw [List.getElem?_eq_getElem (by omega)] at h0 h1
  obtain ⟨v0,e0,r0⟩:=td_int Tryz.underlying3 h0
  obtain ⟨a1,c1,q1,e1,r1,l1⟩:=td_bytes0 Tryz.underlying42 Tryz.underlying5 h1
  have k0:=dcut (L:=cs) (s:=[I v0]) (a:=0) (n:=1) 1 e0 rfl
  have k1:=dcut (L:=cs) (s:=[.slice a1 q1.length c1]) (a:=1) (n:=1) 2 e1 rfl
  refine ⟨v0,a1,c1,q1,?_,r1,l1⟩
  rw [← List.drop_zero (l:=cs),k0,k1,List.drop_eq_nil_of_le (show cs.length ≤ 2 by omega)]; rfl
theorem td_ap (h:DataW.trod enc Tryz.prog W 0 (fun _=>true) true fuel 74 cs = some x):∃ z:Ap,cs = z.cell ∧ (Rd W z.a (bs z.q) ∧ z.q.length ≤ z.c):=by
  obtain ⟨xs,n,_,_,hl,hn,hel⟩:=DataW.trod_struct Tryz.underlying74 h
  have hn':xs.length = 3:=hn
  rw [show (Tryz.prog).cellsOf 74 = 5 by kernel_rfl] at hl
  have h0:=hel 0 _ rfl
  have h1:=hel 1 _ rfl
  have h2:=hel 2 _ rfl
  rw [List.getElem?_eq_getElem (by omega)] at h0 h1 h2
  obtain ⟨v0,e0,r0⟩:=td_int Tryz.underlying3 h0
  obtain ⟨v1,a1,c1,q1,e1,r1,l1⟩:=td_wrap h1
  obtain ⟨v2,u2,e2,r2,s2⟩:=td_sig h2
  have k0:=dcut (L:=cs) (s:=[I v0]) (a:=0) (n:=1) 1 e0 rfl
  have k1:=dcut (L:=cs) (s:=[I v1,.slice a1 q1.length c1]) (a:=1) (n:=2) 3 e1 rfl
  have k2:=dcut (L:=cs) (s:=[I v2,I u2]) (a:=3) (n:=2) 5 e2 rfl
  refine ⟨⟨v0,v1,a1,c1,q1,v2,u2⟩,?_,r1,l1⟩
  rw [← List.drop_zero (l:=cs),k0,k1,k2,List.drop_eq_nil_of_le (show cs.length ≤ 5 by omega)]; rfl
theorem td_vt (h:DataW.trod enc Tryz.prog W 0 (fun _=>true) true fuel 80 cs = some x):∃ z:Vt,cs = z.cell ∧ True:=by
  obtain ⟨xs,n,_,_,hl,hn,hel⟩:=DataW.trod_struct Tryz.underlying80 h
  have hn':xs.length = 3:=hn
  rw [show (Tryz.prog).cellsOf 80 = 4 by kernel_rfl] at hl
  have h0:=hel 0 _ rfl
  have h1:=hel 1 _ rfl
  have h2:=hel 2 _ rfl
  rw [List.getElem?_eq_getElem (by omega)] at h0 h1 h2
  obtain ⟨v0,e0,r0⟩:=td_int Tryz.underlying3 h0
  obtain ⟨v1,e1,r1⟩:=td_int Tryz.underlying3 h1
  obtain ⟨v2,u2,e2,r2,s2⟩:=td_sig h2
  have k0:=dcut (L:=cs) (s:=[I v0]) (a:=0) (n:=1) 1 e0 rfl
  have k1:=dcut (L:=cs) (s:=[I v1]) (a:=1) (n:=1) 2 e1 rfl
  have k2:=dcut (L:=cs) (s:=[I v2,I u2]) (a:=2) (n:=2) 4 e2 rfl
  refine ⟨⟨v0,v1,v2,u2⟩,?_,trivial⟩
  rw [← List.drop_zero (l:=cs),k0,k1,k2,List.drop_eq_nil_of_le (show cs.length ≤ 4 by omega)]; rfl
theorem td_ls (h:DataW.trod enc Tryz.prog W 0 (fun _=>true) true fuel 67 cs = some x):∃ z:Ls,cs = z.cell ∧ (R64 z.d ∧ R64 z.v ∧ R64 z.l ∧ R64 z.ver):=by
  obtain ⟨xs,n,_,_,hl,hn,hel⟩:=DataW.trod_struct Tryz.underlying67 h
  have hn':xs.length = 5:=hn
  rw [show (Tryz.prog).cellsOf 67 = 5 by kernel_rfl] at hl
  have h0:=hel 0 _ rfl
  have h1:=hel 1 _ rfl
  have h2:=hel 2 _ rfl
  have h3:=hel 3 _ rfl
  have h4:=hel 4 _ rfl
  rw [List.getElem?_eq_getElem (by omega)] at h0 h1 h2 h3 h4
  obtain ⟨v0,e0,r0⟩:=td_int Tryz.underlying3 h0
  obtain ⟨v1,e1,r1⟩:=td_int Tryz.underlying3 h1
  obtain ⟨v2,e2,r2⟩:=td_int Tryz.underlying3 h2
  obtain ⟨v3,e3,r3⟩:=td_int Tryz.underlying3 h3
  obtain ⟨v4,e4⟩:=td_bool Tryz.underlying4 h4
  have k0:=dcut (L:=cs) (s:=[I v0]) (a:=0) (n:=1) 1 e0 rfl
  have k1:=dcut (L:=cs) (s:=[I v1]) (a:=1) (n:=1) 2 e1 rfl
  have k2:=dcut (L:=cs) (s:=[I v2]) (a:=2) (n:=1) 3 e2 rfl
  have k3:=dcut (L:=cs) (s:=[I v3]) (a:=3) (n:=1) 4 e3 rfl
  have k4:=dcut (L:=cs) (s:=[.bool v4]) (a:=4) (n:=1) 5 e4 rfl
  refine ⟨⟨v0,v1,v2,v3,v4⟩,?_,r0,r1,r2,r3⟩
  rw [← List.drop_zero (l:=cs),k0,k1,k2,k3,k4,List.drop_eq_nil_of_le (show cs.length ≤ 5 by omega)]; rfl
theorem td_aps (h:DataW.trod enc Tryz.prog W 0 (fun _=>true) true fuel 27 cs = some x):∃ a c q,cs = [.slice a (List.length q) c] ∧ Rd W a (apc q) ∧ q.length ≤ c ∧ c ≤ 9223372036854775807 ∧ ∀ z ∈ q,Rd W z.a (bs z.q) ∧ z.q.length ≤ z.c:=by
  obtain ⟨a,L,c,h1,h2,h3,h4,h5⟩:=td_slice Tryz.underlying27 h
  obtain ⟨q,rfl,hq⟩:=map_of (f:=Ap.cell) (p:=fun z=>Rd W z.a (bs z.q) ∧ z.q.length ≤ z.c) fun y hy=>by
    obtain ⟨_,n,z,hz⟩:=h5 y hy
    exact td_ap hz
  rw [List.length_map] at h1 h3
  refine ⟨a,c,q,h1,by rw [apc,List.flatMap_def]; exact h2,h3,h4,hq⟩
theorem td_vts (h:DataW.trod enc Tryz.prog W 0 (fun _=>true) true fuel 28 cs = some x):∃ a c q,cs = [.slice a (List.length q) c] ∧ Rd W a (vtc q) ∧ q.length ≤ c:=by
  obtain ⟨a,L,c,h1,h2,h3,h4,h5⟩:=td_slice Tryz.underlying28 h
  obtain ⟨q,rfl,hq⟩:=map_of (f:=Vt.cell) (p:=fun _=>True) fun y hy=>by
    obtain ⟨_,n,z,hz⟩:=h5 y hy
    exact td_vt hz
  rw [List.length_map] at h1 h3
  refine ⟨a,c,q,h1,by rw [vtc,List.flatMap_def]; exact h2,h3⟩
theorem td_lss (h:DataW.trod enc Tryz.prog W 0 (fun _=>true) true fuel 51 cs = some x):∃ a c q,cs = [.slice a (List.length q) c] ∧ Rd W a (lsc q) ∧ ∀ z ∈ q,(R64 z.d ∧ R64 z.v ∧ R64 z.l ∧ R64 z.ver):=by
  obtain ⟨a,L,c,h1,h2,h3,h4,h5⟩:=td_slice Tryz.underlying51 h
  obtain ⟨q,rfl,hq⟩:=map_of (f:=Ls.cell) (p:=fun z=>(R64 z.d ∧ R64 z.v ∧ R64 z.l ∧ R64 z.ver)) fun y hy=>by
    obtain ⟨_,n,z,hz⟩:=h5 y hy
    exact td_ls hz
  rw [List.length_map] at h1 h3
  refine ⟨a,c,q,h1,by rw [lsc,List.flatMap_def]; exact h2,hq⟩
theorem td_per (h:DataW.trod enc Tryz.prog W 0 (fun _=>true) true fuel 26 cs = some x):∃ (p:Pn) (a:Option Addr) (c:Nat),cs = [I p.id,I p.rk,.slice a p.gs.length c,I p.need,I p.cool] ∧ ArgP W p a c:=by
  obtain ⟨xs,n,_,_,hl,hn,hel⟩:=DataW.trod_struct Tryz.underlying26 h
  have hn':xs.length = 5:=hn
  rw [show (Tryz.prog).cellsOf 26 = 5 by kernel_rfl] at hl
  have h0:=hel 0 _ rfl
  have h1:=hel 1 _ rfl
  have h2:=hel 2 _ rfl
  have h3:=hel 3 _ rfl
  have h4:=hel 4 _ rfl
  rw [List.getElem?_eq_getElem (by omega)] at h0 h1 h2 h3 h4
  obtain ⟨v0,e0,r0⟩:=td_int Tryz.underlying3 h0
  obtain ⟨v1,e1,r1⟩:=td_int Tryz.underlying3 h1
  obtain ⟨a2,c2,q2,e2,r2,l2⟩:=td_ints0 h2
  obtain ⟨v3,e3,r3⟩:=td_int Tryz.underlying3 h3
  obtain ⟨v4,e4,r4⟩:=td_int Tryz.underlying3 h4
  have k0:=dcut (L:=cs) (s:=[I v0]) (a:=0) (n:=1) 1 e0 rfl
  have k1:=dcut (L:=cs) (s:=[I v1]) (a:=1) (n:=1) 2 e1 rfl
  have k2:=dcut (L:=cs) (s:=[.slice a2 q2.length c2]) (a:=2) (n:=1) 3 e2 rfl
  have k3:=dcut (L:=cs) (s:=[I v3]) (a:=3) (n:=1) 4 e3 rfl
  have k4:=dcut (L:=cs) (s:=[I v4]) (a:=4) (n:=1) 5 e4 rfl
  refine ⟨⟨v0,v1,q2,v3,v4⟩,a2,c2,?_,r2,l2⟩
  rw [← List.drop_zero (l:=cs),k0,k1,k2,k3,k4,List.drop_eq_nil_of_le (show cs.length ≤ 5 by omega)]; rfl
theorem td_cas (h:DataW.trod enc Tryz.prog W 0 (fun _=>true) true fuel 30 cs = some x):∃ (c:Cs) (aa va:Option Addr) (ac vc:Nat),cs = [I c.p,I c.d,I c.v,I c.l,I c.st,.slice aa c.ap.length ac,.slice va c.vt.length vc] ∧ ArgC W c aa va ac vc:=by
  obtain ⟨xs,n,_,_,hl,hn,hel⟩:=DataW.trod_struct Tryz.underlying30 h
  have hn':xs.length = 7:=hn
  rw [show (Tryz.prog).cellsOf 30 = 7 by kernel_rfl] at hl
  have h0:=hel 0 _ rfl
  have h1:=hel 1 _ rfl
  have h2:=hel 2 _ rfl
  have h3:=hel 3 _ rfl
  have h4:=hel 4 _ rfl
  have h5:=hel 5 _ rfl
  have h6:=hel 6 _ rfl
  rw [List.getElem?_eq_getElem (by omega)] at h0 h1 h2 h3 h4 h5 h6
  obtain ⟨v0,e0,r0⟩:=td_int Tryz.underlying3 h0
  obtain ⟨v1,e1,r1⟩:=td_int Tryz.underlying3 h1
  obtain ⟨v2,e2,r2⟩:=td_int Tryz.underlying3 h2
  obtain ⟨v3,e3,r3⟩:=td_int Tryz.underlying3 h3
  obtain ⟨v4,e4,r4⟩:=td_int Tryz.underlying3 h4
  obtain ⟨a5,c5,q5,e5,r5,l5,m5,b5⟩:=td_aps h5
  obtain ⟨a6,c6,q6,e6,r6,l6⟩:=td_vts h6
  have k0:=dcut (L:=cs) (s:=[I v0]) (a:=0) (n:=1) 1 e0 rfl
  have k1:=dcut (L:=cs) (s:=[I v1]) (a:=1) (n:=1) 2 e1 rfl
  have k2:=dcut (L:=cs) (s:=[I v2]) (a:=2) (n:=1) 3 e2 rfl
  have k3:=dcut (L:=cs) (s:=[I v3]) (a:=3) (n:=1) 4 e3 rfl
  have k4:=dcut (L:=cs) (s:=[I v4]) (a:=4) (n:=1) 5 e4 rfl
  have k5:=dcut (L:=cs) (s:=[.slice a5 q5.length c5]) (a:=5) (n:=1) 6 e5 rfl
  have k6:=dcut (L:=cs) (s:=[.slice a6 q6.length c6]) (a:=6) (n:=1) 7 e6 rfl
  refine ⟨⟨v0,v1,v2,v3,v4,q5,q6⟩,a5,a6,c5,c6,?_,r5,l5,m5,r6,l6,b5,r0,r1,r2,r3,r4⟩
  rw [← List.drop_zero (l:=cs),k0,k1,k2,k3,k4,k5,k6,List.drop_eq_nil_of_le (show cs.length ≤ 7 by omega)]; rfl
theorem td_shr (h:DataW.trod enc Tryz.prog W 0 (fun _=>true) true fuel 46 cs = some x):∃ a b:Int,cs = [I a,I b]:=by
  obtain ⟨xs,n,_,_,hl,hn,hel⟩:=DataW.trod_struct Tryz.underlying46 h
  have hn':xs.length = 2:=hn
  rw [show (Tryz.prog).cellsOf 46 = 2 by kernel_rfl] at hl
  have h0:=hel 0 _ rfl
  have h1:=hel 1 _ rfl
  rw [List.getElem?_eq_getElem (by omega)] at h0 h1
  obtain ⟨v0,e0,r0⟩:=td_int Tryz.underlying3 h0
  obtain ⟨v1,e1,r1⟩:=td_int Tryz.underlying3 h1
  have k0:=dcut (L:=cs) (s:=[I v0]) (a:=0) (n:=1) 1 e0 rfl
  have k1:=dcut (L:=cs) (s:=[I v1]) (a:=1) (n:=1) 2 e1 rfl
  refine ⟨v0,v1,?_⟩
  rw [← List.drop_zero (l:=cs),k0,k1,List.drop_eq_nil_of_le (show cs.length ≤ 2 by omega)]; rfl
theorem op_person (hval:Value.okWide Tryz.prog W r b0 26 v) (hd:DataW.Trod enc Tryz.prog W 0 (fun _=>true) true 26 v d ps) :
    ∃ (p:Pn) (a:Option Addr) (c:Nat),v = .agg #[I p.id,I p.rk,.slice a p.gs.length c,I p.need,I p.cool] ∧ ArgP W p a c:=by
  obtain ⟨L,fuel,rfl,hf⟩:=op_st Tryz.underlying26 hval hd
  obtain ⟨p,a,c,rfl,h⟩:=td_per hf
  exact ⟨p,a,c,rfl,h⟩
theorem op_case (hval:Value.okWide Tryz.prog W r b0 30 v) (hd:DataW.Trod enc Tryz.prog W 0 (fun _=>true) true 30 v d ps) :
    ∃ (c:Cs) (aa va:Option Addr) (ac vc:Nat),v = .agg #[I c.p,I c.d,I c.v,I c.l,I c.st,.slice aa c.ap.length ac,.slice va c.vt.length vc] ∧ ArgC W c aa va ac vc:=by
  obtain ⟨L,fuel,rfl,hf⟩:=op_st Tryz.underlying30 hval hd
  obtain ⟨c,aa,va,ac,vc,rfl,h⟩:=td_cas hf
  exact ⟨c,aa,va,ac,vc,rfl,h⟩
theorem op_share (hval:Value.okWide Tryz.prog W r b0 46 v) (hd:DataW.Trod enc Tryz.prog W 0 (fun _=>true) true 46 v d ps) :
    ∃ a b:Int,v = .agg #[I a,I b]:=by
  obtain ⟨L,fuel,rfl,hf⟩:=op_st Tryz.underlying46 hval hd
  obtain ⟨a,b,rfl⟩:=td_shr hf
  exact ⟨a,b,rfl⟩
theorem op_listing (hval:Value.okWide Tryz.prog W r b0 67 v) (hd:DataW.Trod enc Tryz.prog W 0 (fun _=>true) true 67 v d ps) :
    ∃ z:Ls,v = .agg #[I z.d,I z.v,I z.l,I z.ver,.bool z.gone] ∧ (R64 z.d ∧ R64 z.v ∧ R64 z.l ∧ R64 z.ver):=by
  obtain ⟨L,fuel,rfl,hf⟩:=op_st Tryz.underlying67 hval hd
  obtain ⟨z,rfl,h⟩:=td_ls hf
  exact ⟨z,rfl,h⟩
theorem op_lists (hval:Value.okWide Tryz.prog W r b0 51 v) (hd:DataW.Trod enc Tryz.prog W 0 (fun _=>true) true 51 v d ps) :
    ∃ a c q,v = .slice a (List.length q) c ∧ Rd W a (lsc q) ∧ ∀ z ∈ q,(R64 z.d ∧ R64 z.v ∧ R64 z.l ∧ R64 z.ver):=by
  obtain ⟨a0,len,cap,rfl⟩:=okWide_slice Tryz.underlying51 hval
  obtain ⟨fuel,hf⟩:=hd
  obtain ⟨a,c,q,h1,h2,h3⟩:=td_lss hf
  simp only [Value.cells,List.cons.injEq,Value.slice.injEq,and_true] at h1
  obtain ⟨rfl,rfl,rfl⟩:=h1
  exact ⟨a0,cap,q,rfl,h2,h3⟩
theorem op_bool (ht:P.underlying t = some .bool) (hval:Value.okWide P W r b0 t v) (hd:DataW.Trod enc P W 0 (fun _=>true) true t v d ps):∃ b,v = .bool b:=by
  simp only [Value.okWide,ht] at hval
  simp only [Cell.okWide,Cell.ok,ht] at hval
  first | exact hval | (cases v <;> simp_all)
end
end Go.Proofs.YtojohglifijnnaaGreatDoor
end
section
namespace Rst
open Go Eng Gf Sha Sig Wr Cod Cha Go.Proofs.YtojohglifijnnaaGreatDoor
noncomputable def obE (l:List Ls) (c:Cs) (dev no x:Int):Int :=
  @ite _ (DirOk l) (Classical.propDecidable _) (@ite _ (∃ (kk:Nat) (zv zl zver:Int),l[kk]? = some ⟨dev,zv,zl,zver,false⟩) (Classical.propDecidable _) (@ite _ (ObR2 c dev no) (Classical.propDecidable _) (if pvB x = true then (@ite _ (∃ (kk:Nat) (zl zver:Int),l[kk]? = some ⟨dev,((pp 4 x.toNat:Nat):Int),zl,zver,false⟩) (Classical.propDecidable _) 0 390) else 50) 390) 390) 350
theorem obE_0 {l:List Ls} {c:Cs} {dev no x:Int} (h:obE l c dev no x = 0):DirOk l ∧ ObR2 c dev no ∧ pvB x = true ∧ ∃ (kk:Nat) (zl zver:Int),l[kk]? = some ⟨dev,((pp 4 x.toNat:Nat):Int),zl,zver,false⟩:=by
  unfold obE at h
  by_cases h1:DirOk l
  · rw [if_pos h1] at h
    by_cases h2:∃ (kk:Nat) (zv zl zver:Int),l[kk]? = some ⟨dev,zv,zl,zver,false⟩
    · rw [if_pos h2] at h
      by_cases h3:ObR2 c dev no
      · rw [if_pos h3] at h
        by_cases h4:pvB x = true
        · rw [if_pos h4] at h
          by_cases h5:∃ (kk:Nat) (zl zver:Int),l[kk]? = some ⟨dev,((pp 4 x.toNat:Nat):Int),zl,zver,false⟩
          · exact ⟨h1,h3,h4,h5⟩
          · rw [if_neg h5] at h; cases h
        · rw [if_neg h4] at h; cases h
      · rw [if_neg h3] at h; cases h
    · rw [if_neg h2] at h; cases h
  · rw [if_neg h1] at h; cases h
theorem Rd.pre {w:World} {a:Option Addr} {xs ys:List Value} (h:Rd w a (xs ++ ys)):Rd w a xs:=by
  rcases h with h | ⟨b,off,cs,t,fz,h1,h2,h3⟩
  · exact .inl (List.append_eq_nil_iff.1 h).1
  · exact .inr ⟨b,off,cs,t,fz,h1,h2,fun j v hj=>h3 j v (by rw [List.getElem?_append_left (List.getElem?_eq_some_iff.1 hj).1]; exact hj)⟩
end Rst
namespace Go.Proofs.YtojohglifijnnaaGreatDoor
open Go Eng Gf Sha Sig Wr Cod Cha Rst
set_option maxRecDepth 100000
set_option linter.all false
theorem Object_no (w:World) (c:Cs) (aa va la:Option Addr) (ac vc lc:Nat) (l:List Ls) (dev no x:Int) (hg:LC w) (hrl:Rd w la (lsc l)) (hll:l.length ≤ 1000000) (hrv:Rd w va (vtc c.vt)) (hvl:c.vt.length ≤ 1000000) (h:obE l c dev no x ≠ 0) :
    Pure Tryz.prog 23 [.agg #[I c.p,I c.d,I c.v,I c.l,I c.st,.slice aa c.ap.length ac,.slice va c.vt.length vc],.slice la l.length lc,I dev,I no,I x] w (.tuple #[.agg #[I 0,I 0,I 0,I 0,I 0,.slice none 0 0,.slice none 0 0],I (obE l c dev no x)]):=by
  unfold obE at h ⊢
  by_cases h1:DirOk l
  · rw [if_pos h1] at h ⊢
    by_cases h2:∃ (kk:Nat) (zv zl zver:Int),l[kk]? = some ⟨dev,zv,zl,zver,false⟩
    · rw [if_pos h2] at h ⊢
      obtain ⟨kk,zv,zl,zver,hz⟩:=h2
      by_cases h3:ObR2 c dev no
      · rw [if_pos h3] at h ⊢
        by_cases h4:pvB x = true
        · rw [if_pos h4] at h ⊢
          obtain ⟨n,rfl,hx0,hx1⟩:=pvB_nat h4
          rw [Int.toNat_natCast] at h ⊢
          by_cases h5:∃ (kk:Nat) (zl zver:Int),l[kk]? = some ⟨dev,((pp 4 n:Nat):Int),zl,zver,false⟩
          · rw [if_pos h5] at h; exact absurd rfl h
          · rw [if_neg h5]; exact Object_o4 w c aa va la ac vc lc l dev no n hg hrl hll hrv hvl kk zv zl zver h1 hz h3 hx0 hx1 (fun e=>h5 ⟨kk,zl,zver,by rw [e]; exact hz⟩)
        · rw [if_neg h4]; exact Object_o3 w c aa va la ac vc lc l dev no x hg hrl hll hrv hvl kk zv zl zver h1 hz h3 (by simpa using h4)
      · rw [if_neg h3]; exact Object_o2b w c aa va la ac vc lc l dev no x hg hrl hll hrv hvl kk zv zl zver h1 hz h3
    · rw [if_neg h2]
      have hno:∀ z ∈ l,z.d = dev → z.gone = true:=fun z hm e=>by
        obtain ⟨j,hj,rfl⟩:=List.getElem_of_mem hm
        cases hgn:l[j].gone with
        | true=>rfl
        | false =>
          refine absurd ⟨j,l[j].v,l[j].l,l[j].ver,?_⟩ h2
          rw [List.getElem?_eq_getElem hj,← e,← hgn]
      exact Object_o2a w c aa va la ac vc lc l dev no x hg hrl hll hrv hvl h1 hno (fidx_noob hno)
  · rw [if_neg h1]; exact Object_o1 w c aa va la ac vc lc l dev no x hg hrl hll hrv hvl h1
end Go.Proofs.YtojohglifijnnaaGreatDoor
end
