/- Joined texts: RsU RsV RsW RsX RsY RsZ RtA Rnd RtB RtC RtD RtE RtF. -/
import Derived.WalkKit
import Derived.TacticsInMore
import Derived.OrdersIn
import Derived.RangeFuncCalls
import Derived.Deep.LoopGhost
import Derived.Deep.Quiet
import Derived.KernelRfl
import Derived.Laws.BytesString
import Derived.Laws.StructEq
import Derived.MapKept
import Derived.Laws.IdiomStrings
import Derived.Recover
import Derived.RangeFuncLeaves
import Derived.ChangeKeysEq
import Derived.Maps.RangeRun
import Derived.Laws.Build
import Derived.ProofKit
import Derived.LaidMore
import Derived.LaidHandle
import Derived.OpenShut
import Derived.FnData
import Derived.SizedLaws
import Derived.ChangeMaps5
import Derived.Deep.Slices
import Derived.JoinedOf
import Derived.SevenTiedAt
import Derived.Test.YtojohglifijnnaaGreatDoorChecked
import Derived.Test.YtojohglifijnnaaGreatDoorRows
import Derived.Test.YtojohglifijnnaaGreatDoorCards
import Derived.Test.YtojohglifijnnaaGreatDoorTie
import Derived.Test.YtojohglifijnnaaGreatDoorSU4
set_option linter.all false
section
namespace Rst
open Go Eng
theorem apc_snoc (l:List Ap) (x:Ap) (cs:List Value) (h:cs = x.cell):apc l ++ cs = apc (l ++ [x]):=by rw [apc_append,h]; simp [apc]
end Rst
namespace Go.Proofs.YtojohglifijnnaaGreatDoor
open Go Eng Gf Sha Sig Wr Cod Cha Rst
set_option maxRecDepth 100000
set_option linter.all false
theorem Approve_n2 (w:World) (p:Pn) (c:Cs) (ga aa va:Option Addr) (gc ac vc:Nat) (g aT y ver x:Int) (k:List UInt8) (hg:LC w) (hk:k.length = 32) (hrg:Rd w ga (is p.gs)) (hgs:p.gs.length ≤ 1000000) (hra:Rd w aa (apc c.ap)) (hac:c.ap.length ≤ ac) (hrv:Rd w va (vtc c.vt)) (hal:c.ap.length ≤ 1000000) (hvl:c.vt.length ≤ 1000000) (hp:Prs p) (ho:¬ ApRt p c g aT y):Pure Tryz.prog 21 [.agg #[I p.id,I p.rk,.slice ga p.gs.length gc,I p.need,I p.cool],.agg #[I c.p,I c.d,I c.v,I c.l,I c.st,.slice aa c.ap.length ac,.slice va c.vt.length vc],I g,.agg #[I aT,I y],I ver,I x,.agg (bs k).toArray] w (.tuple #[.agg #[I 0,I 0,I 0,I 0,I 0,.slice none 0 0,.slice none 0 0],I 390]):=by
  have hgi:=gIx_lt g p.gs
  have hgj:=gIx_ge g p.gs
  refine enterD Tryz.func21 Tryz.ntmps21 ?_
  refine c_seq<|c_reg<|s_box rfl fun b7=>s_box rfl fun b8=>s_box rfl fun b9=>s_box rfl fun b10=>s_box rfl fun b13=>s_alloc fun b14=>s_alloc fun b15=>s_nil<|q_then<|c_seq<|c_reg<|s_y y_func<|s_deferC<|s_nil<|q_then<|c_seq<|c_reg<|s_y (y_lda (b:=b7) (cs:=#[I p.id,I p.rk,.slice ga p.gs.length gc,I p.need,I p.cool]) (hl:=rfl))<|s_pure (fun w' hw=>(by have h9:=valid_ok w' p ga gc (hrg.st hw) (by omega); rw [prsB_t.2 hp] at h9; exact h9))<|s_pure (fun w' hw=>demand_ok w' 371)<|s_nil<|q_then<|c_seq<|c_reg<|s_y y_fa<|s_y (y_ld (b:=b7) (v:=.slice ga p.gs.length gc))<|s_y (y_ld (b:=b9) (v:=I g))<|s_pure (fun w' hw=>sIx_ok w' ga p.gs gc g (hrg.st hw) (by omega))<|s_y y_as<|s_nil<|q_then<|c_seq<|c_reg<|s_y (y_lda (b:=b7) (cs:=#[I p.id,I p.rk,.slice ga p.gs.length gc,I p.need,I p.cool]) (hl:=rfl))<|s_y (y_lda (b:=b8) (cs:=#[I c.p,I c.d,I c.v,I c.l,I c.st,.slice aa c.ap.length ac,.slice va c.vt.length vc]) (hl:=rfl))<|?_
  by_cases h34:Blg p c
  · refine s_pure (fun w' hw=>(by have h9:=belongs_ok w' p c ga aa va gc ac vc hp (hrg.st hw) (hra.st hw) (hrv.st hw) hal hvl; rw [blgB_t.2 h34] at h9; exact h9))<|s_y y_mv<|s_y y_mv<|s_ifd (y_geq (p:=gIx g p.gs) (q:=0)) (fun h37=>?_) (fun h37=>?_)
    · refine s_y y_pk<|s_y y_mv<|s_y y_fa<|s_y (y_ld (b:=b8) (v:=.slice aa c.ap.length ac))<|s_y y_func<|?_
      by_cases h43:g ∈ c.ap.map Ap.g
      · refine s_pure (fun w' hw=>(by have h9:=CoF_Ap w' aa ac c.ap 60 [.pointer (some ⟨b9,0,none⟩)] (fun a=>decide (a.g = g)) (hra.st hw) (by omega) (fun x _ w2 h2=>Approve2_ok w2 b9 x g ((rd0B hw (xs:=[I g]) (.tail _ (.tail _ (.tail _ (.tail _ (.head _)))))).st h2)); rw [anyG.2 h43] at h9; exact h9))<|s_y (v:=.bool false) (y_not (b:=true))<|s_y y_pk<|s_y y_mv<|s_no<|s_no<|s_no<|s_no<|s_no<|s_y y_pk<|s_y y_mv<|s_no<|s_no<|s_no<|s_y y_pk<|s_dies (fun w' hw=>demand_dies w' 390)<|q_pt<|?_
        exact leave_P (fun w' hw=>rcApprove_P w' b15 0 390 (hw.own _ (.head _)).1) Tryz.results21 (.refl _) (.cons (rv_ca (b:=b14) (cs:=#[I 0,I 0,I 0,I 0,I 0,.slice none 0 0,.slice none 0 0]) (hl:=rfl)) (.cons (rv_cf (b:=b15) (v:=I 390)) .nil)) fun w' hw=>⟨rfl,hw.sub (List.nil_sublist _)⟩
      · refine s_pure (fun w' hw=>(by have h9:=CoF_Ap w' aa ac c.ap 60 [.pointer (some ⟨b9,0,none⟩)] (fun a=>decide (a.g = g)) (hra.st hw) (by omega) (fun x _ w2 h2=>Approve2_ok w2 b9 x g ((rd0B hw (xs:=[I g]) (.tail _ (.tail _ (.tail _ (.tail _ (.head _)))))).st h2)); rw [anyG_no h43] at h9; exact h9))<|s_y (v:=.bool true) (y_not (b:=false))<|s_y y_pk<|s_y y_mv<|s_y y_fa<|s_y (y_ld (b:=b10) (v:=I aT))<|s_y y_mv<|s_y (y_add (p:=gIx g p.gs) (q:=1))<|s_ifd (y_eql (p:=aT) (q:=(gIx g p.gs) + 1)) (fun h51=>?_) (fun h51=>?_)
        · refine s_y y_pk<|s_y y_mv<|s_y y_fa<|s_y (y_ld (b:=b10) (v:=I y))<|?_
          by_cases h56:(0:Int) ≤ y ∧ (y:Int) ≤ 2305843009213688668
          · refine s_pure (fun w' hw=>between_ok w' y 0 2305843009213688668 true ⟨fun _=>rfl,fun _=>h56⟩)<|s_y y_pk<|?_
            exact absurd (ApRt.mk ‹_› ‹_› ‹_› ‹_› ‹_›) ho
          · refine s_pure (fun w' hw=>between_ok w' y 0 2305843009213688668 false ⟨fun h9=>absurd h9 h56,fun h9=>by cases h9⟩)<|s_y y_pk<|s_dies (fun w' hw=>demand_dies w' 390)<|q_pt<|?_
            exact leave_P (fun w' hw=>rcApprove_P w' b15 0 390 (hw.own _ (.head _)).1) Tryz.results21 (.refl _) (.cons (rv_ca (b:=b14) (cs:=#[I 0,I 0,I 0,I 0,I 0,.slice none 0 0,.slice none 0 0]) (hl:=rfl)) (.cons (rv_cf (b:=b15) (v:=I 390)) .nil)) fun w' hw=>⟨rfl,hw.sub (List.nil_sublist _)⟩
        · refine s_y y_pk<|s_y y_mv<|s_no<|s_no<|s_no<|s_y y_pk<|s_dies (fun w' hw=>demand_dies w' 390)<|q_pt<|?_
          exact leave_P (fun w' hw=>rcApprove_P w' b15 0 390 (hw.own _ (.head _)).1) Tryz.results21 (.refl _) (.cons (rv_ca (b:=b14) (cs:=#[I 0,I 0,I 0,I 0,I 0,.slice none 0 0,.slice none 0 0]) (hl:=rfl)) (.cons (rv_cf (b:=b15) (v:=I 390)) .nil)) fun w' hw=>⟨rfl,hw.sub (List.nil_sublist _)⟩
    · refine s_y y_pk<|s_y y_mv<|s_no<|s_no<|s_no<|s_no<|s_no<|s_y y_pk<|s_y y_mv<|s_no<|s_no<|s_no<|s_no<|s_no<|s_y y_pk<|s_y y_mv<|s_no<|s_no<|s_no<|s_y y_pk<|s_dies (fun w' hw=>demand_dies w' 390)<|q_pt<|?_
      exact leave_P (fun w' hw=>rcApprove_P w' b15 0 390 (hw.own _ (.head _)).1) Tryz.results21 (.refl _) (.cons (rv_ca (b:=b14) (cs:=#[I 0,I 0,I 0,I 0,I 0,.slice none 0 0,.slice none 0 0]) (hl:=rfl)) (.cons (rv_cf (b:=b15) (v:=I 390)) .nil)) fun w' hw=>⟨rfl,hw.sub (List.nil_sublist _)⟩
  · refine s_pure (fun w' hw=>(by have h9:=belongs_ok w' p c ga aa va gc ac vc hp (hrg.st hw) (hra.st hw) (hrv.st hw) hal hvl; rw [blgB_f.2 h34] at h9; exact h9))<|s_y y_mv<|s_no<|s_no<|s_y y_pk<|s_y y_mv<|s_no<|s_no<|s_no<|s_no<|s_no<|s_y y_pk<|s_y y_mv<|s_no<|s_no<|s_no<|s_no<|s_no<|s_y y_pk<|s_y y_mv<|s_no<|s_no<|s_no<|s_y y_pk<|s_dies (fun w' hw=>demand_dies w' 390)<|q_pt<|?_
    exact leave_P (fun w' hw=>rcApprove_P w' b15 0 390 (hw.own _ (.head _)).1) Tryz.results21 (.refl _) (.cons (rv_ca (b:=b14) (cs:=#[I 0,I 0,I 0,I 0,I 0,.slice none 0 0,.slice none 0 0]) (hl:=rfl)) (.cons (rv_cf (b:=b15) (v:=I 390)) .nil)) fun w' hw=>⟨rfl,hw.sub (List.nil_sublist _)⟩
theorem Approve_y (w:World) (p:Pn) (c:Cs) (ga aa va:Option Addr) (gc ac vc:Nat) (g ver:Int) (k:List UInt8) (A Y x:Nat) (hg:LC w) (hk:k.length = 32) (hrg:Rd w ga (is p.gs)) (hgs:p.gs.length ≤ 1000000) (hra:Rd w aa (apc c.ap)) (hac:c.ap.length ≤ ac) (hrv:Rd w va (vtc c.vt)) (hal:c.ap.length ≤ 1000000) (hvl:c.vt.length ≤ 1000000) (hR:R5 c) (hRg:R64 g) (hp:Prs p) (ho:ApRt p c g (A:Nat) (Y:Nat)) (hx0:1 ≤ x) (hx:x < 2305843009213688669) (hv:((pp 4 x:Nat):Int) = ver):Gives Tryz.prog 21 [.agg #[I p.id,I p.rk,.slice ga p.gs.length gc,I p.need,I p.cool],.agg #[I c.p,I c.d,I c.v,I c.l,I c.st,.slice aa c.ap.length ac,.slice va c.vt.length vc],I g,.agg #[I (A:Nat),I (Y:Nat)],I ver,I (x:Nat),.agg (bs k).toArray] w [] (fun y:AX=>.tuple #[.agg #[I c.p,I c.d,I c.v,I c.l,I c.st,.slice y.aa (c.ap.length + 1) y.ac,.slice va c.vt.length vc],I 0]) (fun y=>[.row y.aa y.ac 74 5 (c.ap.length + 1) (apc (c.ap ++ [nAp c g k A Y x y.ba y.bc])),.row y.ba y.bc 5 1 (wtx c g k A Y).length (bs (wtx c g k A Y))]) (fun _=>True):=by
  have hgi:=gIx_lt g p.gs
  have hgj:=gIx_ge g p.gs
  refine enterD Tryz.func21 Tryz.ntmps21 ?_
  refine c_seq<|c_reg<|s_box rfl fun b7=>s_box rfl fun b8=>s_box rfl fun b9=>s_box rfl fun b10=>s_box rfl fun b13=>s_alloc fun b14=>s_alloc fun b15=>s_nil<|q_then<|c_seq<|c_reg<|s_y y_func<|s_deferC<|s_nil<|q_then<|c_seq<|c_reg<|s_y (y_lda (b:=b7) (cs:=#[I p.id,I p.rk,.slice ga p.gs.length gc,I p.need,I p.cool]) (hl:=rfl))<|s_pure (fun w' hw=>(by have h9:=valid_ok w' p ga gc (hrg.st hw) (by omega); rw [prsB_t.2 hp] at h9; exact h9))<|s_pure (fun w' hw=>demand_ok w' 371)<|s_nil<|q_then<|c_seq<|c_reg<|s_y y_fa<|s_y (y_ld (b:=b7) (v:=.slice ga p.gs.length gc))<|s_y (y_ld (b:=b9) (v:=I g))<|s_pure (fun w' hw=>sIx_ok w' ga p.gs gc g (hrg.st hw) (by omega))<|s_y y_as<|s_nil<|q_then<|c_seq<|c_reg<|s_y (y_lda (b:=b7) (cs:=#[I p.id,I p.rk,.slice ga p.gs.length gc,I p.need,I p.cool]) (hl:=rfl))<|s_y (y_lda (b:=b8) (cs:=#[I c.p,I c.d,I c.v,I c.l,I c.st,.slice aa c.ap.length ac,.slice va c.vt.length vc]) (hl:=rfl))<|s_pure (fun w' hw=>(by have h9:=belongs_ok w' p c ga aa va gc ac vc hp (hrg.st hw) (hra.st hw) (hrv.st hw) hal hvl; rw [blgB_t.2 ho.b] at h9; exact h9))<|s_y y_mv<|s_y y_mv<|s_kt (y_geq (p:=gIx g p.gs) (q:=0)) ho.i<|s_y y_pk<|s_y y_mv<|s_y y_fa<|s_y (y_ld (b:=b8) (v:=.slice aa c.ap.length ac))<|s_y y_func<|s_pure (fun w' hw=>(by have h9:=CoF_Ap w' aa ac c.ap 60 [.pointer (some ⟨b9,0,none⟩)] (fun a=>decide (a.g = g)) (hra.st hw) (by omega) (fun x _ w2 h2=>Approve2_ok w2 b9 x g ((rd0B hw (xs:=[I g]) (.tail _ (.tail _ (.tail _ (.tail _ (.head _)))))).st h2)); rw [anyG_no ho.n] at h9; exact h9))<|s_y (v:=.bool true) (y_not (b:=false))<|s_y y_pk<|s_y y_mv<|s_y y_fa<|s_y (y_ld (b:=b10) (v:=I (A:Nat)))<|s_y y_mv<|s_y (y_add (p:=gIx g p.gs) (q:=1))<|s_kt (y_eql (p:=(A:Nat)) (q:=(gIx g p.gs) + 1)) ho.a<|s_y y_pk<|s_y y_mv<|s_y y_fa<|s_y (y_ld (b:=b10) (v:=I (Y:Nat)))<|s_pure (fun w' hw=>between_ok w' (Y:Nat) 0 2305843009213688668 true ⟨fun _=>rfl,fun _=>ho.y⟩)<|s_y y_pk<|s_pure (fun w' hw=>demand_ok w' 390)<|s_nil<|q_then<|c_seq<|c_reg<|s_y y_mv<|s_pure (fun w' hw=>sPublic_yes w' x hx0 hx)<|s_y y_mv<|s_y y_ext<|s_y y_ext<|s_y y_as<|s_st (b:=b15) (v:=I 0) (cs:=#[I 0]) (hl:=by simp) ?_
  refine s_nil<|q_then<|c_seq<|c_reg<|s_y (y_ld (b:=b15) (v:=I 0))<|s_pure (fun w' hw=>try_ok w')<|s_nil<|q_then<|c_seq<|c_reg<|s_y y_mv<|s_y y_mv<|s_kt (y_eql (p:=(pp 4 x:Nat)) (q:=ver)) hv<|s_pure (fun w' hw=>demand_ok w' 390)<|s_nil<|q_then<|c_seq<|c_cut (R:=fun a' w'=>∃ (b18:Nat),∃ (b19:Nat),Fr 120 [(5,I (x:Nat)),(7,.pointer (some ⟨b7,0,none⟩)),(8,.pointer (some ⟨b8,0,none⟩)),(9,.pointer (some ⟨b9,0,none⟩)),(10,.pointer (some ⟨b10,0,none⟩)),(13,.pointer (some ⟨b13,0,none⟩)),(14,.pointer (some ⟨b14,0,none⟩)),(15,.pointer (some ⟨b15,0,none⟩)),(18,.pointer (some ⟨b18,0,none⟩)),(19,.pointer (some ⟨b19,0,none⟩))] [{ target:=.fn (.func 55) #[.pointer (some ⟨b15,0,none⟩)],args:=#[] }] a' ∧ St w [] w' [.blk b19 (.cells (bs (be Y 8)).toArray 107 (0,0)),.blk b18 (.cells (bs (be A 8)).toArray 107 (0,0)),.blk b15 (.cells #[I 0] 34 (0,0)),.blk b14 (.cells #[I 0,I 0,I 0,I 0,I 0,.slice none 0 0,.slice none 0 0] 30 (0,0)),.blk b13 (.cells (bs k).toArray 24 (0,0)),.blk b10 (.cells #[I (A:Nat),I (Y:Nat)] 46 (0,0)),.blk b9 (.cells #[I g] 3 (0,0)),.blk b8 (.cells #[I c.p,I c.d,I c.v,I c.l,I c.st,.slice aa c.ap.length ac,.slice va c.vt.length vc] 30 (0,0)),.blk b7 (.cells #[I p.id,I p.rk,.slice ga p.gs.length gc,I p.need,I p.cool] 26 (0,0))]) ?_ ?_
  · refine c_regL [.blk b15 (.cells #[I 0] 34 (0,0)),.blk b14 (.cells #[I 0,I 0,I 0,I 0,I 0,.slice none 0 0,.slice none 0 0] 30 (0,0)),.blk b13 (.cells (bs k).toArray 24 (0,0)),.blk b10 (.cells #[I (A:Nat),I (Y:Nat)] 46 (0,0)),.blk b9 (.cells #[I g] 3 (0,0)),.blk b8 (.cells #[I c.p,I c.d,I c.v,I c.l,I c.st,.slice aa c.ap.length ac,.slice va c.vt.length vc] 30 (0,0)),.blk b7 (.cells #[I p.id,I p.rk,.slice ga p.gs.length gc,I p.need,I p.cool] 26 (0,0))]<|r_y 0 rfl y_fa<|r_y 1 rfl (y_ld (b:=b10) (v:=I (A:Nat)))<|r_y 3 rfl y_fa<|r_y 4 rfl (y_ld (b:=b10) (v:=I (Y:Nat)))<|r_w3B 2 6 7 rfl rfl rfl ?_ ?_ ?_ (hsub:=by repeat (first | exact List.nil_sublist _ | exact List.Sublist.refl _ | apply List.Sublist.cons_cons | apply List.Sublist.cons))
    · refine s_pure (fun w' hw=>numN_ok w' A)<|r_K<|r_w3B 5 6 7 rfl rfl rfl ?_ ?_ ?_ (hsub:=by repeat (first | exact List.nil_sublist _ | exact List.Sublist.refl _ | apply List.Sublist.cons_cons | apply List.Sublist.cons))
      · refine s_pure (fun w' hw=>numN_ok w' Y)<|r_K<|r_w2 6 7 rfl rfl ?_ ?_ (hsub:=by repeat (first | exact List.nil_sublist _ | exact List.Sublist.refl _ | apply List.Sublist.cons_cons | apply List.Sublist.cons))
        · refine s_alloc fun b18=>r_K<|r_W 7 rfl<|s_alloc fun b19=>r_K<|r_W 8 rfl<|s_sta (b:=b18) (vs:=(bs (be A 8)).toArray) (cs:=(bs (List.replicate 8 0)).toArray) (h1:=fun v hv=>bs_one (by simpa using hv)) (hl:=by simp [bs_length,List.length_replicate,(be_length _ _)]) (hs1:=(by simp [bs_length,(be_length _ _)])) ?_
          refine r_K<|r_W 9 rfl<|s_sta (b:=b19) (vs:=(bs (be Y 8)).toArray) (cs:=(bs (List.replicate 8 0)).toArray) (h1:=fun v hv=>bs_one (by simpa using hv)) (hl:=by simp [bs_length,List.length_replicate,(be_length _ _)]) (hs1:=(by simp [bs_length,(be_length _ _)])) ?_
          refine r_K<|r_E<|?_
          exact fun a' w' ha hw=>⟨rfl,b18,b19,ha.weaken ⟨rfl,rfl,rfl,rfl,rfl,rfl,rfl,rfl,rfl,rfl,trivial⟩,hw⟩
        · refine s_alloc fun b19=>r_K<|r_W 6 rfl<|s_alloc fun b18=>r_K<|r_W 8 rfl<|s_sta (b:=b18) (vs:=(bs (be A 8)).toArray) (cs:=(bs (List.replicate 8 0)).toArray) (h1:=fun v hv=>bs_one (by simpa using hv)) (hl:=by simp [bs_length,List.length_replicate,(be_length _ _)]) (hs1:=(by simp [bs_length,(be_length _ _)])) ?_
          refine r_K<|r_W 9 rfl<|s_sta (b:=b19) (vs:=(bs (be Y 8)).toArray) (cs:=(bs (List.replicate 8 0)).toArray) (h1:=fun v hv=>bs_one (by simpa using hv)) (hl:=by simp [bs_length,List.length_replicate,(be_length _ _)]) (hs1:=(by simp [bs_length,(be_length _ _)])) ?_
          refine r_K<|r_E<|?_
          exact fun a' w' ha hw=>⟨rfl,b18,b19,ha.weaken ⟨rfl,rfl,rfl,rfl,rfl,rfl,rfl,rfl,rfl,rfl,trivial⟩,(hw.perm (.swap _ _ _))⟩
      · refine s_alloc fun b18=>r_K<|r_w2 5 7 rfl rfl ?_ ?_ (hsub:=by repeat (first | exact List.nil_sublist _ | exact List.Sublist.refl _ | apply List.Sublist.cons_cons | apply List.Sublist.cons))
        · refine s_pure (fun w' hw=>numN_ok w' Y)<|r_K<|r_W 7 rfl<|s_alloc fun b19=>r_K<|r_W 8 rfl<|s_sta (b:=b18) (vs:=(bs (be A 8)).toArray) (cs:=(bs (List.replicate 8 0)).toArray) (h1:=fun v hv=>bs_one (by simpa using hv)) (hl:=by simp [bs_length,List.length_replicate,(be_length _ _)]) (hs1:=(by simp [bs_length,(be_length _ _)])) ?_
          refine r_K<|r_W 9 rfl<|s_sta (b:=b19) (vs:=(bs (be Y 8)).toArray) (cs:=(bs (List.replicate 8 0)).toArray) (h1:=fun v hv=>bs_one (by simpa using hv)) (hl:=by simp [bs_length,List.length_replicate,(be_length _ _)]) (hs1:=(by simp [bs_length,(be_length _ _)])) ?_
          refine r_K<|r_E<|?_
          exact fun a' w' ha hw=>⟨rfl,b18,b19,ha.weaken ⟨rfl,rfl,rfl,rfl,rfl,rfl,rfl,rfl,rfl,rfl,trivial⟩,hw⟩
        · refine s_alloc fun b19=>r_K<|r_W 5 rfl<|s_pure (fun w' hw=>numN_ok w' Y)<|r_K<|r_W 8 rfl<|s_sta (b:=b18) (vs:=(bs (be A 8)).toArray) (cs:=(bs (List.replicate 8 0)).toArray) (h1:=fun v hv=>bs_one (by simpa using hv)) (hl:=by simp [bs_length,List.length_replicate,(be_length _ _)]) (hs1:=(by simp [bs_length,(be_length _ _)])) ?_
          refine r_K<|r_W 9 rfl<|s_sta (b:=b19) (vs:=(bs (be Y 8)).toArray) (cs:=(bs (List.replicate 8 0)).toArray) (h1:=fun v hv=>bs_one (by simpa using hv)) (hl:=by simp [bs_length,List.length_replicate,(be_length _ _)]) (hs1:=(by simp [bs_length,(be_length _ _)])) ?_
          refine r_K<|r_E<|?_
          exact fun a' w' ha hw=>⟨rfl,b18,b19,ha.weaken ⟨rfl,rfl,rfl,rfl,rfl,rfl,rfl,rfl,rfl,rfl,trivial⟩,hw⟩
      · refine s_alloc fun b19=>r_K<|r_w2 5 6 rfl rfl ?_ ?_ (hsub:=by repeat (first | exact List.nil_sublist _ | exact List.Sublist.refl _ | apply List.Sublist.cons_cons | apply List.Sublist.cons))
        · refine s_pure (fun w' hw=>numN_ok w' Y)<|r_K<|r_W 6 rfl<|s_alloc fun b18=>r_K<|r_W 8 rfl<|s_sta (b:=b18) (vs:=(bs (be A 8)).toArray) (cs:=(bs (List.replicate 8 0)).toArray) (h1:=fun v hv=>bs_one (by simpa using hv)) (hl:=by simp [bs_length,List.length_replicate,(be_length _ _)]) (hs1:=(by simp [bs_length,(be_length _ _)])) ?_
          refine r_K<|r_W 9 rfl<|s_sta (b:=b19) (vs:=(bs (be Y 8)).toArray) (cs:=(bs (List.replicate 8 0)).toArray) (h1:=fun v hv=>bs_one (by simpa using hv)) (hl:=by simp [bs_length,List.length_replicate,(be_length _ _)]) (hs1:=(by simp [bs_length,(be_length _ _)])) ?_
          refine r_K<|r_E<|?_
          exact fun a' w' ha hw=>⟨rfl,b18,b19,ha.weaken ⟨rfl,rfl,rfl,rfl,rfl,rfl,rfl,rfl,rfl,rfl,trivial⟩,(hw.perm (.swap _ _ _))⟩
        · refine s_alloc fun b18=>r_K<|r_W 5 rfl<|s_pure (fun w' hw=>numN_ok w' Y)<|r_K<|r_W 8 rfl<|s_sta (b:=b18) (vs:=(bs (be A 8)).toArray) (cs:=(bs (List.replicate 8 0)).toArray) (h1:=fun v hv=>bs_one (by simpa using hv)) (hl:=by simp [bs_length,List.length_replicate,(be_length _ _)]) (hs1:=(by simp [bs_length,(be_length _ _)])) ?_
          refine r_K<|r_W 9 rfl<|s_sta (b:=b19) (vs:=(bs (be Y 8)).toArray) (cs:=(bs (List.replicate 8 0)).toArray) (h1:=fun v hv=>bs_one (by simpa using hv)) (hl:=by simp [bs_length,List.length_replicate,(be_length _ _)]) (hs1:=(by simp [bs_length,(be_length _ _)])) ?_
          refine r_K<|r_E<|?_
          exact fun a' w' ha hw=>⟨rfl,b18,b19,ha.weaken ⟨rfl,rfl,rfl,rfl,rfl,rfl,rfl,rfl,rfl,rfl,trivial⟩,(hw.perm (.swap _ _ _))⟩
    · refine s_alloc fun b18=>r_K<|r_w2 2 7 rfl rfl ?_ ?_ (hsub:=by repeat (first | exact List.nil_sublist _ | exact List.Sublist.refl _ | apply List.Sublist.cons_cons | apply List.Sublist.cons))
      · refine s_pure (fun w' hw=>numN_ok w' A)<|r_K<|r_w2 5 7 rfl rfl ?_ ?_ (hsub:=by repeat (first | exact List.nil_sublist _ | exact List.Sublist.refl _ | apply List.Sublist.cons_cons | apply List.Sublist.cons))
        · refine s_pure (fun w' hw=>numN_ok w' Y)<|r_K<|r_W 7 rfl<|s_alloc fun b19=>r_K<|r_W 8 rfl<|s_sta (b:=b18) (vs:=(bs (be A 8)).toArray) (cs:=(bs (List.replicate 8 0)).toArray) (h1:=fun v hv=>bs_one (by simpa using hv)) (hl:=by simp [bs_length,List.length_replicate,(be_length _ _)]) (hs1:=(by simp [bs_length,(be_length _ _)])) ?_
          refine r_K<|r_W 9 rfl<|s_sta (b:=b19) (vs:=(bs (be Y 8)).toArray) (cs:=(bs (List.replicate 8 0)).toArray) (h1:=fun v hv=>bs_one (by simpa using hv)) (hl:=by simp [bs_length,List.length_replicate,(be_length _ _)]) (hs1:=(by simp [bs_length,(be_length _ _)])) ?_
          refine r_K<|r_E<|?_
          exact fun a' w' ha hw=>⟨rfl,b18,b19,ha.weaken ⟨rfl,rfl,rfl,rfl,rfl,rfl,rfl,rfl,rfl,rfl,trivial⟩,hw⟩
        · refine s_alloc fun b19=>r_K<|r_W 5 rfl<|s_pure (fun w' hw=>numN_ok w' Y)<|r_K<|r_W 8 rfl<|s_sta (b:=b18) (vs:=(bs (be A 8)).toArray) (cs:=(bs (List.replicate 8 0)).toArray) (h1:=fun v hv=>bs_one (by simpa using hv)) (hl:=by simp [bs_length,List.length_replicate,(be_length _ _)]) (hs1:=(by simp [bs_length,(be_length _ _)])) ?_
          refine r_K<|r_W 9 rfl<|s_sta (b:=b19) (vs:=(bs (be Y 8)).toArray) (cs:=(bs (List.replicate 8 0)).toArray) (h1:=fun v hv=>bs_one (by simpa using hv)) (hl:=by simp [bs_length,List.length_replicate,(be_length _ _)]) (hs1:=(by simp [bs_length,(be_length _ _)])) ?_
          refine r_K<|r_E<|?_
          exact fun a' w' ha hw=>⟨rfl,b18,b19,ha.weaken ⟨rfl,rfl,rfl,rfl,rfl,rfl,rfl,rfl,rfl,rfl,trivial⟩,hw⟩
      · refine s_alloc fun b19=>r_K<|r_W 2 rfl<|s_pure (fun w' hw=>numN_ok w' A)<|r_K<|r_W 5 rfl<|s_pure (fun w' hw=>numN_ok w' Y)<|r_K<|r_W 8 rfl<|s_sta (b:=b18) (vs:=(bs (be A 8)).toArray) (cs:=(bs (List.replicate 8 0)).toArray) (h1:=fun v hv=>bs_one (by simpa using hv)) (hl:=by simp [bs_length,List.length_replicate,(be_length _ _)]) (hs1:=(by simp [bs_length,(be_length _ _)])) ?_
        refine r_K<|r_W 9 rfl<|s_sta (b:=b19) (vs:=(bs (be Y 8)).toArray) (cs:=(bs (List.replicate 8 0)).toArray) (h1:=fun v hv=>bs_one (by simpa using hv)) (hl:=by simp [bs_length,List.length_replicate,(be_length _ _)]) (hs1:=(by simp [bs_length,(be_length _ _)])) ?_
        refine r_K<|r_E<|?_
        exact fun a' w' ha hw=>⟨rfl,b18,b19,ha.weaken ⟨rfl,rfl,rfl,rfl,rfl,rfl,rfl,rfl,rfl,rfl,trivial⟩,hw⟩
    · refine s_alloc fun b19=>r_K<|r_w2 2 6 rfl rfl ?_ ?_ (hsub:=by repeat (first | exact List.nil_sublist _ | exact List.Sublist.refl _ | apply List.Sublist.cons_cons | apply List.Sublist.cons))
      · refine s_pure (fun w' hw=>numN_ok w' A)<|r_K<|r_w2 5 6 rfl rfl ?_ ?_ (hsub:=by repeat (first | exact List.nil_sublist _ | exact List.Sublist.refl _ | apply List.Sublist.cons_cons | apply List.Sublist.cons))
        · refine s_pure (fun w' hw=>numN_ok w' Y)<|r_K<|r_W 6 rfl<|s_alloc fun b18=>r_K<|r_W 8 rfl<|s_sta (b:=b18) (vs:=(bs (be A 8)).toArray) (cs:=(bs (List.replicate 8 0)).toArray) (h1:=fun v hv=>bs_one (by simpa using hv)) (hl:=by simp [bs_length,List.length_replicate,(be_length _ _)]) (hs1:=(by simp [bs_length,(be_length _ _)])) ?_
          refine r_K<|r_W 9 rfl<|s_sta (b:=b19) (vs:=(bs (be Y 8)).toArray) (cs:=(bs (List.replicate 8 0)).toArray) (h1:=fun v hv=>bs_one (by simpa using hv)) (hl:=by simp [bs_length,List.length_replicate,(be_length _ _)]) (hs1:=(by simp [bs_length,(be_length _ _)])) ?_
          refine r_K<|r_E<|?_
          exact fun a' w' ha hw=>⟨rfl,b18,b19,ha.weaken ⟨rfl,rfl,rfl,rfl,rfl,rfl,rfl,rfl,rfl,rfl,trivial⟩,(hw.perm (.swap _ _ _))⟩
        · refine s_alloc fun b18=>r_K<|r_W 5 rfl<|s_pure (fun w' hw=>numN_ok w' Y)<|r_K<|r_W 8 rfl<|s_sta (b:=b18) (vs:=(bs (be A 8)).toArray) (cs:=(bs (List.replicate 8 0)).toArray) (h1:=fun v hv=>bs_one (by simpa using hv)) (hl:=by simp [bs_length,List.length_replicate,(be_length _ _)]) (hs1:=(by simp [bs_length,(be_length _ _)])) ?_
          refine r_K<|r_W 9 rfl<|s_sta (b:=b19) (vs:=(bs (be Y 8)).toArray) (cs:=(bs (List.replicate 8 0)).toArray) (h1:=fun v hv=>bs_one (by simpa using hv)) (hl:=by simp [bs_length,List.length_replicate,(be_length _ _)]) (hs1:=(by simp [bs_length,(be_length _ _)])) ?_
          refine r_K<|r_E<|?_
          exact fun a' w' ha hw=>⟨rfl,b18,b19,ha.weaken ⟨rfl,rfl,rfl,rfl,rfl,rfl,rfl,rfl,rfl,rfl,trivial⟩,(hw.perm (.swap _ _ _))⟩
      · refine s_alloc fun b18=>r_K<|r_W 2 rfl<|s_pure (fun w' hw=>numN_ok w' A)<|r_K<|r_W 5 rfl<|s_pure (fun w' hw=>numN_ok w' Y)<|r_K<|r_W 8 rfl<|s_sta (b:=b18) (vs:=(bs (be A 8)).toArray) (cs:=(bs (List.replicate 8 0)).toArray) (h1:=fun v hv=>bs_one (by simpa using hv)) (hl:=by simp [bs_length,List.length_replicate,(be_length _ _)]) (hs1:=(by simp [bs_length,(be_length _ _)])) ?_
        refine r_K<|r_W 9 rfl<|s_sta (b:=b19) (vs:=(bs (be Y 8)).toArray) (cs:=(bs (List.replicate 8 0)).toArray) (h1:=fun v hv=>bs_one (by simpa using hv)) (hl:=by simp [bs_length,List.length_replicate,(be_length _ _)]) (hs1:=(by simp [bs_length,(be_length _ _)])) ?_
        refine r_K<|r_E<|?_
        exact fun a' w' ha hw=>⟨rfl,b18,b19,ha.weaken ⟨rfl,rfl,rfl,rfl,rfl,rfl,rfl,rfl,rfl,rfl,trivial⟩,(hw.perm (.swap _ _ _))⟩
  rintro a8' w8' ⟨b18,b19,ha8',hw8'⟩
  refine (show CP none Tryz.prog 120 [{ target:=.fn (.func 55) #[.pointer (some ⟨b15,0,none⟩)],args:=#[] }] w [] _ _ [(5,I (x:Nat)),(7,.pointer (some ⟨b7,0,none⟩)),(8,.pointer (some ⟨b8,0,none⟩)),(9,.pointer (some ⟨b9,0,none⟩)),(10,.pointer (some ⟨b10,0,none⟩)),(13,.pointer (some ⟨b13,0,none⟩)),(14,.pointer (some ⟨b14,0,none⟩)),(15,.pointer (some ⟨b15,0,none⟩)),(18,.pointer (some ⟨b18,0,none⟩)),(19,.pointer (some ⟨b19,0,none⟩))] [.blk b19 (.cells (bs (be Y 8)).toArray 107 (0,0)),.blk b18 (.cells (bs (be A 8)).toArray 107 (0,0)),.blk b15 (.cells #[I 0] 34 (0,0)),.blk b14 (.cells #[I 0,I 0,I 0,I 0,I 0,.slice none 0 0,.slice none 0 0] 30 (0,0)),.blk b13 (.cells (bs k).toArray 24 (0,0)),.blk b10 (.cells #[I (A:Nat),I (Y:Nat)] 46 (0,0)),.blk b9 (.cells #[I g] 3 (0,0)),.blk b8 (.cells #[I c.p,I c.d,I c.v,I c.l,I c.st,.slice aa c.ap.length ac,.slice va c.vt.length vc] 30 (0,0)),.blk b7 (.cells #[I p.id,I p.rk,.slice ga p.gs.length gc,I p.need,I p.cool] 26 (0,0))] from ?_) a8' w8' ha8' hw8'
  clear ha8' hw8'
  refine c_seq<|c_reg<|s_y (y_lda (b:=b8) (cs:=#[I c.p,I c.d,I c.v,I c.l,I c.st,.slice aa c.ap.length ac,.slice va c.vt.length vc]) (hl:=rfl))<|s_y (y_ld (b:=b9) (v:=I g))<|s_gives (fun w' hw=>Message_ok w' c 0 g aa va ac vc (hg.st hw).1 hR R64_0 hRg) fun (x78:Nat) _=>s_y y_as<|s_nil<|q_then<|c_seq<|c_cut (R:=fun a' w'=>∃ (x88:Option Addr × Nat),∃ (b21:Nat),Fr 120 [(5,I (x:Nat)),(8,.pointer (some ⟨b8,0,none⟩)),(9,.pointer (some ⟨b9,0,none⟩)),(13,.pointer (some ⟨b13,0,none⟩)),(14,.pointer (some ⟨b14,0,none⟩)),(15,.pointer (some ⟨b15,0,none⟩)),(20,.slice (some ⟨x78,0,none⟩) 32 32),(21,.pointer (some ⟨b21,0,none⟩))] [{ target:=.fn (.func 55) #[.pointer (some ⟨b15,0,none⟩)],args:=#[] }] a' ∧ St w [] w' [.blk b21 (.cells #[I (wU k:Nat),.slice x88.1 ((wtx c g k A Y).length) x88.2] 72 (0,0)),.row x88.1 x88.2 5 1 ((wtx c g k A Y).length) (bs (wtx c g k A Y)),.blk x78 (.cells (bs (msg c 0 g)).toArray 95 (0,0)),.blk b15 (.cells #[I 0] 34 (0,0)),.blk b14 (.cells #[I 0,I 0,I 0,I 0,I 0,.slice none 0 0,.slice none 0 0] 30 (0,0)),.blk b9 (.cells #[I g] 3 (0,0)),.blk b8 (.cells #[I c.p,I c.d,I c.v,I c.l,I c.st,.slice aa c.ap.length ac,.slice va c.vt.length vc] 30 (0,0))]) ?_ ?_
  · refine c_regL [.blk x78 (.cells (bs (msg c 0 g)).toArray 95 (0,0)),.blk b19 (.cells (bs (be Y 8)).toArray 107 (0,0)),.blk b18 (.cells (bs (be A 8)).toArray 107 (0,0)),.blk b14 (.cells #[I 0,I 0,I 0,I 0,I 0,.slice none 0 0,.slice none 0 0] 30 (0,0)),.blk b13 (.cells (bs k).toArray 24 (0,0)),.blk b10 (.cells #[I (A:Nat),I (Y:Nat)] 46 (0,0)),.blk b9 (.cells #[I g] 3 (0,0)),.blk b8 (.cells #[I c.p,I c.d,I c.v,I c.l,I c.st,.slice aa c.ap.length ac,.slice va c.vt.length vc] 30 (0,0)),.blk b7 (.cells #[I p.id,I p.rk,.slice ga p.gs.length gc,I p.need,I p.cool] 26 (0,0))]<|r_y 0 rfl y_fa<|r_y 1 rfl (y_ld (b:=b8) (v:=I c.l))<|r_y 2 rfl (y_lda (b:=b13) (cs:=(bs k).toArray) (hl:=(hz32 hk)))<|r_y 3 rfl y_mv<|r_y 4 rfl y_sla<|r_y 5 rfl y_sla<|r_w2 6 12 rfl rfl ?_ ?_ (hsub:=by repeat (first | exact List.nil_sublist _ | exact List.Sublist.refl _ | apply List.Sublist.cons_cons | apply List.Sublist.cons))
    · refine s_bslr (cs:=[.slice (some ⟨b18,0,none⟩) 8 8,.slice (some ⟨b19,0,none⟩) 8 8]) fun b86=>r_K<|r_w2 7 12 rfl rfl ?_ ?_ (hsub:=by repeat (first | exact List.nil_sublist _ | exact List.Sublist.refl _ | apply List.Sublist.cons_cons | apply List.Sublist.cons))
      · refine s_gives (fun w' hw=>concat2 w' (some ⟨b86,0,none⟩) (some ⟨b18,0,none⟩) (some ⟨b19,0,none⟩) 2 8 8 8 8 16 (be A 8) (be Y 8) (bdy A Y) (be_length _ _) (be_length _ _) rfl (bdy_length _ _) (by decide) (rdR (.head _) w' hw) (rd_blkB (e:=107) (.tail _ (.tail _ (.tail _ (.head _)))) w' hw) (rd_blkB (e:=107) (.tail _ (.tail _ (.head _))) w' hw)) fun (x87:Option Addr × Nat) _=>r_K<|r_w2 8 12 rfl rfl ?_ ?_ (hsub:=by repeat (first | exact List.nil_sublist _ | exact List.Sublist.refl _ | apply List.Sublist.cons_cons | apply List.Sublist.cons))
        · refine s_gives (fun w' hw=>wrapQ w' c.l k (msg c 0 g) (bdy A Y) (wtx c g k A Y) (some ⟨x78,0,none⟩) x87.1 32 x87.2 32 16 (hg.st hw) ho.b.fl hk (msg_length _ _ _) (bdy_length _ _) rfl (rd_blkB (e:=95) (.tail _ (.tail _ (.head _))) w' hw) (by decide) (rdR (.head _) w' hw) (by decide)) fun (x88:Option Addr × Nat) _=>r_K<|r_y 9 rfl y_mv<|r_y 10 rfl y_ext<|r_y 11 rfl y_ext<|r_W 12 rfl<|s_alloc fun b21=>r_K<|r_W 13 rfl<|s_sta (b:=b21) (vs:=#[I (wU k:Nat),.slice x88.1 ((wtx c g k A Y).length) x88.2]) (cs:=#[I 0,.slice none 0 0]) (h1:=one_allA rfl) (hl:=rfl) (hs1:=rfl) ?_
          refine r_K<|r_W 14 rfl<|s_st (b:=b15) (v:=I 0) (cs:=#[I 0]) (hl:=by simp) ?_
          refine r_K<|r_E<|?_
          exact fun a' w' ha hw=>⟨rfl,x88,b21,ha.weaken ⟨rfl,rfl,rfl,rfl,rfl,rfl,rfl,rfl,trivial⟩,(hw.sub (l':=[.blk b21 (.cells #[I (wU k:Nat),.slice x88.1 ((wtx c g k A Y).length) x88.2] 72 (0,0)),.row x88.1 x88.2 5 1 ((wtx c g k A Y).length) (bs (wtx c g k A Y)),.blk x78 (.cells (bs (msg c 0 g)).toArray 95 (0,0)),.blk b15 (.cells #[I 0] 34 (0,0)),.blk b14 (.cells #[I 0,I 0,I 0,I 0,I 0,.slice none 0 0,.slice none 0 0] 30 (0,0)),.blk b9 (.cells #[I g] 3 (0,0)),.blk b8 (.cells #[I c.p,I c.d,I c.v,I c.l,I c.st,.slice aa c.ap.length ac,.slice va c.vt.length vc] 30 (0,0))]) (by repeat (first | exact List.nil_sublist _ | exact List.Sublist.refl _ | apply List.Sublist.cons_cons | apply List.Sublist.cons)))⟩
        · refine s_alloc fun b21=>r_K<|r_W 8 rfl<|s_gives (fun w' hw=>wrapQ w' c.l k (msg c 0 g) (bdy A Y) (wtx c g k A Y) (some ⟨x78,0,none⟩) x87.1 32 x87.2 32 16 (hg.st hw) ho.b.fl hk (msg_length _ _ _) (bdy_length _ _) rfl (rd_blkB (e:=95) (.tail _ (.tail _ (.tail _ (.head _)))) w' hw) (by decide) (rdR (.tail _ (.head _)) w' hw) (by decide)) fun (x88:Option Addr × Nat) _=>r_K<|r_y 9 rfl y_mv<|r_y 10 rfl y_ext<|r_y 11 rfl y_ext<|r_W 13 rfl<|s_sta (b:=b21) (vs:=#[I (wU k:Nat),.slice x88.1 ((wtx c g k A Y).length) x88.2]) (cs:=#[I 0,.slice none 0 0]) (h1:=one_allA rfl) (hl:=rfl) (hs1:=rfl) ?_
          refine r_K<|r_W 14 rfl<|s_st (b:=b15) (v:=I 0) (cs:=#[I 0]) (hl:=by simp) ?_
          refine r_K<|r_E<|?_
          exact fun a' w' ha hw=>⟨rfl,x88,b21,ha.weaken ⟨rfl,rfl,rfl,rfl,rfl,rfl,rfl,rfl,trivial⟩,((hw.sub (l':=[.row x88.1 x88.2 5 1 ((wtx c g k A Y).length) (bs (wtx c g k A Y)),.blk b21 (.cells #[I (wU k:Nat),.slice x88.1 ((wtx c g k A Y).length) x88.2] 72 (0,0)),.blk x78 (.cells (bs (msg c 0 g)).toArray 95 (0,0)),.blk b15 (.cells #[I 0] 34 (0,0)),.blk b14 (.cells #[I 0,I 0,I 0,I 0,I 0,.slice none 0 0,.slice none 0 0] 30 (0,0)),.blk b9 (.cells #[I g] 3 (0,0)),.blk b8 (.cells #[I c.p,I c.d,I c.v,I c.l,I c.st,.slice aa c.ap.length ac,.slice va c.vt.length vc] 30 (0,0))]) (by repeat (first | exact List.nil_sublist _ | exact List.Sublist.refl _ | apply List.Sublist.cons_cons | apply List.Sublist.cons))).perm (.swap _ _ _))⟩
      · refine s_alloc fun b21=>r_K<|r_W 7 rfl<|s_gives (fun w' hw=>concat2 w' (some ⟨b86,0,none⟩) (some ⟨b18,0,none⟩) (some ⟨b19,0,none⟩) 2 8 8 8 8 16 (be A 8) (be Y 8) (bdy A Y) (be_length _ _) (be_length _ _) rfl (bdy_length _ _) (by decide) (rdR (.tail _ (.head _)) w' hw) (rd_blkB (e:=107) (.tail _ (.tail _ (.tail _ (.tail _ (.head _))))) w' hw) (rd_blkB (e:=107) (.tail _ (.tail _ (.tail _ (.head _)))) w' hw)) fun (x87:Option Addr × Nat) _=>r_K<|r_W 8 rfl<|s_gives (fun w' hw=>wrapQ w' c.l k (msg c 0 g) (bdy A Y) (wtx c g k A Y) (some ⟨x78,0,none⟩) x87.1 32 x87.2 32 16 (hg.st hw) ho.b.fl hk (msg_length _ _ _) (bdy_length _ _) rfl (rd_blkB (e:=95) (.tail _ (.tail _ (.tail _ (.head _)))) w' hw) (by decide) (rdR (.head _) w' hw) (by decide)) fun (x88:Option Addr × Nat) _=>r_K<|r_y 9 rfl y_mv<|r_y 10 rfl y_ext<|r_y 11 rfl y_ext<|r_W 13 rfl<|s_sta (b:=b21) (vs:=#[I (wU k:Nat),.slice x88.1 ((wtx c g k A Y).length) x88.2]) (cs:=#[I 0,.slice none 0 0]) (h1:=one_allA rfl) (hl:=rfl) (hs1:=rfl) ?_
        refine r_K<|r_W 14 rfl<|s_st (b:=b15) (v:=I 0) (cs:=#[I 0]) (hl:=by simp) ?_
        refine r_K<|r_E<|?_
        exact fun a' w' ha hw=>⟨rfl,x88,b21,ha.weaken ⟨rfl,rfl,rfl,rfl,rfl,rfl,rfl,rfl,trivial⟩,((hw.sub (l':=[.row x88.1 x88.2 5 1 ((wtx c g k A Y).length) (bs (wtx c g k A Y)),.blk b21 (.cells #[I (wU k:Nat),.slice x88.1 ((wtx c g k A Y).length) x88.2] 72 (0,0)),.blk x78 (.cells (bs (msg c 0 g)).toArray 95 (0,0)),.blk b15 (.cells #[I 0] 34 (0,0)),.blk b14 (.cells #[I 0,I 0,I 0,I 0,I 0,.slice none 0 0,.slice none 0 0] 30 (0,0)),.blk b9 (.cells #[I g] 3 (0,0)),.blk b8 (.cells #[I c.p,I c.d,I c.v,I c.l,I c.st,.slice aa c.ap.length ac,.slice va c.vt.length vc] 30 (0,0))]) (by repeat (first | exact List.nil_sublist _ | exact List.Sublist.refl _ | apply List.Sublist.cons_cons | apply List.Sublist.cons))).perm (.swap _ _ _))⟩
    · refine s_alloc fun b21=>r_K<|r_W 6 rfl<|s_bslr (cs:=[.slice (some ⟨b18,0,none⟩) 8 8,.slice (some ⟨b19,0,none⟩) 8 8]) fun b86=>r_K<|r_W 7 rfl<|s_gives (fun w' hw=>concat2 w' (some ⟨b86,0,none⟩) (some ⟨b18,0,none⟩) (some ⟨b19,0,none⟩) 2 8 8 8 8 16 (be A 8) (be Y 8) (bdy A Y) (be_length _ _) (be_length _ _) rfl (bdy_length _ _) (by decide) (rdR (.head _) w' hw) (rd_blkB (e:=107) (.tail _ (.tail _ (.tail _ (.tail _ (.head _))))) w' hw) (rd_blkB (e:=107) (.tail _ (.tail _ (.tail _ (.head _)))) w' hw)) fun (x87:Option Addr × Nat) _=>r_K<|r_W 8 rfl<|s_gives (fun w' hw=>wrapQ w' c.l k (msg c 0 g) (bdy A Y) (wtx c g k A Y) (some ⟨x78,0,none⟩) x87.1 32 x87.2 32 16 (hg.st hw) ho.b.fl hk (msg_length _ _ _) (bdy_length _ _) rfl (rd_blkB (e:=95) (.tail _ (.tail _ (.tail _ (.head _)))) w' hw) (by decide) (rdR (.head _) w' hw) (by decide)) fun (x88:Option Addr × Nat) _=>r_K<|r_y 9 rfl y_mv<|r_y 10 rfl y_ext<|r_y 11 rfl y_ext<|r_W 13 rfl<|s_sta (b:=b21) (vs:=#[I (wU k:Nat),.slice x88.1 ((wtx c g k A Y).length) x88.2]) (cs:=#[I 0,.slice none 0 0]) (h1:=one_allA rfl) (hl:=rfl) (hs1:=rfl) ?_
      refine r_K<|r_W 14 rfl<|s_st (b:=b15) (v:=I 0) (cs:=#[I 0]) (hl:=by simp) ?_
      refine r_K<|r_E<|?_
      exact fun a' w' ha hw=>⟨rfl,x88,b21,ha.weaken ⟨rfl,rfl,rfl,rfl,rfl,rfl,rfl,rfl,trivial⟩,((hw.sub (l':=[.row x88.1 x88.2 5 1 ((wtx c g k A Y).length) (bs (wtx c g k A Y)),.blk b21 (.cells #[I (wU k:Nat),.slice x88.1 ((wtx c g k A Y).length) x88.2] 72 (0,0)),.blk x78 (.cells (bs (msg c 0 g)).toArray 95 (0,0)),.blk b15 (.cells #[I 0] 34 (0,0)),.blk b14 (.cells #[I 0,I 0,I 0,I 0,I 0,.slice none 0 0,.slice none 0 0] 30 (0,0)),.blk b9 (.cells #[I g] 3 (0,0)),.blk b8 (.cells #[I c.p,I c.d,I c.v,I c.l,I c.st,.slice aa c.ap.length ac,.slice va c.vt.length vc] 30 (0,0))]) (by repeat (first | exact List.nil_sublist _ | exact List.Sublist.refl _ | apply List.Sublist.cons_cons | apply List.Sublist.cons))).perm (.swap _ _ _))⟩
  rintro a10' w10' ⟨x88,b21,ha10',hw10'⟩
  refine (show CP none Tryz.prog 120 [{ target:=.fn (.func 55) #[.pointer (some ⟨b15,0,none⟩)],args:=#[] }] w [] _ _ [(5,I (x:Nat)),(8,.pointer (some ⟨b8,0,none⟩)),(9,.pointer (some ⟨b9,0,none⟩)),(13,.pointer (some ⟨b13,0,none⟩)),(14,.pointer (some ⟨b14,0,none⟩)),(15,.pointer (some ⟨b15,0,none⟩)),(20,.slice (some ⟨x78,0,none⟩) 32 32),(21,.pointer (some ⟨b21,0,none⟩))] [.blk b21 (.cells #[I (wU k:Nat),.slice x88.1 ((wtx c g k A Y).length) x88.2] 72 (0,0)),.row x88.1 x88.2 5 1 ((wtx c g k A Y).length) (bs (wtx c g k A Y)),.blk x78 (.cells (bs (msg c 0 g)).toArray 95 (0,0)),.blk b15 (.cells #[I 0] 34 (0,0)),.blk b14 (.cells #[I 0,I 0,I 0,I 0,I 0,.slice none 0 0,.slice none 0 0] 30 (0,0)),.blk b9 (.cells #[I g] 3 (0,0)),.blk b8 (.cells #[I c.p,I c.d,I c.v,I c.l,I c.st,.slice aa c.ap.length ac,.slice va c.vt.length vc] 30 (0,0))] from ?_) a10' w10' ha10' hw10'
  clear ha10' hw10'
  refine c_seq<|c_reg<|s_y (y_ld (b:=b15) (v:=I 0))<|s_pure (fun w' hw=>try_ok w')<|s_nil<|q_then<|c_seq<|c_reg<|s_y y_fa<|s_y (y_ld (b:=b21) (v:=I (wU k:Nat)))<|s_pure (fun w' hw=>numN_ok w' (wU k))<|s_alloc fun b22=>s_sta (b:=b22) (vs:=(bs (be (wU k) 8)).toArray) (cs:=(bs (List.replicate 8 0)).toArray) (h1:=fun v hv=>bs_one (by simpa using hv)) (hl:=by simp [bs_length,List.length_replicate,(be_length _ _)]) (hs1:=(by simp [bs_length,(be_length _ _)])) ?_
  refine s_nil<|q_then<|c_seq<|c_cut (R:=fun a' w'=>∃ (b23:Nat),Fr 120 [(8,.pointer (some ⟨b8,0,none⟩)),(9,.pointer (some ⟨b9,0,none⟩)),(14,.pointer (some ⟨b14,0,none⟩)),(15,.pointer (some ⟨b15,0,none⟩)),(21,.pointer (some ⟨b21,0,none⟩)),(23,.pointer (some ⟨b23,0,none⟩))] [{ target:=.fn (.func 55) #[.pointer (some ⟨b15,0,none⟩)],args:=#[] }] a' ∧ St w [] w' [.blk b23 (.cells #[I (sgR x (sgt c g k A Y):Nat),I (sgS x (sgt c g k A Y):Nat)] 59 (0,0)),.blk b21 (.cells #[I (wU k:Nat),.slice x88.1 ((wtx c g k A Y).length) x88.2] 72 (0,0)),.row x88.1 x88.2 5 1 ((wtx c g k A Y).length) (bs (wtx c g k A Y)),.blk b15 (.cells #[I 0] 34 (0,0)),.blk b14 (.cells #[I 0,I 0,I 0,I 0,I 0,.slice none 0 0,.slice none 0 0] 30 (0,0)),.blk b9 (.cells #[I g] 3 (0,0)),.blk b8 (.cells #[I c.p,I c.d,I c.v,I c.l,I c.st,.slice aa c.ap.length ac,.slice va c.vt.length vc] 30 (0,0))]) ?_ ?_
  · refine c_regL [.blk b22 (.cells (bs (be (wU k) 8)).toArray 107 (0,0)),.blk b21 (.cells #[I (wU k:Nat),.slice x88.1 ((wtx c g k A Y).length) x88.2] 72 (0,0)),.row x88.1 x88.2 5 1 ((wtx c g k A Y).length) (bs (wtx c g k A Y)),.blk x78 (.cells (bs (msg c 0 g)).toArray 95 (0,0)),.blk b14 (.cells #[I 0,I 0,I 0,I 0,I 0,.slice none 0 0,.slice none 0 0] 30 (0,0)),.blk b9 (.cells #[I g] 3 (0,0)),.blk b8 (.cells #[I c.p,I c.d,I c.v,I c.l,I c.st,.slice aa c.ap.length ac,.slice va c.vt.length vc] 30 (0,0))]<|r_y 0 rfl y_mv<|r_y 1 rfl y_mv<|r_y 2 rfl y_sla<|r_y 3 rfl y_fa<|r_y 4 rfl (y_ld (b:=b21) (v:=.slice x88.1 ((wtx c g k A Y).length) x88.2))<|r_w2 5 11 rfl rfl ?_ ?_ (hsub:=by repeat (first | exact List.nil_sublist _ | exact List.Sublist.refl _ | apply List.Sublist.cons_cons | apply List.Sublist.cons))
    · refine s_bslr (cs:=[.slice (some ⟨x78,0,none⟩) 32 32,.slice (some ⟨b22,0,none⟩) 8 8,.slice x88.1 ((wtx c g k A Y).length) x88.2]) fun b102=>r_K<|r_w2 6 11 rfl rfl ?_ ?_ (hsub:=by repeat (first | exact List.nil_sublist _ | exact List.Sublist.refl _ | apply List.Sublist.cons_cons | apply List.Sublist.cons))
      · refine s_gives (fun w' hw=>concat3 w' (some ⟨b102,0,none⟩) (some ⟨x78,0,none⟩) (some ⟨b22,0,none⟩) x88.1 3 32 32 8 8 ((wtx c g k A Y).length) x88.2 72 (msg c 0 g) (be (wU k) 8) (wtx c g k A Y) (sgt c g k A Y) (msg_length _ _ _) (be_length _ _) rfl rfl (sgt_length _ _ _ _ _) (by decide) (rdR (.head _) w' hw) (rd_blkB (e:=95) (.tail _ (.tail _ (.tail _ (.tail _ (.head _))))) w' hw) (rd_blkB (e:=107) (.tail _ (.head _)) w' hw) (rdR (.tail _ (.tail _ (.tail _ (.head _)))) w' hw)) fun (x103:Option Addr × Nat) _=>r_K<|r_w2 7 11 rfl rfl ?_ ?_ (hsub:=by repeat (first | exact List.nil_sublist _ | exact List.Sublist.refl _ | apply List.Sublist.cons_cons | apply List.Sublist.cons))
        · refine s_pure (fun w' hw=>signQ w' x103.1 x103.2 72 x (sgt c g k A Y) (hg.st hw).1 (sgt_length _ _ _ _ _) (rdR (.head _) w' hw) (by decide) hx0 hx)<|r_K<|r_y 8 rfl y_mv<|r_y 9 rfl y_ext<|r_y 10 rfl y_ext<|r_W 11 rfl<|s_alloc fun b23=>r_K<|r_W 12 rfl<|s_sta (b:=b23) (vs:=#[I (sgR x (sgt c g k A Y):Nat),I (sgS x (sgt c g k A Y):Nat)]) (cs:=#[I 0,I 0]) (h1:=one_allA rfl) (hl:=rfl) (hs1:=rfl) ?_
          refine r_K<|r_W 13 rfl<|s_st (b:=b15) (v:=I 0) (cs:=#[I 0]) (hl:=by simp) ?_
          refine r_K<|r_E<|?_
          exact fun a' w' ha hw=>⟨rfl,b23,ha.weaken ⟨rfl,rfl,rfl,rfl,rfl,rfl,trivial⟩,(hw.sub (l':=[.blk b23 (.cells #[I (sgR x (sgt c g k A Y):Nat),I (sgS x (sgt c g k A Y):Nat)] 59 (0,0)),.blk b21 (.cells #[I (wU k:Nat),.slice x88.1 ((wtx c g k A Y).length) x88.2] 72 (0,0)),.row x88.1 x88.2 5 1 ((wtx c g k A Y).length) (bs (wtx c g k A Y)),.blk b15 (.cells #[I 0] 34 (0,0)),.blk b14 (.cells #[I 0,I 0,I 0,I 0,I 0,.slice none 0 0,.slice none 0 0] 30 (0,0)),.blk b9 (.cells #[I g] 3 (0,0)),.blk b8 (.cells #[I c.p,I c.d,I c.v,I c.l,I c.st,.slice aa c.ap.length ac,.slice va c.vt.length vc] 30 (0,0))]) (by repeat (first | exact List.nil_sublist _ | exact List.Sublist.refl _ | apply List.Sublist.cons_cons | apply List.Sublist.cons)))⟩
        · refine s_alloc fun b23=>r_K<|r_W 7 rfl<|s_pure (fun w' hw=>signQ w' x103.1 x103.2 72 x (sgt c g k A Y) (hg.st hw).1 (sgt_length _ _ _ _ _) (rdR (.tail _ (.head _)) w' hw) (by decide) hx0 hx)<|r_K<|r_y 8 rfl y_mv<|r_y 9 rfl y_ext<|r_y 10 rfl y_ext<|r_W 12 rfl<|s_sta (b:=b23) (vs:=#[I (sgR x (sgt c g k A Y):Nat),I (sgS x (sgt c g k A Y):Nat)]) (cs:=#[I 0,I 0]) (h1:=one_allA rfl) (hl:=rfl) (hs1:=rfl) ?_
          refine r_K<|r_W 13 rfl<|s_st (b:=b15) (v:=I 0) (cs:=#[I 0]) (hl:=by simp) ?_
          refine r_K<|r_E<|?_
          exact fun a' w' ha hw=>⟨rfl,b23,ha.weaken ⟨rfl,rfl,rfl,rfl,rfl,rfl,trivial⟩,(hw.sub (l':=[.blk b23 (.cells #[I (sgR x (sgt c g k A Y):Nat),I (sgS x (sgt c g k A Y):Nat)] 59 (0,0)),.blk b21 (.cells #[I (wU k:Nat),.slice x88.1 ((wtx c g k A Y).length) x88.2] 72 (0,0)),.row x88.1 x88.2 5 1 ((wtx c g k A Y).length) (bs (wtx c g k A Y)),.blk b15 (.cells #[I 0] 34 (0,0)),.blk b14 (.cells #[I 0,I 0,I 0,I 0,I 0,.slice none 0 0,.slice none 0 0] 30 (0,0)),.blk b9 (.cells #[I g] 3 (0,0)),.blk b8 (.cells #[I c.p,I c.d,I c.v,I c.l,I c.st,.slice aa c.ap.length ac,.slice va c.vt.length vc] 30 (0,0))]) (by repeat (first | exact List.nil_sublist _ | exact List.Sublist.refl _ | apply List.Sublist.cons_cons | apply List.Sublist.cons)))⟩
      · refine s_alloc fun b23=>r_K<|r_W 6 rfl<|s_gives (fun w' hw=>concat3 w' (some ⟨b102,0,none⟩) (some ⟨x78,0,none⟩) (some ⟨b22,0,none⟩) x88.1 3 32 32 8 8 ((wtx c g k A Y).length) x88.2 72 (msg c 0 g) (be (wU k) 8) (wtx c g k A Y) (sgt c g k A Y) (msg_length _ _ _) (be_length _ _) rfl rfl (sgt_length _ _ _ _ _) (by decide) (rdR (.tail _ (.head _)) w' hw) (rd_blkB (e:=95) (.tail _ (.tail _ (.tail _ (.tail _ (.tail _ (.head _)))))) w' hw) (rd_blkB (e:=107) (.tail _ (.tail _ (.head _))) w' hw) (rdR (.tail _ (.tail _ (.tail _ (.tail _ (.head _))))) w' hw)) fun (x103:Option Addr × Nat) _=>r_K<|r_W 7 rfl<|s_pure (fun w' hw=>signQ w' x103.1 x103.2 72 x (sgt c g k A Y) (hg.st hw).1 (sgt_length _ _ _ _ _) (rdR (.head _) w' hw) (by decide) hx0 hx)<|r_K<|r_y 8 rfl y_mv<|r_y 9 rfl y_ext<|r_y 10 rfl y_ext<|r_W 12 rfl<|s_sta (b:=b23) (vs:=#[I (sgR x (sgt c g k A Y):Nat),I (sgS x (sgt c g k A Y):Nat)]) (cs:=#[I 0,I 0]) (h1:=one_allA rfl) (hl:=rfl) (hs1:=rfl) ?_
        refine r_K<|r_W 13 rfl<|s_st (b:=b15) (v:=I 0) (cs:=#[I 0]) (hl:=by simp) ?_
        refine r_K<|r_E<|?_
        exact fun a' w' ha hw=>⟨rfl,b23,ha.weaken ⟨rfl,rfl,rfl,rfl,rfl,rfl,trivial⟩,(hw.sub (l':=[.blk b23 (.cells #[I (sgR x (sgt c g k A Y):Nat),I (sgS x (sgt c g k A Y):Nat)] 59 (0,0)),.blk b21 (.cells #[I (wU k:Nat),.slice x88.1 ((wtx c g k A Y).length) x88.2] 72 (0,0)),.row x88.1 x88.2 5 1 ((wtx c g k A Y).length) (bs (wtx c g k A Y)),.blk b15 (.cells #[I 0] 34 (0,0)),.blk b14 (.cells #[I 0,I 0,I 0,I 0,I 0,.slice none 0 0,.slice none 0 0] 30 (0,0)),.blk b9 (.cells #[I g] 3 (0,0)),.blk b8 (.cells #[I c.p,I c.d,I c.v,I c.l,I c.st,.slice aa c.ap.length ac,.slice va c.vt.length vc] 30 (0,0))]) (by repeat (first | exact List.nil_sublist _ | exact List.Sublist.refl _ | apply List.Sublist.cons_cons | apply List.Sublist.cons)))⟩
    · refine s_alloc fun b23=>r_K<|r_W 5 rfl<|s_bslr (cs:=[.slice (some ⟨x78,0,none⟩) 32 32,.slice (some ⟨b22,0,none⟩) 8 8,.slice x88.1 ((wtx c g k A Y).length) x88.2]) fun b102=>r_K<|r_W 6 rfl<|s_gives (fun w' hw=>concat3 w' (some ⟨b102,0,none⟩) (some ⟨x78,0,none⟩) (some ⟨b22,0,none⟩) x88.1 3 32 32 8 8 ((wtx c g k A Y).length) x88.2 72 (msg c 0 g) (be (wU k) 8) (wtx c g k A Y) (sgt c g k A Y) (msg_length _ _ _) (be_length _ _) rfl rfl (sgt_length _ _ _ _ _) (by decide) (rdR (.head _) w' hw) (rd_blkB (e:=95) (.tail _ (.tail _ (.tail _ (.tail _ (.tail _ (.head _)))))) w' hw) (rd_blkB (e:=107) (.tail _ (.tail _ (.head _))) w' hw) (rdR (.tail _ (.tail _ (.tail _ (.tail _ (.head _))))) w' hw)) fun (x103:Option Addr × Nat) _=>r_K<|r_W 7 rfl<|s_pure (fun w' hw=>signQ w' x103.1 x103.2 72 x (sgt c g k A Y) (hg.st hw).1 (sgt_length _ _ _ _ _) (rdR (.head _) w' hw) (by decide) hx0 hx)<|r_K<|r_y 8 rfl y_mv<|r_y 9 rfl y_ext<|r_y 10 rfl y_ext<|r_W 12 rfl<|s_sta (b:=b23) (vs:=#[I (sgR x (sgt c g k A Y):Nat),I (sgS x (sgt c g k A Y):Nat)]) (cs:=#[I 0,I 0]) (h1:=one_allA rfl) (hl:=rfl) (hs1:=rfl) ?_
      refine r_K<|r_W 13 rfl<|s_st (b:=b15) (v:=I 0) (cs:=#[I 0]) (hl:=by simp) ?_
      refine r_K<|r_E<|?_
      exact fun a' w' ha hw=>⟨rfl,b23,ha.weaken ⟨rfl,rfl,rfl,rfl,rfl,rfl,trivial⟩,(hw.sub (l':=[.blk b23 (.cells #[I (sgR x (sgt c g k A Y):Nat),I (sgS x (sgt c g k A Y):Nat)] 59 (0,0)),.blk b21 (.cells #[I (wU k:Nat),.slice x88.1 ((wtx c g k A Y).length) x88.2] 72 (0,0)),.row x88.1 x88.2 5 1 ((wtx c g k A Y).length) (bs (wtx c g k A Y)),.blk b15 (.cells #[I 0] 34 (0,0)),.blk b14 (.cells #[I 0,I 0,I 0,I 0,I 0,.slice none 0 0,.slice none 0 0] 30 (0,0)),.blk b9 (.cells #[I g] 3 (0,0)),.blk b8 (.cells #[I c.p,I c.d,I c.v,I c.l,I c.st,.slice aa c.ap.length ac,.slice va c.vt.length vc] 30 (0,0))]) (by repeat (first | exact List.nil_sublist _ | exact List.Sublist.refl _ | apply List.Sublist.cons_cons | apply List.Sublist.cons)))⟩
  rintro a13' w13' ⟨b23,ha13',hw13'⟩
  refine (show CP none Tryz.prog 120 [{ target:=.fn (.func 55) #[.pointer (some ⟨b15,0,none⟩)],args:=#[] }] w [] _ _ [(8,.pointer (some ⟨b8,0,none⟩)),(9,.pointer (some ⟨b9,0,none⟩)),(14,.pointer (some ⟨b14,0,none⟩)),(15,.pointer (some ⟨b15,0,none⟩)),(21,.pointer (some ⟨b21,0,none⟩)),(23,.pointer (some ⟨b23,0,none⟩))] [.blk b23 (.cells #[I (sgR x (sgt c g k A Y):Nat),I (sgS x (sgt c g k A Y):Nat)] 59 (0,0)),.blk b21 (.cells #[I (wU k:Nat),.slice x88.1 ((wtx c g k A Y).length) x88.2] 72 (0,0)),.row x88.1 x88.2 5 1 ((wtx c g k A Y).length) (bs (wtx c g k A Y)),.blk b15 (.cells #[I 0] 34 (0,0)),.blk b14 (.cells #[I 0,I 0,I 0,I 0,I 0,.slice none 0 0,.slice none 0 0] 30 (0,0)),.blk b9 (.cells #[I g] 3 (0,0)),.blk b8 (.cells #[I c.p,I c.d,I c.v,I c.l,I c.st,.slice aa c.ap.length ac,.slice va c.vt.length vc] 30 (0,0))] from ?_) a13' w13' ha13' hw13'
  clear ha13' hw13'
  refine c_seq<|c_reg<|s_y (y_ld (b:=b15) (v:=I 0))<|s_pure (fun w' hw=>try_ok w')<|s_nil<|q_then<|c_seq<|c_cut (R:=fun a' w'=>∃ (b117:Nat),∃ (c117:Nat),Fr 120 [(8,.pointer (some ⟨b8,0,none⟩)),(14,.pointer (some ⟨b14,0,none⟩)),(15,.pointer (some ⟨b15,0,none⟩))] [{ target:=.fn (.func 55) #[.pointer (some ⟨b15,0,none⟩)],args:=#[] }] a' ∧ St w [] w' [.row (some ⟨b117,0,none⟩) c117 74 5 (c.ap.length + 1) (apc (c.ap ++ [nAp c g k A Y x x88.1 x88.2])),.row x88.1 x88.2 5 1 ((wtx c g k A Y).length) (bs (wtx c g k A Y)),.blk b15 (.cells #[I 0] 34 (0,0)),.blk b14 (.cells #[I 0,I 0,I 0,I 0,I 0,.slice none 0 0,.slice none 0 0] 30 (0,0)),.blk b8 (.cells #[I c.p,I c.d,I c.v,I c.l,I c.st,.slice (some ⟨b117,0,none⟩) (c.ap.length + 1) c117,.slice va c.vt.length vc] 30 (0,0))]) ?_ ?_
  · refine c_regGB [.blk b23 (.cells #[I (sgR x (sgt c g k A Y):Nat),I (sgS x (sgt c g k A Y):Nat)] 59 (0,0)),.blk b21 (.cells #[I (wU k:Nat),.slice x88.1 ((wtx c g k A Y).length) x88.2] 72 (0,0)),.row x88.1 x88.2 5 1 ((wtx c g k A Y).length) (bs (wtx c g k A Y)),.blk b15 (.cells #[I 0] 34 (0,0)),.blk b14 (.cells #[I 0,I 0,I 0,I 0,I 0,.slice none 0 0,.slice none 0 0] 30 (0,0)),.blk b9 (.cells #[I g] 3 (0,0)),.blk b8 (.cells #[I c.p,I c.d,I c.v,I c.l,I c.st,.slice aa c.ap.length ac,.slice va c.vt.length vc] 30 (0,0))] (.cons_cons _ (.cons_cons _ (.cons_cons _ (.cons_cons _ (.cons_cons _ (.cons_cons _ (.cons_cons _ (List.nil_sublist _)))))))) 10<|f_y 0 rfl y_fa<|f_y 1 rfl (y_ld (b:=b8) (v:=.slice aa c.ap.length ac))<|f_y 3 rfl (y_ld (b:=b9) (v:=I g))<|f_y 4 rfl (y_lda (b:=b21) (cs:=#[I (wU k:Nat),.slice x88.1 ((wtx c g k A Y).length) x88.2]) (hl:=rfl))<|f_y 5 rfl (y_lda (b:=b23) (cs:=#[I (sgR x (sgt c g k A Y):Nat),I (sgS x (sgt c g k A Y):Nat)]) (hl:=rfl))<|f_y 6 rfl (y_bapr (cs:=[I g,I (wU k:Nat),.slice x88.1 ((wtx c g k A Y).length) x88.2,I (sgR x (sgt c g k A Y):Nat),I (sgS x (sgt c g k A Y):Nat)]))<|f_w2 2 7 rfl rfl ?_ ?_ (hsub:=by repeat (first | exact List.nil_sublist _ | exact List.Sublist.refl _ | apply List.Sublist.cons_cons | apply List.Sublist.cons))
    · refine s_pure (fun w' hw=>ClipA_ok w' aa c.ap.length ac hac)<|f_kkB<|f_w 7 rfl (hsub:=by repeat (first | exact List.nil_sublist _ | exact List.Sublist.refl _ | apply List.Sublist.cons_cons | apply List.Sublist.cons))<|s_bslr (cs:=[I g,I (wU k:Nat),.slice x88.1 ((wtx c g k A Y).length) x88.2,I (sgR x (sgt c g k A Y):Nat),I (sgS x (sgt c g k A Y):Nat)]) fun b116=>f_kkB<|f_w 8 rfl (hsub:=by repeat (first | exact List.nil_sublist _ | exact List.Sublist.refl _ | apply List.Sublist.cons_cons | apply List.Sublist.cons))<|s_appN (m:=1) (xs:=apc c.ap) (rdW0 hra) (fun w' hw=>Src.slice (rdR (.head _) w' hw) rfl) (hl:=apc_length _) (hud:=.inl ⟨_,rfl⟩) fun b117 c117=>?_
      rw [show apc c.ap ++ [I g,I (wU k:Nat),.slice x88.1 ((wtx c g k A Y).length) x88.2,I (sgR x (sgt c g k A Y):Nat),I (sgS x (sgt c g k A Y):Nat)] = apc (c.ap ++ [nAp c g k A Y x x88.1 x88.2]) from apc_snoc c.ap _ _ rfl]
      refine f_kkB<|f_y 9 rfl y_fa<|f_w 10 rfl (hsub:=by repeat (first | exact List.nil_sublist _ | exact List.Sublist.refl _ | apply List.Sublist.cons_cons | apply List.Sublist.cons))<|s_st (b:=b8) (v:=.slice (some ⟨b117,0,none⟩) (c.ap.length + 1) c117) (cs:=#[I c.p,I c.d,I c.v,I c.l,I c.st,.slice aa c.ap.length ac,.slice va c.vt.length vc]) (hl:=by simp) ?_
      refine f_z<|?_
      exact fun a' w' ha hw=>⟨rfl,b117,c117,ha.weaken ⟨rfl,rfl,rfl,trivial⟩,(hw.sub (l':=[.row (some ⟨b117,0,none⟩) c117 74 5 (c.ap.length + 1) (apc (c.ap ++ [nAp c g k A Y x x88.1 x88.2])),.row x88.1 x88.2 5 1 ((wtx c g k A Y).length) (bs (wtx c g k A Y)),.blk b15 (.cells #[I 0] 34 (0,0)),.blk b14 (.cells #[I 0,I 0,I 0,I 0,I 0,.slice none 0 0,.slice none 0 0] 30 (0,0)),.blk b8 (.cells #[I c.p,I c.d,I c.v,I c.l,I c.st,.slice (some ⟨b117,0,none⟩) (c.ap.length + 1) c117,.slice va c.vt.length vc] 30 (0,0))]) (by repeat (first | exact List.nil_sublist _ | exact List.Sublist.refl _ | apply List.Sublist.cons_cons | apply List.Sublist.cons)))⟩
    · refine s_bslr (cs:=[I g,I (wU k:Nat),.slice x88.1 ((wtx c g k A Y).length) x88.2,I (sgR x (sgt c g k A Y):Nat),I (sgS x (sgt c g k A Y):Nat)]) fun b116=>f_kkB<|f_w 2 rfl (hsub:=by repeat (first | exact List.nil_sublist _ | exact List.Sublist.refl _ | apply List.Sublist.cons_cons | apply List.Sublist.cons))<|s_pure (fun w' hw=>ClipA_ok w' aa c.ap.length ac hac)<|f_kkB<|f_w 8 rfl (hsub:=by repeat (first | exact List.nil_sublist _ | exact List.Sublist.refl _ | apply List.Sublist.cons_cons | apply List.Sublist.cons))<|s_appN (m:=1) (xs:=apc c.ap) (rdW0 hra) (fun w' hw=>Src.slice (rdR (.head _) w' hw) rfl) (hl:=apc_length _) (hud:=.inl ⟨_,rfl⟩) fun b117 c117=>?_
      rw [show apc c.ap ++ [I g,I (wU k:Nat),.slice x88.1 ((wtx c g k A Y).length) x88.2,I (sgR x (sgt c g k A Y):Nat),I (sgS x (sgt c g k A Y):Nat)] = apc (c.ap ++ [nAp c g k A Y x x88.1 x88.2]) from apc_snoc c.ap _ _ rfl]
      refine f_kkB<|f_y 9 rfl y_fa<|f_w 10 rfl (hsub:=by repeat (first | exact List.nil_sublist _ | exact List.Sublist.refl _ | apply List.Sublist.cons_cons | apply List.Sublist.cons))<|s_st (b:=b8) (v:=.slice (some ⟨b117,0,none⟩) (c.ap.length + 1) c117) (cs:=#[I c.p,I c.d,I c.v,I c.l,I c.st,.slice aa c.ap.length ac,.slice va c.vt.length vc]) (hl:=by simp) ?_
      refine f_z<|?_
      exact fun a' w' ha hw=>⟨rfl,b117,c117,ha.weaken ⟨rfl,rfl,rfl,trivial⟩,(hw.sub (l':=[.row (some ⟨b117,0,none⟩) c117 74 5 (c.ap.length + 1) (apc (c.ap ++ [nAp c g k A Y x x88.1 x88.2])),.row x88.1 x88.2 5 1 ((wtx c g k A Y).length) (bs (wtx c g k A Y)),.blk b15 (.cells #[I 0] 34 (0,0)),.blk b14 (.cells #[I 0,I 0,I 0,I 0,I 0,.slice none 0 0,.slice none 0 0] 30 (0,0)),.blk b8 (.cells #[I c.p,I c.d,I c.v,I c.l,I c.st,.slice (some ⟨b117,0,none⟩) (c.ap.length + 1) c117,.slice va c.vt.length vc] 30 (0,0))]) (by repeat (first | exact List.nil_sublist _ | exact List.Sublist.refl _ | apply List.Sublist.cons_cons | apply List.Sublist.cons)))⟩
  rintro a15' w15' ⟨b117,c117,ha15',hw15'⟩
  refine (show CP none Tryz.prog 120 [{ target:=.fn (.func 55) #[.pointer (some ⟨b15,0,none⟩)],args:=#[] }] w [] _ _ [(8,.pointer (some ⟨b8,0,none⟩)),(14,.pointer (some ⟨b14,0,none⟩)),(15,.pointer (some ⟨b15,0,none⟩))] [.row (some ⟨b117,0,none⟩) c117 74 5 (c.ap.length + 1) (apc (c.ap ++ [nAp c g k A Y x x88.1 x88.2])),.row x88.1 x88.2 5 1 ((wtx c g k A Y).length) (bs (wtx c g k A Y)),.blk b15 (.cells #[I 0] 34 (0,0)),.blk b14 (.cells #[I 0,I 0,I 0,I 0,I 0,.slice none 0 0,.slice none 0 0] 30 (0,0)),.blk b8 (.cells #[I c.p,I c.d,I c.v,I c.l,I c.st,.slice (some ⟨b117,0,none⟩) (c.ap.length + 1) c117,.slice va c.vt.length vc] 30 (0,0))] from ?_) a15' w15' ha15' hw15'
  clear ha15' hw15'
  refine c_seq<|c_reg<|s_y (y_lda (b:=b8) (cs:=#[I c.p,I c.d,I c.v,I c.l,I c.st,.slice (some ⟨b117,0,none⟩) (c.ap.length + 1) c117,.slice va c.vt.length vc]) (hl:=rfl))<|s_sta (b:=b14) (vs:=#[I c.p,I c.d,I c.v,I c.l,I c.st,.slice (some ⟨b117,0,none⟩) (c.ap.length + 1) c117,.slice va c.vt.length vc]) (cs:=#[I 0,I 0,I 0,I 0,I 0,.slice none 0 0,.slice none 0 0]) (h1:=one_allA rfl) (hl:=rfl) (hs1:=rfl) ?_
  refine s_st (b:=b15) (v:=I 0) (cs:=#[I 0]) (hl:=by simp) ?_
  refine s_nil<|q_then<|c_ret<|?_
  exact leave_R (cs:=[.pointer (some ⟨b15,0,none⟩)]) (fun w' hw=>rcApprove_R w' b15) Tryz.results21 (.cons (rv_ca (b:=b14) (cs:=#[I c.p,I c.d,I c.v,I c.l,I c.st,.slice (some ⟨b117,0,none⟩) (c.ap.length + 1) c117,.slice va c.vt.length vc]) (hl:=rfl)) (.cons (rv_cf (v:=I 0)) .nil)) fun w' hw=>⟨⟨some ⟨b117,0,none⟩,c117,x88.1,x88.2⟩,trivial,rfl,hw.sub (by repeat (first | exact List.nil_sublist _ | exact List.Sublist.refl _ | apply List.Sublist.cons_cons | apply List.Sublist.cons))⟩
end Go.Proofs.YtojohglifijnnaaGreatDoor
end
section
namespace Rst
open Go Eng Gf
theorem scI {x:Int}:sc x = true ↔ (0:Int) ≤ x ∧ (x:Int) ≤ 2305843009213688668:=by
  unfold sc; simp only [Bool.and_eq_true,decide_eq_true_eq]; omega
end Rst
namespace Go.Proofs.YtojohglifijnnaaGreatDoor
open Go Eng Gf Sha Sig Wr Cod Cha Rst
set_option maxRecDepth 100000
set_option linter.all false
end Go.Proofs.YtojohglifijnnaaGreatDoor
end
section
namespace Rst
open Go Eng Gf
/-- a valid listing -/
structure LsRt (x:Ls):Prop where
  d:0 ≤ x.d ∧ x.d < 512
  v:chk x.v = 0
  l:chk x.l = 0
  ver:1 ≤ x.ver ∧ x.ver ≤ 1048576
noncomputable def lsB (x:Ls):Bool:=@decide (LsRt x) (Classical.propDecidable _)
theorem lsB_t {x:Ls}:lsB x = true ↔ LsRt x:=@decide_eq_true_iff _ (Classical.propDecidable _)
theorem lsB_f {x:Ls}:lsB x = false ↔ ¬ LsRt x:=@decide_eq_false_iff_not _ (Classical.propDecidable _)
theorem lsB_last {x:Ls} (h1:0 ≤ x.d ∧ x.d < 512) (h2:chk x.v = 0) (h3:chk x.l = 0) (h4:1 ≤ x.ver):lsB x = decide (x.ver ≤ 1048576):=by
  by_cases h:x.ver ≤ 1048576
  · rw [decide_eq_true h]; exact lsB_t.2 ⟨h1,h2,h3,h4,h⟩
  · rw [decide_eq_false h]; exact lsB_f.2 fun h9=>h h9.ver.2
def lsL (l:List Ls) (k:Nat):Int:=if k = 0 then -1 else (l.getD (k - 1) default).d
theorem lsL_succ {l:List Ls} {k:Nat} {x:Ls} (hx:l[k]? = some x):lsL l (k + 1) = x.d:=by
  rw [lsL,if_neg (by omega),Nat.add_sub_cancel,List.getD_eq_getElem?_getD,hx]; rfl
theorem lsL_pos {l:List Ls} {k:Nat} {y:Ls} (hk:k ≠ 0) (hy:l[k - 1]? = some y):lsL l k = y.d:=by
  rw [lsL,if_neg hk,List.getD_eq_getElem?_getD,hy]; rfl
def DirOk (l:List Ls):Prop:=∀ k x,l[k]? = some x → LsRt x ∧ lsL l k < x.d
noncomputable def dirE (l:List Ls):Int:=@ite _ (DirOk l) (Classical.propDecidable _) 0 350
theorem dirE_t {l:List Ls} (h:DirOk l):dirE l = 0:=if_pos h
theorem dirE_f {l:List Ls} (h:¬ DirOk l):dirE l = 350:=if_neg h
end Rst
namespace Go.Proofs.YtojohglifijnnaaGreatDoor
open Go Eng Gf Sha Sig Wr Cod Cha Rst
set_option maxRecDepth 100000
set_option linter.all false
theorem y_blst {n:Nat} {D:List Deferred} {W:World} {Bo:List Nat} {F:List (Nat × Value)} {l:SH} {d:Option Tmp} {ty:TypeId} {ps:String} {af:Array Edge} {g:Option (Nat × Bool)} {parts:Array (Nat × Operand)} {vs:List (Nat × Value)} {cs:List Value}
    (hp:evP F parts.toList = some vs:=by rfl) (hf:fillL (fun i=>(#[(0,1),(1,1),(2,1),(3,1),(4,1)]:Array (Nat × Nat))[i]?) [I 0,I 0,I 0,I 0,.bool false] vs = some cs:=by rfl) :
    Y Tryz.prog n D W Bo ⟨d,.build 67 parts,ty,ps,af,g⟩ F l (.agg cs.toArray) :=
  y_blds Tryz.underlying67 (fun w=>by kernel_rfl) hp hf
theorem fits_ok' (w:World) (x:Ls):Pure Tryz.prog 144 [.agg #[I x.d,I x.v,I x.l,I x.ver,.bool x.gone]] w (.bool (lsB x)):=by
  refine enter Tryz.func144 Tryz.ntmps144 ?_
  refine c_seq<|c_reg<|s_box rfl fun b1=>s_y y_as<|s_nil<|q_then<|c_seq<|c_reg<|s_y y_fa<|s_y (y_ld (b:=b1) (v:=I x.d))<|s_ifd (y_leq (p:=0) (q:=x.d)) (fun h5=>?_) (fun h5=>?_)
  · refine s_y y_mv<|s_y y_fa<|s_y (y_ld (b:=b1) (v:=I x.d))<|s_ifd (y_lss (p:=x.d) (q:=512)) (fun h9=>?_) (fun h9=>?_)
    · refine s_y y_pk<|s_y y_mv<|s_y y_fa<|s_y (y_ld (b:=b1) (v:=I x.v))<|s_pure (fun w' hw=>gCheck_ok w' x.v)<|s_ifd (y_eql (p:=chk x.v) (q:=0)) (fun h15=>?_) (fun h15=>?_)
      · refine s_y y_pk<|s_y y_mv<|s_y y_fa<|s_y (y_ld (b:=b1) (v:=I x.l))<|s_pure (fun w' hw=>gCheck_ok w' x.l)<|s_ifd (y_eql (p:=chk x.l) (q:=0)) (fun h21=>?_) (fun h21=>?_)
        · refine s_y y_pk<|s_y y_mv<|s_y y_fa<|s_y (y_ld (b:=b1) (v:=I x.ver))<|s_ifd (y_leq (p:=1) (q:=x.ver)) (fun h26=>?_) (fun h26=>?_)
          · refine s_y y_pk<|s_y y_mv<|s_y y_fa<|s_y (y_ld (b:=b1) (v:=I x.ver))<|s_y (y_leq (p:=x.ver) (q:=1048576))<|s_y y_pk<|s_y y_as<|s_nil<|q_then<|c_ret<|?_
            exact ret1 Tryz.results144 rv_t fun w' hw=>⟨by rw [show lsB x = decide (x.ver ≤ 1048576) from lsB_last (by omega) (by omega) (by omega) (by omega)],hw.sub (List.nil_sublist _)⟩
          · refine s_y y_pk<|s_y y_mv<|s_no<|s_no<|s_no<|s_y y_pk<|s_y y_as<|s_nil<|q_then<|c_ret<|?_
            exact ret1 Tryz.results144 rv_t fun w' hw=>⟨by rw [show lsB x = false from lsB_f.2 fun h9=>by have h1:=h9.d; have h2:=h9.v; have h3:=h9.l; have h4:=h9.ver; omega],hw.sub (List.nil_sublist _)⟩
        · refine s_y y_pk<|s_y y_mv<|s_no<|s_no<|s_no<|s_y y_pk<|s_y y_mv<|s_no<|s_no<|s_no<|s_y y_pk<|s_y y_as<|s_nil<|q_then<|c_ret<|?_
          exact ret1 Tryz.results144 rv_t fun w' hw=>⟨by rw [show lsB x = false from lsB_f.2 fun h9=>by have h1:=h9.d; have h2:=h9.v; have h3:=h9.l; have h4:=h9.ver; omega],hw.sub (List.nil_sublist _)⟩
      · refine s_y y_pk<|s_y y_mv<|s_no<|s_no<|s_no<|s_no<|s_y y_pk<|s_y y_mv<|s_no<|s_no<|s_no<|s_y y_pk<|s_y y_mv<|s_no<|s_no<|s_no<|s_y y_pk<|s_y y_as<|s_nil<|q_then<|c_ret<|?_
        exact ret1 Tryz.results144 rv_t fun w' hw=>⟨by rw [show lsB x = false from lsB_f.2 fun h9=>by have h1:=h9.d; have h2:=h9.v; have h3:=h9.l; have h4:=h9.ver; omega],hw.sub (List.nil_sublist _)⟩
    · refine s_y y_pk<|s_y y_mv<|s_no<|s_no<|s_no<|s_no<|s_y y_pk<|s_y y_mv<|s_no<|s_no<|s_no<|s_no<|s_y y_pk<|s_y y_mv<|s_no<|s_no<|s_no<|s_y y_pk<|s_y y_mv<|s_no<|s_no<|s_no<|s_y y_pk<|s_y y_as<|s_nil<|q_then<|c_ret<|?_
      exact ret1 Tryz.results144 rv_t fun w' hw=>⟨by rw [show lsB x = false from lsB_f.2 fun h9=>by have h1:=h9.d; have h2:=h9.v; have h3:=h9.l; have h4:=h9.ver; omega],hw.sub (List.nil_sublist _)⟩
  · refine s_y y_mv<|s_no<|s_no<|s_no<|s_y y_pk<|s_y y_mv<|s_no<|s_no<|s_no<|s_no<|s_y y_pk<|s_y y_mv<|s_no<|s_no<|s_no<|s_no<|s_y y_pk<|s_y y_mv<|s_no<|s_no<|s_no<|s_y y_pk<|s_y y_mv<|s_no<|s_no<|s_no<|s_y y_pk<|s_y y_as<|s_nil<|q_then<|c_ret<|?_
    exact ret1 Tryz.results144 rv_t fun w' hw=>⟨by rw [show lsB x = false from lsB_f.2 fun h9=>by have h1:=h9.d; have h2:=h9.v; have h3:=h9.l; have h4:=h9.ver; omega],hw.sub (List.nil_sublist _)⟩
theorem fits_ok (w:World) (x:Ls):Pure Tryz.prog 144 [.agg x.cell.toArray] w (.bool (lsB x)):=fits_ok' w x
theorem dirCheck_ok (w:World) (l:List Ls) (a:Option Addr) (c:Nat) (hr:Rd w a (lsc l)) (hl:l.length ≤ 1000000):Pure Tryz.prog 75 [.slice a l.length c] w (I (dirE l)):=by
  refine enter Tryz.func75 Tryz.ntmps75 ?_
  refine c_seq<|c_reg<|s_y y_as<|s_nil<|q_then<|c_seq<|c_reg<|s_y y_as<|s_nil<|q_then<|c_seq<|c_seq<|c_reg<|s_y y_mv<|s_y y_len<|s_y y_mv<|s_nil<|q_then<|c_block<|?_
  refine c_loop (fun k:Nat=>[(3,I (lsL l k)),(6,.slice a l.length c),(7,I l.length),(8,I k)]) (fun k=>[]) (fun k=>k ≤ l.length ∧ ∀ j,j < k → ∀ x,l[j]? = some x → LsRt x ∧ lsL l j < x.d) (fun k=>l.length - k) 0 ⟨by omega,fun _ h=>by omega⟩ ⟨rfl,rfl,rfl,rfl,trivial⟩ (by repeat (first | exact List.nil_sublist _ | exact List.Sublist.refl _ | apply List.Sublist.cons_cons | apply List.Sublist.cons)) ?_
  intro k ⟨hk,hinv⟩
  refine c_seq<|c_reg<|s_y (y_lss (p:=k) (q:=l.length))<|s_nil<|q_then<|c_seq<|c_ifd (fun h9=>?_) (fun h9=>?_)
  · have hkq:k < l.length:=by omega
    obtain ⟨x,hx⟩:∃ x,l[k]? = some x:=⟨_,List.getElem?_eq_getElem hkq⟩
    refine c_skip<|q_then<|c_seq<|c_block<|c_seq<|c_reg<|s_y (y_ixs (xs:=lsc l) (i:=((k:Nat):Int)) (hr:=(rdW0 hr)) (hl:=by rw [lsc_length]; omega))<|s_y (y_ldra (i:=k * 5) (cs:=x.cell) (rdW0 hr) rfl (fun j v h=>lsc_at hx h))<|s_alloc fun b5=>s_sta (b:=b5) (vs:=#[I x.d,I x.v,I x.l,I x.ver,.bool x.gone]) (cs:=#[I 0,I 0,I 0,I 0,.bool false]) (h1:=one_allA rfl) (hl:=rfl) (hs1:=rfl) ?_
    refine s_nil<|q_then<|c_seq<|c_seq<|c_reg<|s_y (y_lda (b:=b5) (cs:=#[I x.d,I x.v,I x.l,I x.ver,.bool x.gone]) (hl:=rfl))<|?_
    by_cases h13:LsRt x
    · refine s_pure (fun w' hw=>(by have h9:=fits_ok w' x; rw [lsB_t.2 h13] at h9; exact h9))<|s_y (v:=.bool false) (y_not (b:=true))<|s_y y_mv<|s_y y_fa<|s_y (y_ld (b:=b5) (v:=I x.d))<|s_y y_mv<|s_y (y_leq (p:=x.d) (q:=(lsL l k)))<|s_y y_pk<|s_nil<|q_then<|c_ifd (fun h20=>?_) (fun h20=>?_)
      · refine c_seq<|c_reg<|s_y y_as<|s_nil<|q_then<|c_ret<|q_ret<|q_retb<|q_ret<|q_ret<|q_retb<|q_ret<|?_
        exact ret1 Tryz.results75 rv_t fun w' hw=>⟨by rw [show dirE l = 350 from dirE_f fun h9=>by have h8:=h9 k x hx; first | exact absurd h8.1 ‹_› | (have h7:=h8.2; omega) | (have h7:=h8.2; rw [lsL_pos (by omega) hy] at h7; omega)],hw.sub (List.nil_sublist _)⟩
      · refine c_skip<|q_then<|c_reg<|s_y y_fa<|s_y (y_ld (b:=b5) (v:=I x.d))<|s_y y_as<|s_nil<|q_nb<|q_then<|c_reg<|s_y (y_add (p:=k) (q:=1))<|s_y y_mv<|s_nil<|?_
        rw [← lsL_succ hx]
        refine q_round (k + 1) ⟨by omega,?_⟩ (by omega) ⟨rfl,rfl,rfl,rfl,trivial⟩ (by repeat (first | exact List.nil_sublist _ | exact List.Sublist.refl _ | apply List.Sublist.cons_cons | apply List.Sublist.cons))
        intro j hj z hz
        rcases Nat.lt_or_ge j k with h8 | h8
        · exact hinv j h8 z hz
        · obtain rfl:j = k:=by omega
          obtain rfl:z = x:=Option.some.inj (hz.symm.trans hx)
          exact ⟨‹_›,by omega⟩
    · refine s_pure (fun w' hw=>(by have h9:=fits_ok w' x; rw [lsB_f.2 h13] at h9; exact h9))<|s_y (v:=.bool true) (y_not (b:=false))<|s_y y_mv<|s_no<|s_no<|s_no<|s_no<|s_y y_pk<|s_nil<|q_then<|c_t<|c_seq<|c_reg<|s_y y_as<|s_nil<|q_then<|c_ret<|q_ret<|q_retb<|q_ret<|q_ret<|q_retb<|q_ret<|?_
      exact ret1 Tryz.results75 rv_t fun w' hw=>⟨by rw [show dirE l = 350 from dirE_f fun h9=>by have h8:=h9 k x hx; first | exact absurd h8.1 ‹_› | (have h7:=h8.2; omega) | (have h7:=h8.2; rw [lsL_pos (by omega) hy] at h7; omega)],hw.sub (List.nil_sublist _)⟩
  · refine c_exit<|q_ex<|q_ex<|q_exb<|q_then<|c_seq<|c_reg<|s_y y_as<|s_nil<|q_then<|c_ret<|?_
    exact ret1 Tryz.results75 rv_t fun w' hw=>⟨by rw [show dirE l = 0 from dirE_t fun j x hj=>hinv j (by have:=(List.getElem?_eq_some_iff.1 hj).1; omega) x hj],hw.sub (List.nil_sublist _)⟩
end Go.Proofs.YtojohglifijnnaaGreatDoor
end
section
namespace Rst
open Go Eng Gf Sha Sig
def obP (n:Int) (x:Ls):Bool:=decide (x.d = n) && !x.gone
theorem obP_t {n:Int} {x:Ls} (h:x.d = n):obP n x = !x.gone:=by unfold obP; rw [decide_eq_true h,Bool.true_and]
theorem obP_f {n:Int} {x:Ls} (h:¬ x.d = n):obP n x = false:=by unfold obP; rw [decide_eq_false h,Bool.false_and]
theorem dir_lt {l:List Ls} (h:DirOk l) {j:Nat} {x:Ls} (hj:l[j]? = some x):∀ (m:Nat) {z:Ls},l[j + 1 + m]? = some z → x.d < z.d
  | 0,z,hz=>by
    have h1:=(h (j + 1) z hz).2
    rwa [lsL_succ hj] at h1
  | m + 1,z,hz=>by
    obtain ⟨hl,_⟩:=List.getElem?_eq_some_iff.1 hz
    obtain ⟨y,hy⟩:∃ y,l[j + 1 + m]? = some y:=⟨_,List.getElem?_eq_getElem (by omega)⟩
    have h1:=dir_lt h hj m hy
    have h2:=(h (j + 1 + m + 1) z hz).2
    rw [lsL_succ hy] at h2
    omega
theorem dir_fst {l:List Ls} (h:DirOk l) {k:Nat} {z:Ls} (hz:l[k]? = some z):∀ j x,j < k → l[j]? = some x → x.d ≠ z.d:=fun j x hj hx=>by
  have h1:=dir_lt h hx (k - (j + 1)) (z:=z) (by rw [show j + 1 + (k - (j + 1)) = k by omega]; exact hz)
  omega
theorem fidx_ob {l:List Ls} (h:DirOk l) {k:Nat} {dev zv zl zver:Int} (hz:l[k]? = some ⟨dev,zv,zl,zver,false⟩):fidx (obP dev) l = (k:Int):=by
  obtain ⟨hk,_⟩:=List.getElem?_eq_some_iff.1 hz
  refine fidx_hit (d:=default) hk (fun i hi=>?_) ?_
  · obtain ⟨x,hx⟩:∃ x,l[i]? = some x:=⟨_,List.getElem?_eq_getElem (by omega)⟩
    rw [List.getD_eq_getElem?_getD,hx]
    exact obP_f (dir_fst h hz i x hi hx)
  · rw [List.getD_eq_getElem?_getD,hz]; exact obP_t rfl
/-- what an objection needs, besides the listing and the key -/
structure ObR2 (c:Cs) (dev no:Int):Prop where
  q:dev / 8 = c.p
  d:dev ≠ c.d
  n:¬ dev ∈ c.vt.map Vt.d
  s:c.st ≤ no ∧ no ≤ 65536
theorem anyV {c:Cs} {g:Int}:(c.vt.any fun a=>decide (a.d = g)) = true ↔ g ∈ c.vt.map Vt.d:=by
  rw [List.any_eq_true,List.mem_map]
  exact ⟨fun ⟨x,hx,e⟩=>⟨x,hx,of_decide_eq_true e⟩,fun ⟨x,hx,e⟩=>⟨x,hx,decide_eq_true e⟩⟩
theorem anyV_no {c:Cs} {g:Int} (h:¬ g ∈ c.vt.map Vt.d):(c.vt.any fun a=>decide (a.d = g)) = false:=by
  cases e:(c.vt.any fun a=>decide (a.d = g)) with
  | false=>rfl
  | true=>exact absurd (anyV.1 e) h
noncomputable def nVt (c:Cs) (dev no:Int) (x:Nat):Vt:=⟨dev,no,(sgR x (msg c no dev):Nat),(sgS x (msg c no dev):Nat)⟩
theorem vtc_snoc (l:List Vt) (x:Vt) (cs:List Value) (h:cs = x.cell):vtc l ++ cs = vtc (l ++ [x]):=by rw [vtc_append,h]; simp [vtc]
end Rst
namespace Go.Proofs.YtojohglifijnnaaGreatDoor
open Go Eng Gf Sha Sig Wr Cod Cha Rst
set_option maxRecDepth 100000
set_option linter.all false
theorem Object2_t (w:World) (x:Ls) (n:Int) (b:Nat) (hb:Rd w (some ⟨b,0,none⟩) [I n]) (h:x.d = n):Pure Tryz.prog 77 [.agg #[I x.d,I x.v,I x.l,I x.ver,.bool x.gone],.pointer (some ⟨b,0,none⟩)] w (.bool (!x.gone)):=by
  refine enter Tryz.func77 Tryz.ntmps77 ?_
  refine c_seq<|c_reg<|s_box rfl fun b2=>s_y y_as<|s_nil<|q_then<|c_seq<|c_reg<|s_y y_fa<|s_y (y_ld (b:=b2) (v:=I x.d))<|s_y (y_ldr (a:=some ⟨b,0,none⟩) (i:=0) (xs:=[I n]) (v:=I n) rfl (hr:=rdW0 hb))<|s_kt (y_eql (p:=x.d) (q:=n)) h<|s_y y_mv<|s_y y_fa<|s_y (y_ld (b:=b2) (v:=.bool x.gone))<|s_y y_not<|s_y y_pk<|s_y y_as<|s_nil<|q_then<|c_ret<|?_
  exact ret1 Tryz.results77 rv_t fun w' hw=>⟨rfl,hw.sub (List.nil_sublist _)⟩
theorem Object2_f (w:World) (x:Ls) (n:Int) (b:Nat) (hb:Rd w (some ⟨b,0,none⟩) [I n]) (h:¬ x.d = n):Pure Tryz.prog 77 [.agg #[I x.d,I x.v,I x.l,I x.ver,.bool x.gone],.pointer (some ⟨b,0,none⟩)] w (.bool false):=by
  refine enter Tryz.func77 Tryz.ntmps77 ?_
  refine c_seq<|c_reg<|s_box rfl fun b2=>s_y y_as<|s_nil<|q_then<|c_seq<|c_reg<|s_y y_fa<|s_y (y_ld (b:=b2) (v:=I x.d))<|s_y (y_ldr (a:=some ⟨b,0,none⟩) (i:=0) (xs:=[I n]) (v:=I n) rfl (hr:=rdW0 hb))<|s_kf (y_eql (p:=x.d) (q:=n)) h<|s_y y_mv<|s_no<|s_no<|s_no<|s_y y_pk<|s_y y_as<|s_nil<|q_then<|c_ret<|?_
  exact ret1 Tryz.results77 rv_t fun w' hw=>⟨rfl,hw.sub (List.nil_sublist _)⟩
theorem Object3_ok' (w:World) (x:Vt) (n:Int) (b:Nat) (hb:Rd w (some ⟨b,0,none⟩) [I n]):Pure Tryz.prog 79 [.agg #[I x.d,I x.no,I x.r,I x.s],.pointer (some ⟨b,0,none⟩)] w (.bool (decide (x.d = n))):=by
  refine enter Tryz.func79 Tryz.ntmps79 ?_
  refine c_seq<|c_reg<|s_box rfl fun b2=>s_y y_as<|s_nil<|q_then<|c_seq<|c_reg<|s_y y_fa<|s_y (y_ld (b:=b2) (v:=I x.d))<|s_y (y_ldr (a:=some ⟨b,0,none⟩) (i:=0) (xs:=[I n]) (v:=I n) rfl (hr:=rdW0 hb))<|s_y (y_eql (p:=x.d) (q:=n))<|s_y y_as<|s_nil<|q_then<|c_ret<|?_
  exact ret1 Tryz.results79 rv_t fun w' hw=>⟨rfl,hw.sub (List.nil_sublist _)⟩
theorem Object2_ok (w:World) (b:Nat) (x:Ls) (n:Int) (hb:Rd w (some ⟨b,0,none⟩) [I n]):Pure Tryz.prog 77 [.agg x.cell.toArray,.pointer (some ⟨b,0,none⟩)] w (.bool (obP n x)):=by
  by_cases h:x.d = n
  · rw [obP_t h]; exact Object2_t w x n b hb h
  · rw [obP_f h]; exact Object2_f w x n b hb h
theorem Object3_ok (w:World) (b:Nat) (x:Vt) (n:Int) (hb:Rd w (some ⟨b,0,none⟩) [I n]):Pure Tryz.prog 79 [.agg x.cell.toArray,.pointer (some ⟨b,0,none⟩)] w (.bool (decide (x.d = n))):=Object3_ok' w x n b hb
theorem Object_o2b (w:World) (c:Cs) (aa va la:Option Addr) (ac vc lc:Nat) (l:List Ls) (dev no:Int) (x:Int) (hg:LC w) (hrl:Rd w la (lsc l)) (hll:l.length ≤ 1000000) (hrv:Rd w va (vtc c.vt)) (hvl:c.vt.length ≤ 1000000) (k:Nat) (zv zl zver:Int) (hd:DirOk l) (hz:l[k]? = some ⟨dev,zv,zl,zver,false⟩) (ho:¬ ObR2 c dev no):Pure Tryz.prog 23 [.agg #[I c.p,I c.d,I c.v,I c.l,I c.st,.slice aa c.ap.length ac,.slice va c.vt.length vc],.slice la l.length lc,I dev,I no,I x] w (.tuple #[.agg #[I 0,I 0,I 0,I 0,I 0,.slice none 0 0,.slice none 0 0],I 390]):=by
  have hfi:=fidx_ob hd hz
  have hd0:=(hd k _ hz).1.d
  simp only [] at hd0
  have hkl:k < l.length:=(List.getElem?_eq_some_iff.1 hz).1
  refine enterD Tryz.func23 Tryz.ntmps23 ?_
  refine c_seq<|c_reg<|s_box rfl fun b5=>s_box rfl fun b7=>s_alloc fun b10=>s_alloc fun b11=>s_nil<|q_then<|c_seq<|c_reg<|s_y y_func<|s_deferC<|s_nil<|q_then<|c_seq<|c_reg<|s_y y_mv<|s_pure (fun w' hw=>(by have h9:=dirCheck_ok w' l la lc (hrl.st hw) hll; rw [dirE_t hd] at h9; exact h9))<|s_pure (fun w' hw=>try_ok w')<|s_nil<|q_then<|c_seq<|c_reg<|s_y y_mv<|s_y y_func<|s_pure (fun w' hw=>(by have h9:=IxF_Ls w' la lc l 77 [.pointer (some ⟨b7,0,none⟩)] (obP dev) (hrl.st hw) (by omega) (fun x _ w2 h2=>Object2_ok w2 b7 x dev ((rd0B hw (xs:=[I dev]) (.tail _ (.tail _ (.head _)))).st h2)); rw [hfi] at h9; exact h9))<|s_y y_as<|s_nil<|q_then<|c_seq<|c_reg<|s_y y_mv<|s_kt (y_geq (p:=(k:Nat)) (q:=0)) (by omega)<|s_y y_mv<|s_y (y_ld (b:=b7) (v:=I dev))<|s_y (y_quo (p:=dev) (q:=8))<|s_y y_fa<|s_y (y_ld (b:=b5) (v:=I c.p))<|s_ifd (y_eql (p:=dev / 8) (q:=c.p)) (fun h29=>?_) (fun h29=>?_)
  · refine s_y y_pk<|s_y y_mv<|s_y (y_ld (b:=b7) (v:=I dev))<|s_y y_fa<|s_y (y_ld (b:=b5) (v:=I c.d))<|s_ifn (y_neq (p:=dev) (q:=c.d)) (fun h35=>?_) (fun h35=>?_)
    · refine s_y y_pk<|s_y y_mv<|s_y y_fa<|s_y (y_ld (b:=b5) (v:=.slice va c.vt.length vc))<|s_y y_func<|?_
      by_cases h41:dev ∈ c.vt.map Vt.d
      · refine s_pure (fun w' hw=>(by have h9:=CoF_Vt w' va vc c.vt 79 [.pointer (some ⟨b7,0,none⟩)] (fun v=>decide (v.d = dev)) (hrv.st hw) (by omega) (fun x _ w2 h2=>Object3_ok w2 b7 x dev ((rd0B hw (xs:=[I dev]) (.tail _ (.tail _ (.head _)))).st h2)); rw [anyV.2 h41] at h9; exact h9))<|s_y (v:=.bool false) (y_not (b:=true))<|s_y y_pk<|s_dies (fun w' hw=>demand_dies w' 390)<|q_pt<|?_
        exact leave_P (fun w' hw=>rcObject_P w' b11 0 390 (hw.own _ (.head _)).1) Tryz.results23 (.refl _) (.cons (rv_ca (b:=b10) (cs:=#[I 0,I 0,I 0,I 0,I 0,.slice none 0 0,.slice none 0 0]) (hl:=rfl)) (.cons (rv_cf (b:=b11) (v:=I 390)) .nil)) fun w' hw=>⟨rfl,hw.sub (List.nil_sublist _)⟩
      · refine s_pure (fun w' hw=>(by have h9:=CoF_Vt w' va vc c.vt 79 [.pointer (some ⟨b7,0,none⟩)] (fun v=>decide (v.d = dev)) (hrv.st hw) (by omega) (fun x _ w2 h2=>Object3_ok w2 b7 x dev ((rd0B hw (xs:=[I dev]) (.tail _ (.tail _ (.head _)))).st h2)); rw [anyV_no h41] at h9; exact h9))<|s_y (v:=.bool true) (y_not (b:=false))<|s_y y_pk<|s_pure (fun w' hw=>demand_ok w' 390)<|s_nil<|q_then<|c_seq<|c_reg<|s_y y_mv<|s_y y_fa<|s_y (y_ld (b:=b5) (v:=I c.st))<|?_
        by_cases h48:(c.st:Int) ≤ no ∧ (no:Int) ≤ 65536
        · refine s_pure (fun w' hw=>between_ok w' no c.st 65536 true ⟨fun _=>rfl,fun _=>h48⟩)<|?_
          exact absurd (ObR2.mk (by omega) (by omega) (by assumption) (by assumption)) ho
        · refine s_pure (fun w' hw=>between_ok w' no c.st 65536 false ⟨fun h9=>absurd h9 h48,fun h9=>by cases h9⟩)<|s_dies (fun w' hw=>demand_dies w' 390)<|q_pt<|?_
          exact leave_P (fun w' hw=>rcObject_P w' b11 0 390 (hw.own _ (.head _)).1) Tryz.results23 (.refl _) (.cons (rv_ca (b:=b10) (cs:=#[I 0,I 0,I 0,I 0,I 0,.slice none 0 0,.slice none 0 0]) (hl:=rfl)) (.cons (rv_cf (b:=b11) (v:=I 390)) .nil)) fun w' hw=>⟨rfl,hw.sub (List.nil_sublist _)⟩
    · refine s_y y_pk<|s_y y_mv<|s_no<|s_no<|s_no<|s_no<|s_no<|s_y y_pk<|s_dies (fun w' hw=>demand_dies w' 390)<|q_pt<|?_
      exact leave_P (fun w' hw=>rcObject_P w' b11 0 390 (hw.own _ (.head _)).1) Tryz.results23 (.refl _) (.cons (rv_ca (b:=b10) (cs:=#[I 0,I 0,I 0,I 0,I 0,.slice none 0 0,.slice none 0 0]) (hl:=rfl)) (.cons (rv_cf (b:=b11) (v:=I 390)) .nil)) fun w' hw=>⟨rfl,hw.sub (List.nil_sublist _)⟩
  · refine s_y y_pk<|s_y y_mv<|s_no<|s_no<|s_no<|s_no<|s_y y_pk<|s_y y_mv<|s_no<|s_no<|s_no<|s_no<|s_no<|s_y y_pk<|s_dies (fun w' hw=>demand_dies w' 390)<|q_pt<|?_
    exact leave_P (fun w' hw=>rcObject_P w' b11 0 390 (hw.own _ (.head _)).1) Tryz.results23 (.refl _) (.cons (rv_ca (b:=b10) (cs:=#[I 0,I 0,I 0,I 0,I 0,.slice none 0 0,.slice none 0 0]) (hl:=rfl)) (.cons (rv_cf (b:=b11) (v:=I 390)) .nil)) fun w' hw=>⟨rfl,hw.sub (List.nil_sublist _)⟩
theorem Object_y (w:World) (c:Cs) (aa va la:Option Addr) (ac vc lc:Nat) (l:List Ls) (dev no:Int) (x:Nat) (hg:LC w) (hrl:Rd w la (lsc l)) (hll:l.length ≤ 1000000) (hrv:Rd w va (vtc c.vt)) (hvc:c.vt.length ≤ vc) (hvl:c.vt.length ≤ 1000000) (k:Nat) (zv zl zver:Int) (hd:DirOk l) (hz:l[k]? = some ⟨dev,zv,zl,zver,false⟩) (ho:ObR2 c dev no) (hx0:1 ≤ x) (hx:x < 2305843009213688669) (hv:((pp 4 x:Nat):Int) = zv) (hR:R5 c) (hRn:R64 no) (hRd:R64 dev):Gives Tryz.prog 23 [.agg #[I c.p,I c.d,I c.v,I c.l,I c.st,.slice aa c.ap.length ac,.slice va c.vt.length vc],.slice la l.length lc,I dev,I no,I (x:Nat)] w [] (fun y:Option Addr × Nat=>.tuple #[.agg #[I c.p,I c.d,I c.v,I c.l,I c.st,.slice aa c.ap.length ac,.slice y.1 (c.vt.length + 1) y.2],I 0]) (fun y=>[.row y.1 y.2 80 4 (c.vt.length + 1) (vtc (c.vt ++ [nVt c dev no x]))]) (fun _=>True):=by
  have hfi:=fidx_ob hd hz
  have hd0:=(hd k _ hz).1.d
  simp only [] at hd0
  have hkl:k < l.length:=(List.getElem?_eq_some_iff.1 hz).1
  refine enterD Tryz.func23 Tryz.ntmps23 ?_
  refine c_seq<|c_reg<|s_box rfl fun b5=>s_box rfl fun b7=>s_alloc fun b10=>s_alloc fun b11=>s_nil<|q_then<|c_seq<|c_reg<|s_y y_func<|s_deferC<|s_nil<|q_then<|c_seq<|c_reg<|s_y y_mv<|s_pure (fun w' hw=>(by have h9:=dirCheck_ok w' l la lc (hrl.st hw) hll; rw [dirE_t hd] at h9; exact h9))<|s_pure (fun w' hw=>try_ok w')<|s_nil<|q_then<|c_seq<|c_reg<|s_y y_mv<|s_y y_func<|s_pure (fun w' hw=>(by have h9:=IxF_Ls w' la lc l 77 [.pointer (some ⟨b7,0,none⟩)] (obP dev) (hrl.st hw) (by omega) (fun x _ w2 h2=>Object2_ok w2 b7 x dev ((rd0B hw (xs:=[I dev]) (.tail _ (.tail _ (.head _)))).st h2)); rw [hfi] at h9; exact h9))<|s_y y_as<|s_nil<|q_then<|c_seq<|c_reg<|s_y y_mv<|s_kt (y_geq (p:=(k:Nat)) (q:=0)) (by omega)<|s_y y_mv<|s_y (y_ld (b:=b7) (v:=I dev))<|s_y (y_quo (p:=dev) (q:=8))<|s_y y_fa<|s_y (y_ld (b:=b5) (v:=I c.p))<|s_kt (y_eql (p:=dev / 8) (q:=c.p)) ho.q<|s_y y_pk<|s_y y_mv<|s_y (y_ld (b:=b7) (v:=I dev))<|s_y y_fa<|s_y (y_ld (b:=b5) (v:=I c.d))<|s_nt (y_neq (p:=dev) (q:=c.d)) ho.d<|s_y y_pk<|s_y y_mv<|s_y y_fa<|s_y (y_ld (b:=b5) (v:=.slice va c.vt.length vc))<|s_y y_func<|s_pure (fun w' hw=>(by have h9:=CoF_Vt w' va vc c.vt 79 [.pointer (some ⟨b7,0,none⟩)] (fun v=>decide (v.d = dev)) (hrv.st hw) (by omega) (fun x _ w2 h2=>Object3_ok w2 b7 x dev ((rd0B hw (xs:=[I dev]) (.tail _ (.tail _ (.head _)))).st h2)); rw [anyV_no ho.n] at h9; exact h9))<|s_y (v:=.bool true) (y_not (b:=false))<|s_y y_pk<|s_pure (fun w' hw=>demand_ok w' 390)<|s_nil<|q_then<|c_seq<|c_reg<|s_y y_mv<|s_y y_fa<|s_y (y_ld (b:=b5) (v:=I c.st))<|s_pure (fun w' hw=>between_ok w' no c.st 65536 true ⟨fun _=>rfl,fun _=>ho.s⟩)<|s_pure (fun w' hw=>demand_ok w' 390)<|s_nil<|q_then<|c_seq<|c_reg<|s_y y_mv<|s_pure (fun w' hw=>sPublic_yes w' x hx0 hx)<|s_y y_mv<|s_y y_ext<|s_y y_ext<|s_y y_as<|s_st (b:=b11) (v:=I 0) (cs:=#[I 0]) (hl:=by simp) ?_
  refine s_nil<|q_then<|c_seq<|c_reg<|s_y (y_ld (b:=b11) (v:=I 0))<|s_pure (fun w' hw=>try_ok w')<|s_nil<|q_then<|c_seq<|c_reg<|s_y y_mv<|s_y y_mv<|s_y y_mv<|s_y (y_ixs (xs:=lsc l) (i:=((k:Nat):Int)) (hr:=(rdW0 hrl)) (hl:=by rw [lsc_length]; omega))<|s_y y_far<|s_y (y_ldr (i:=k * 5 + 1) (xs:=lsc l) (v:=I ((Ls.mk dev zv zl zver false).v)) (lsc_at (j:=1) hz rfl) (hr:=(rdW0 hrl)))<|s_kt (y_eql (p:=(pp 4 x:Nat)) (q:=(Ls.mk dev zv zl zver false).v)) hv<|s_pure (fun w' hw=>demand_ok w' 390)<|s_nil<|q_then<|c_seq<|c_reg<|s_y y_mv<|s_y (y_lda (b:=b5) (cs:=#[I c.p,I c.d,I c.v,I c.l,I c.st,.slice aa c.ap.length ac,.slice va c.vt.length vc]) (hl:=rfl))<|s_y y_mv<|s_y (y_ld (b:=b7) (v:=I dev))<|s_gives (fun w' hw=>Message_ok w' c no dev aa va ac vc (hg.st hw).1 hR hRn hRd) fun (x70:Nat) _=>s_pure (fun w' hw=>signQ w' (some ⟨x70,0,none⟩) 32 32 x (msg c no dev) (hg.st hw).1 (msg_length _ _ _) (rd_blkB (e:=95) (.head _) w' hw) (by decide) hx0 hx)<|s_y y_mv<|s_y y_ext<|s_y y_ext<|s_alloc fun b14=>s_sta (b:=b14) (vs:=#[I (sgR x (msg c no dev):Nat),I (sgS x (msg c no dev):Nat)]) (cs:=#[I 0,I 0]) (h1:=one_allA rfl) (hl:=rfl) (hs1:=rfl) ?_
  refine s_st (b:=b11) (v:=I 0) (cs:=#[I 0]) (hl:=by simp) ?_
  refine s_nil<|q_then<|c_seq<|c_reg<|s_y (y_ld (b:=b11) (v:=I 0))<|s_pure (fun w' hw=>try_ok w')<|s_nil<|q_then<|c_seq<|c_cut (R:=fun a' w'=>∃ (b84:Nat),∃ (c84:Nat),Fr 87 [(5,.pointer (some ⟨b5,0,none⟩)),(10,.pointer (some ⟨b10,0,none⟩)),(11,.pointer (some ⟨b11,0,none⟩))] [{ target:=.fn (.func 74) #[.pointer (some ⟨b11,0,none⟩)],args:=#[] }] a' ∧ St w [] w' [.row (some ⟨b84,0,none⟩) c84 80 4 (c.vt.length + 1) (vtc (c.vt ++ [nVt c dev no x])),.blk b11 (.cells #[I 0] 34 (0,0)),.blk b10 (.cells #[I 0,I 0,I 0,I 0,I 0,.slice none 0 0,.slice none 0 0] 30 (0,0)),.blk b5 (.cells #[I c.p,I c.d,I c.v,I c.l,I c.st,.slice aa c.ap.length ac,.slice (some ⟨b84,0,none⟩) (c.vt.length + 1) c84] 30 (0,0))]) ?_ ?_
  · refine c_regGB [.blk b14 (.cells #[I (sgR x (msg c no dev):Nat),I (sgS x (msg c no dev):Nat)] 59 (0,0)),.blk x70 (.cells (bs (msg c no dev)).toArray 95 (0,0)),.blk b11 (.cells #[I 0] 34 (0,0)),.blk b10 (.cells #[I 0,I 0,I 0,I 0,I 0,.slice none 0 0,.slice none 0 0] 30 (0,0)),.blk b7 (.cells #[I dev] 3 (0,0)),.blk b5 (.cells #[I c.p,I c.d,I c.v,I c.l,I c.st,.slice aa c.ap.length ac,.slice va c.vt.length vc] 30 (0,0))] (.cons_cons _ (.cons_cons _ (.cons_cons _ (.cons_cons _ (.cons_cons _ (.cons_cons _ (List.nil_sublist _))))))) 10<|f_y 0 rfl y_fa<|f_y 1 rfl (y_ld (b:=b5) (v:=.slice va c.vt.length vc))<|f_y 3 rfl (y_ld (b:=b7) (v:=I dev))<|f_y 4 rfl y_mv<|f_y 5 rfl (y_lda (b:=b14) (cs:=#[I (sgR x (msg c no dev):Nat),I (sgS x (msg c no dev):Nat)]) (hl:=rfl))<|f_y 6 rfl (y_bvet (cs:=[I dev,I no,I (sgR x (msg c no dev):Nat),I (sgS x (msg c no dev):Nat)]))<|f_w2 2 7 rfl rfl ?_ ?_ (hsub:=by repeat (first | exact List.nil_sublist _ | exact List.Sublist.refl _ | apply List.Sublist.cons_cons | apply List.Sublist.cons))
    · refine s_pure (fun w' hw=>ClipV_ok w' va c.vt.length vc hvc)<|f_kkB<|f_w 7 rfl (hsub:=by repeat (first | exact List.nil_sublist _ | exact List.Sublist.refl _ | apply List.Sublist.cons_cons | apply List.Sublist.cons))<|s_bslr (cs:=[I dev,I no,I (sgR x (msg c no dev):Nat),I (sgS x (msg c no dev):Nat)]) fun b83=>f_kkB<|f_w 8 rfl (hsub:=by repeat (first | exact List.nil_sublist _ | exact List.Sublist.refl _ | apply List.Sublist.cons_cons | apply List.Sublist.cons))<|s_appN (m:=1) (xs:=vtc c.vt) (rdW0 hrv) (fun w' hw=>Src.slice (rdR (.head _) w' hw) rfl) (hl:=vtc_length _) (hud:=.inl ⟨_,rfl⟩) fun b84 c84=>?_
      rw [show vtc c.vt ++ [I dev,I no,I (sgR x (msg c no dev):Nat),I (sgS x (msg c no dev):Nat)] = vtc (c.vt ++ [nVt c dev no x]) from vtc_snoc c.vt _ _ rfl]
      refine f_kkB<|f_y 9 rfl y_fa<|f_w 10 rfl (hsub:=by repeat (first | exact List.nil_sublist _ | exact List.Sublist.refl _ | apply List.Sublist.cons_cons | apply List.Sublist.cons))<|s_st (b:=b5) (v:=.slice (some ⟨b84,0,none⟩) (c.vt.length + 1) c84) (cs:=#[I c.p,I c.d,I c.v,I c.l,I c.st,.slice aa c.ap.length ac,.slice va c.vt.length vc]) (hl:=by simp) ?_
      refine f_z<|?_
      exact fun a' w' ha hw=>⟨rfl,b84,c84,ha.weaken ⟨rfl,rfl,rfl,trivial⟩,(hw.sub (l':=[.row (some ⟨b84,0,none⟩) c84 80 4 (c.vt.length + 1) (vtc (c.vt ++ [nVt c dev no x])),.blk b11 (.cells #[I 0] 34 (0,0)),.blk b10 (.cells #[I 0,I 0,I 0,I 0,I 0,.slice none 0 0,.slice none 0 0] 30 (0,0)),.blk b5 (.cells #[I c.p,I c.d,I c.v,I c.l,I c.st,.slice aa c.ap.length ac,.slice (some ⟨b84,0,none⟩) (c.vt.length + 1) c84] 30 (0,0))]) (by repeat (first | exact List.nil_sublist _ | exact List.Sublist.refl _ | apply List.Sublist.cons_cons | apply List.Sublist.cons)))⟩
    · refine s_bslr (cs:=[I dev,I no,I (sgR x (msg c no dev):Nat),I (sgS x (msg c no dev):Nat)]) fun b83=>f_kkB<|f_w 2 rfl (hsub:=by repeat (first | exact List.nil_sublist _ | exact List.Sublist.refl _ | apply List.Sublist.cons_cons | apply List.Sublist.cons))<|s_pure (fun w' hw=>ClipV_ok w' va c.vt.length vc hvc)<|f_kkB<|f_w 8 rfl (hsub:=by repeat (first | exact List.nil_sublist _ | exact List.Sublist.refl _ | apply List.Sublist.cons_cons | apply List.Sublist.cons))<|s_appN (m:=1) (xs:=vtc c.vt) (rdW0 hrv) (fun w' hw=>Src.slice (rdR (.head _) w' hw) rfl) (hl:=vtc_length _) (hud:=.inl ⟨_,rfl⟩) fun b84 c84=>?_
      rw [show vtc c.vt ++ [I dev,I no,I (sgR x (msg c no dev):Nat),I (sgS x (msg c no dev):Nat)] = vtc (c.vt ++ [nVt c dev no x]) from vtc_snoc c.vt _ _ rfl]
      refine f_kkB<|f_y 9 rfl y_fa<|f_w 10 rfl (hsub:=by repeat (first | exact List.nil_sublist _ | exact List.Sublist.refl _ | apply List.Sublist.cons_cons | apply List.Sublist.cons))<|s_st (b:=b5) (v:=.slice (some ⟨b84,0,none⟩) (c.vt.length + 1) c84) (cs:=#[I c.p,I c.d,I c.v,I c.l,I c.st,.slice aa c.ap.length ac,.slice va c.vt.length vc]) (hl:=by simp) ?_
      refine f_z<|?_
      exact fun a' w' ha hw=>⟨rfl,b84,c84,ha.weaken ⟨rfl,rfl,rfl,trivial⟩,(hw.sub (l':=[.row (some ⟨b84,0,none⟩) c84 80 4 (c.vt.length + 1) (vtc (c.vt ++ [nVt c dev no x])),.blk b11 (.cells #[I 0] 34 (0,0)),.blk b10 (.cells #[I 0,I 0,I 0,I 0,I 0,.slice none 0 0,.slice none 0 0] 30 (0,0)),.blk b5 (.cells #[I c.p,I c.d,I c.v,I c.l,I c.st,.slice aa c.ap.length ac,.slice (some ⟨b84,0,none⟩) (c.vt.length + 1) c84] 30 (0,0))]) (by repeat (first | exact List.nil_sublist _ | exact List.Sublist.refl _ | apply List.Sublist.cons_cons | apply List.Sublist.cons)))⟩
  rintro a11' w11' ⟨b84,c84,ha11',hw11'⟩
  refine (show CP none Tryz.prog 87 [{ target:=.fn (.func 74) #[.pointer (some ⟨b11,0,none⟩)],args:=#[] }] w [] _ _ [(5,.pointer (some ⟨b5,0,none⟩)),(10,.pointer (some ⟨b10,0,none⟩)),(11,.pointer (some ⟨b11,0,none⟩))] [.row (some ⟨b84,0,none⟩) c84 80 4 (c.vt.length + 1) (vtc (c.vt ++ [nVt c dev no x])),.blk b11 (.cells #[I 0] 34 (0,0)),.blk b10 (.cells #[I 0,I 0,I 0,I 0,I 0,.slice none 0 0,.slice none 0 0] 30 (0,0)),.blk b5 (.cells #[I c.p,I c.d,I c.v,I c.l,I c.st,.slice aa c.ap.length ac,.slice (some ⟨b84,0,none⟩) (c.vt.length + 1) c84] 30 (0,0))] from ?_) a11' w11' ha11' hw11'
  clear ha11' hw11'
  refine c_seq<|c_reg<|s_y (y_lda (b:=b5) (cs:=#[I c.p,I c.d,I c.v,I c.l,I c.st,.slice aa c.ap.length ac,.slice (some ⟨b84,0,none⟩) (c.vt.length + 1) c84]) (hl:=rfl))<|s_sta (b:=b10) (vs:=#[I c.p,I c.d,I c.v,I c.l,I c.st,.slice aa c.ap.length ac,.slice (some ⟨b84,0,none⟩) (c.vt.length + 1) c84]) (cs:=#[I 0,I 0,I 0,I 0,I 0,.slice none 0 0,.slice none 0 0]) (h1:=one_allA rfl) (hl:=rfl) (hs1:=rfl) ?_
  refine s_st (b:=b11) (v:=I 0) (cs:=#[I 0]) (hl:=by simp) ?_
  refine s_nil<|q_then<|c_ret<|?_
  exact leave_R (cs:=[.pointer (some ⟨b11,0,none⟩)]) (fun w' hw=>rcObject_R w' b11) Tryz.results23 (.cons (rv_ca (b:=b10) (cs:=#[I c.p,I c.d,I c.v,I c.l,I c.st,.slice aa c.ap.length ac,.slice (some ⟨b84,0,none⟩) (c.vt.length + 1) c84]) (hl:=rfl)) (.cons (rv_cf (v:=I 0)) .nil)) fun w' hw=>⟨(some ⟨b84,0,none⟩,c84),trivial,rfl,hw.sub (by repeat (first | exact List.nil_sublist _ | exact List.Sublist.refl _ | apply List.Sublist.cons_cons | apply List.Sublist.cons))⟩
end Go.Proofs.YtojohglifijnnaaGreatDoor
end
section
namespace Eng
open Go Go.RowKit
theorem run_eqFL {P : Program} {k : Nat} {X : Array Value} {w : World} : ∀ fs : List Field, (∀ f ∈ fs, f.name ≠ "_" ∧ ∃ v, (part f.type X f.offset).run P w = .ok v w ∧ (Op.equalIn k f.type v v).run P w = .ok true w) → (Op.eqFields k X X fs).run P w = .ok true w
  | [],_=>by simp [Op.eqFields]
  | f :: fs,h=>by
    obtain ⟨n,v,c,e⟩:=h f (.head _)
    have h9:=run_eqFL fs fun f' hf=>h f' (.tail _ hf)
    simp only [Op.eqFields,if_pos n,Sem.run_bind,c,Result.andThen_ok,e,Bool.not_true,Bool.false_eq_true,if_false,h9]
section
variable {r:Option Nat} {P:Program} {n:Nat} {D:List Deferred} {W:World} {Bo:List Nat} {F:List (Nat × Value)} {l l':SH}
  {d:Option Tmp} {dd:Nat} {ty:TypeId} {ps:String} {af:Array Edge} {g:Option (Nat × Bool)} {x y z:Operand} {v u:Value} {ta tb t e:TypeId}
  {Q:Exit → Act → World → Prop} {ops:Array Oper} {rest:List Oper} {td:TypeDesc} {c:Code}
theorem s_stinR {s by':Nat} [hs:HS P t s by'] {b off:Nat} {cs cs' vs:List Value} {et:TypeId} (h:LP r P n D W Bo ops Q rest F l')
    (hcs:cs.take off ++ vs ++ cs.drop (off + vs.length) = cs') (hl:off + vs.length ≤ cs.length) (h1:∀ u ∈ vs,u.oneCell' = true) (hs1:vs.length = s)
    (hx:evO F x = some (.pointer (some ⟨b,off,none⟩)):=by rfl) (hv:evO F y = some (.agg vs.toArray):=by rfl)
    (hr:Rep (.blk b (.cells cs.toArray et (0,0))) (.blk b (.cells cs'.toArray et (0,0))) l l':=by repeat (first | exact .head _ | apply Rep.tail)) (hg:Wn ops F g:=by first | exact .none | exact .some rfl rfl):LP r P n D W Bo ops Q (⟨none,.store t x y,ty,ps,af,g⟩ :: rest) F l:=by
  refine s_unit (by simp) (fun a w ha hw=>⟨w.setRow b cs'.toArray,?_,hw.setRow hr⟩) (hg:=hg) (h:=h)
  have hg:=(hw.own _ hr.mem).1
  have h2:=run_storeCells_at P b off et vs 0 cs.toArray w hg (by simp; omega) h1
  have e1:(cs.toArray.toList.take (off + 0) ++ vs ++ cs.toArray.toList.drop (off + 0 + vs.length)).toArray = cs'.toArray:=by
    show (cs.take off ++ vs ++ cs.drop (off + vs.length)).toArray = _
    rw [hcs]
  rw [e1] at h2
  simp only [execOp,ha.eval hx,ha.eval hv,Instr.storeAt,Instr.sureAddr,storeVar,Sem.run_bind,Sem.run_pure,Result.andThen_ok,run_sizeOf' hs,Value.cells]
  rw [if_neg (by simp [hs1])]
  rw [h2]
  rfl
end
end Eng
namespace Rst
open Go Eng Gf Sha Sig Wr Cod Cha Go.Proofs.YtojohglifijnnaaGreatDoor
/-- a certificate that may be made -/
structure CrRt (d v l ver:Int):Prop where
  d:0 ≤ d ∧ d < 512
  ver:1 ≤ ver ∧ ver ≤ 1048576
  v:chk v = 0
  l:chk l = 0
noncomputable def crB (d v l ver:Int):Bool:=@decide (CrRt d v l ver) (Classical.propDecidable _)
theorem crB_t {d v l ver:Int}:crB d v l ver = true ↔ CrRt d v l ver:=@decide_eq_true_iff _ (Classical.propDecidable _)
theorem crB_f {d v l ver:Int}:crB d v l ver = false ↔ ¬ CrRt d v l ver:=@decide_eq_false_iff_not _ (Classical.propDecidable _)
theorem CrRt.r64 {d v l ver k b:Int} (h:CrRt d v l ver) (hk:R64 k) (hb:R64 b):∀ n ∈ [k,d,v,l,ver,b],R64 n:=by
  have e1:=h.d
  have e2:=h.ver
  intro n hn
  simp only [List.mem_cons,List.not_mem_nil,or_false] at hn
  rcases hn with rfl | rfl | rfl | rfl | rfl | rfl
  · exact hk
  · unfold R64; omega
  · obtain ⟨x,rfl,hx⟩:=Wr.el_El (chk_0.1 h.v); have:=Gf.El.l63 hx; unfold R64; omega
  · obtain ⟨x,rfl,hx⟩:=Wr.el_El (chk_0.1 h.l); have:=Gf.El.l63 hx; unfold R64; omega
  · unfold R64; omega
  · exact hb
abbrev lbCert:List UInt8:=[99,101,114,116]
def cmsg (ns:List Int):List UInt8:=tagged lbCert (ivE ns)
theorem cmsg_length (ns:List Int):(cmsg ns).length = 32:=tagged_length _ _
theorem stE_371 {p:Pn} {c:Cs} {now:Int} (h:¬ Prs p):stE p c now = 371:=by unfold stE; rw [if_pos (prsB_f.2 h)]
section
variable {p:Pn} {c:Cs} {now:Int} (h1:Prs p)
include h1
theorem stE_390 (h2:¬ Blg p c):stE p c now = 390:=by
  unfold stE; rw [if_neg (by rw [prsB_t.2 h1]; simp),if_pos (blgB_f.2 h2)]
variable (h2:Blg p c)
include h2
theorem stE_392 (h3:(c.vt.any fun v:Vt=>decide (c.st ≤ v.no ∧ v.no ≤ c.st + p.cool - 1)) = true):stE p c now = 392:=by
  unfold stE; rw [if_neg (by rw [prsB_t.2 h1]; simp),if_neg (by rw [blgB_t.2 h2]; simp),if_pos h3]
variable (h3:¬ (c.vt.any fun v:Vt=>decide (c.st ≤ v.no ∧ v.no ≤ c.st + p.cool - 1)) = true)
include h3
theorem stE_391 (h4:now < c.st + p.cool):stE p c now = 391:=by
  unfold stE; rw [if_neg (by rw [prsB_t.2 h1]; simp),if_neg (by rw [blgB_t.2 h2]; simp),if_neg h3,if_pos h4]
theorem stE_few (h4:¬ now < c.st + p.cool) (h5:(c.ap.length:Int) < p.need):stE p c now = 390:=by
  unfold stE; rw [if_neg (by rw [prsB_t.2 h1]; simp),if_neg (by rw [blgB_t.2 h2]; simp),if_neg h3,if_neg h4,if_pos h5]
theorem stE_0 (h4:¬ now < c.st + p.cool) (h5:¬ (c.ap.length:Int) < p.need):stE p c now = 0:=by
  unfold stE; rw [if_neg (by rw [prsB_t.2 h1]; simp),if_neg (by rw [blgB_t.2 h2]; simp),if_neg h3,if_neg h4,if_neg h5]
end
theorem stE_inv {p:Pn} {c:Cs} {now:Int} (h:stE p c now = 0):Prs p ∧ Blg p c ∧ ¬ (c.vt.any fun v:Vt=>decide (c.st ≤ v.no ∧ v.no ≤ c.st + p.cool - 1)) = true ∧ c.st + p.cool ≤ now ∧ p.need ≤ (c.ap.length:Int):=by
  by_cases h1:Prs p
  · by_cases h2:Blg p c
    · by_cases h3:(c.vt.any fun v:Vt=>decide (c.st ≤ v.no ∧ v.no ≤ c.st + p.cool - 1)) = true
      · rw [stE_392 h1 h2 h3] at h; cases h
      · by_cases h4:now < c.st + p.cool
        · rw [stE_391 h1 h2 h3 h4] at h; cases h
        · by_cases h5:(c.ap.length:Int) < p.need
          · rw [stE_few h1 h2 h3 h4 h5] at h; cases h
          · exact ⟨h1,h2,h3,by omega,by omega⟩
    · rw [stE_390 h1 h2] at h; cases h
  · rw [stE_371 h1] at h; cases h
/-- few guards, approvals and vetoes, short wraps -/
structure Few (p:Pn) (c:Cs):Prop where
  a:∀ x ∈ c.ap,x.q.length ≤ 300
  g:p.gs.length ≤ 20
  n:c.ap.length ≤ 20
  v:c.vt.length ≤ 20
end Rst
namespace Go.Proofs.YtojohglifijnnaaGreatDoor
open Go Eng Gf Sha Sig Wr Cod Cha Rst
set_option maxRecDepth 100000
set_option linter.all false
theorem y_bcert {n:Nat} {D:List Deferred} {W:World} {Bo:List Nat} {F:List (Nat × Value)} {l:SH} {d:Option Tmp} {ty:TypeId} {ps:String} {af:Array Edge} {g:Option (Nat × Bool)} {parts:Array (Nat × Operand)} {vs:List (Nat × Value)} {cs:List Value}
    (hp:evP F parts.toList = some vs:=by rfl) (hf:fillL (fun i=>(#[(0,1),(1,1),(2,1),(3,1),(4,1),(5,1),(6,2)]:Array (Nat × Nat))[i]?) (List.replicate 8 (I 0)) vs = some cs:=by rfl) :
    Y Tryz.prog n D W Bo ⟨d,.build 61 parts,ty,ps,af,g⟩ F l (.agg cs.toArray) :=
  y_blds Tryz.underlying61 (fun w=>by kernel_rfl) hp hf
theorem hsSg:(Tryz.prog).stoodInHeld 59 = false:=by kernel_rfl
theorem hfSg:(Tryz.prog).underlying 59 = some (.struct ((Tryz.prog).fieldsOf 59)):=by kernel_rfl
theorem hlSg : ∃ f0 f1 : Field, ((Tryz.prog).fieldsOf 59).toList = [f0, f1] ∧ f0.name = "R" ∧ f0.type = 3 ∧ f0.offset = 0 ∧ f1.name = "S" ∧ f1.type = 3 ∧ f1.offset = 1 := by
  simp only [Program.fieldsOf,Tryz.underlying59]
  exact ⟨_,_,rfl,rfl,rfl,rfl,rfl,rfl,rfl⟩
theorem eqSgIn (k:Nat) {a b:Int} (w:World):(Op.equalIn (k + 4) 59 (.agg #[I a,I b]) (.agg #[I a,I b])).run Tryz.prog w = .ok true w:=by
  obtain ⟨f0,f1,hl,n0,t0,o0,n1,t1,o1⟩:=hlSg
  rw [run_equalIn_struct w (k + 3) _ _ _ hfSg hsSg,hl]
  refine run_eqFL _ fun f hf=>?_
  simp only [List.mem_cons,List.not_mem_nil,or_false] at hf
  rcases hf with rfl | rfl
  · exact ⟨by rw [n0]; decide,I a,by rw [t0,o0]; exact run_part1 (by rfl) w,by rw [t0]; exact run_eqI (k + 2) a w⟩
  · exact ⟨by rw [n1]; decide,I b,by rw [t1,o1]; exact run_part1 (by rfl) w,by rw [t1]; exact run_eqI (k + 2) b w⟩
theorem hgCt:(Tryz.prog).eqGuardType (Tryz.prog).depth 61 = false:=by kernel_rfl
theorem hsCt:(Tryz.prog).stoodInHeld 61 = false:=by kernel_rfl
theorem hfCt:(Tryz.prog).underlying 61 = some (.struct ((Tryz.prog).fieldsOf 61)):=by kernel_rfl
theorem hlCt : ∃ f0 f1 f2 f3 f4 f5 f6 : Field, ((Tryz.prog).fieldsOf 61).toList = [f0, f1, f2, f3, f4, f5, f6] ∧ f0.name = "Kind" ∧ f0.type = 3 ∧ f0.offset = 0 ∧ f1.name = "Device" ∧ f1.type = 3 ∧ f1.offset = 1 ∧ f2.name = "Verify" ∧ f2.type = 3 ∧ f2.offset = 2 ∧ f3.name = "Leaf" ∧ f3.type = 3 ∧ f3.offset = 3 ∧ f4.name = "Version" ∧ f4.type = 3 ∧ f4.offset = 4 ∧ f5.name = "By" ∧ f5.type = 3 ∧ f5.offset = 5 ∧ f6.name = "Sig" ∧ f6.type = 59 ∧ f6.offset = 6 := by
  simp only [Program.fieldsOf,Tryz.underlying61]
  exact ⟨_,_,_,_,_,_,_,rfl,rfl,rfl,rfl,rfl,rfl,rfl,rfl,rfl,rfl,rfl,rfl,rfl,rfl,rfl,rfl,rfl,rfl,rfl,rfl,rfl,rfl⟩
theorem eqCtIn (k:Nat) {a b c d e q r s:Int} (w:World):(Op.equalIn (k + 8) 61 (.agg #[I a,I b,I c,I d,I e,I q,I r,I s]) (.agg #[I a,I b,I c,I d,I e,I q,I r,I s])).run Tryz.prog w = .ok true w:=by
  obtain ⟨f0,f1,f2,f3,f4,f5,f6,hl,n0,t0,o0,n1,t1,o1,n2,t2,o2,n3,t3,o3,n4,t4,o4,n5,t5,o5,n6,t6,o6⟩:=hlCt
  rw [run_equalIn_struct w (k + 7) _ _ _ hfCt hsCt,hl]
  refine run_eqFL _ fun f hf=>?_
  simp only [List.mem_cons,List.not_mem_nil,or_false] at hf
  rcases hf with rfl | rfl | rfl | rfl | rfl | rfl | rfl
  · exact ⟨by rw [n0]; decide,I a,by rw [t0,o0]; exact run_part1 (by rfl) w,by rw [t0]; exact run_eqI (k + 6) a w⟩
  · exact ⟨by rw [n1]; decide,I b,by rw [t1,o1]; exact run_part1 (by rfl) w,by rw [t1]; exact run_eqI (k + 6) b w⟩
  · exact ⟨by rw [n2]; decide,I c,by rw [t2,o2]; exact run_part1 (by rfl) w,by rw [t2]; exact run_eqI (k + 6) c w⟩
  · exact ⟨by rw [n3]; decide,I d,by rw [t3,o3]; exact run_part1 (by rfl) w,by rw [t3]; exact run_eqI (k + 6) d w⟩
  · exact ⟨by rw [n4]; decide,I e,by rw [t4,o4]; exact run_part1 (by rfl) w,by rw [t4]; exact run_eqI (k + 6) e w⟩
  · exact ⟨by rw [n5]; decide,I q,by rw [t5,o5]; exact run_part1 (by rfl) w,by rw [t5]; exact run_eqI (k + 6) q w⟩
  · exact ⟨by rw [n6]; decide,.agg #[I r,I s],by rw [t6,o6]; exact run_partA (by rfl) w,by rw [t6]; exact eqSgIn (k + 3) w⟩
theorem run_eqCt {a b c d e q r s:Int} (w:World):(Op.equalIn 10000 61 (.agg #[I a,I b,I c,I d,I e,I q,I r,I s]) (.agg #[I a,I b,I c,I d,I e,I q,I r,I s])).run Tryz.prog w = .ok true w:=eqCtIn 9992 w
theorem y_neqCt {n:Nat} {D:List Deferred} {W:World} {Bo:List Nat} {F:List (Nat × Value)} {l:SH} {dd:Option Tmp} {ty:TypeId} {ps:String} {af:Array Edge} {g:Option (Nat × Bool)} {x y:Operand} {tb:TypeId} {a b c d e q r s:Int}
    (hx:evO F x = some (.agg #[I a,I b,I c,I d,I e,I q,I r,I s]):=by rfl) (hy:evO F y = some (.agg #[I a,I b,I c,I d,I e,I q,I r,I s]):=by rfl):Y Tryz.prog n D W Bo ⟨dd,.binOp .neq 61 x y tb,ty,ps,af,g⟩ F l (.bool false) :=
  .mk (by simp) fun ac w ha _=>by
    simp only [execOp,ha.eval hx,ha.eval hy,Sem.run_bind,run_eqGuard_agg w .neq 61 x y _ _ hgCt,Result.andThen_ok,run_neq_struct,run_eqCt,Sem.run_pure,Bool.not_true]
theorem y_eqlCt {n:Nat} {D:List Deferred} {W:World} {Bo:List Nat} {F:List (Nat × Value)} {l:SH} {dd:Option Tmp} {ty:TypeId} {ps:String} {af:Array Edge} {g:Option (Nat × Bool)} {x y:Operand} {tb:TypeId} {a b c d e q r s:Int}
    (hx:evO F x = some (.agg #[I a,I b,I c,I d,I e,I q,I r,I s]):=by rfl) (hy:evO F y = some (.agg #[I a,I b,I c,I d,I e,I q,I r,I s]):=by rfl):Y Tryz.prog n D W Bo ⟨dd,.binOp .eql 61 x y tb,ty,ps,af,g⟩ F l (.bool true) :=
  .mk (by simp) fun ac w ha _=>by
    simp only [execOp,ha.eval hx,ha.eval hy,Sem.run_bind,run_eqGuard_agg w .eql 61 x y _ _ hgCt,Result.andThen_ok,run_eql_struct,run_eqCt,Sem.run_pure]
theorem pDev_lo (w:World) (n:Int) (h:¬ 0 ≤ n):Pure Tryz.prog 155 [I n] w (.bool false):=by
  refine enter Tryz.func155 Tryz.ntmps155 ?_
  refine c_seq<|c_reg<|s_y y_as<|s_nil<|q_then<|c_seq<|c_reg<|s_y y_mv<|s_kf (y_geq (p:=n) (q:=0)) h<|s_y y_mv<|s_no<|s_no<|s_y y_pk<|s_y y_as<|s_nil<|q_then<|c_ret<|?_
  exact ret1 Tryz.results155 rv_t fun w' hw=>⟨rfl,hw.sub (List.nil_sublist _)⟩
theorem pDev_hi (w:World) (n:Int) (h:0 ≤ n):Pure Tryz.prog 155 [I n] w (.bool (decide (n < 512))):=by
  refine enter Tryz.func155 Tryz.ntmps155 ?_
  refine c_seq<|c_reg<|s_y y_as<|s_nil<|q_then<|c_seq<|c_reg<|s_y y_mv<|s_kt (y_geq (p:=n) (q:=0)) h<|s_y y_mv<|s_y y_mv<|s_y (y_lss (p:=n) (q:=512))<|s_y y_pk<|s_y y_as<|s_nil<|q_then<|c_ret<|?_
  exact ret1 Tryz.results155 rv_t fun w' hw=>⟨rfl,hw.sub (List.nil_sublist _)⟩
theorem pDev_ok (w:World) (n:Int) (x:Bool) (h:((0:Int) ≤ n ∧ n < 512) ↔ x = true):Pure Tryz.prog 155 [I n] w (.bool x):=by
  by_cases h1:0 ≤ n
  · have h2:=pDev_hi w n h1
    have e:decide (n < 512) = x:=by
      cases x with
      | true=>exact decide_eq_true (h.2 rfl).2
      | false=>exact decide_eq_false fun h3=>by have:=h.1 ⟨h1,h3⟩; cases this
    rwa [e] at h2
  · have e:x = false:=by
      cases x with
      | true=>exact absurd (h.2 rfl).1 h1
      | false=>rfl
    rw [e]; exact pDev_lo w n h1
theorem formed3_ok (w:World) (d v l ver r s:Int):Pure Tryz.prog 93 [.agg #[I 3,I d,I v,I l,I ver,I (-1),I r,I s]] w (.bool (crB d v l ver)):=by
  refine enter Tryz.func93 Tryz.ntmps93 ?_
  refine c_seq<|c_reg<|s_box rfl fun b1=>s_y y_as<|s_nil<|q_then<|c_seq<|c_seq<|c_reg<|s_y y_fa<|s_y (y_ld (b:=b1) (v:=I d))<|?_
  by_cases h7:(0:Int) ≤ d ∧ d < 512
  · refine s_pure (fun w' hw=>pDev_ok w' d true ⟨fun _=>rfl,fun _=>h7⟩)<|s_y (v:=.bool false) (y_not (b:=true))<|s_y y_mv<|s_y y_fa<|s_y (y_ld (b:=b1) (v:=I ver))<|s_ifd (y_lss (p:=ver) (q:=1)) (fun h12=>?_) (fun h12=>?_)
    · refine s_y y_pk<|s_y y_mv<|s_no<|s_no<|s_no<|s_y y_pk<|s_nil<|q_then<|c_t<|c_seq<|c_reg<|s_y y_as<|s_nil<|q_then<|c_ret<|q_ret<|?_
      exact ret1 Tryz.results93 rv_t fun w' hw=>⟨by rw [show crB d v l ver = false from crB_f.2 fun h9=>by have h1:=h9.d; have h2:=h9.ver; have h3:=h9.v; have h4:=h9.l; omega],hw.sub (List.nil_sublist _)⟩
    · refine s_y y_pk<|s_y y_mv<|s_y y_fa<|s_y (y_ld (b:=b1) (v:=I ver))<|s_y (y_gtr (p:=ver) (q:=1048576))<|s_y y_pk<|s_nil<|q_then<|c_ifd (fun h18=>?_) (fun h18=>?_)
      · refine c_seq<|c_reg<|s_y y_as<|s_nil<|q_then<|c_ret<|q_ret<|?_
        exact ret1 Tryz.results93 rv_t fun w' hw=>⟨by rw [show crB d v l ver = false from crB_f.2 fun h9=>by have h1:=h9.d; have h2:=h9.ver; have h3:=h9.v; have h4:=h9.l; omega],hw.sub (List.nil_sublist _)⟩
      · refine c_skip<|q_then<|c_seq<|c_reg<|s_y y_fa<|s_y (y_ld (b:=b1) (v:=I v))<|s_pure (fun w' hw=>gCheck_ok w' v)<|s_ifd (y_eql (p:=chk v) (q:=0)) (fun h22=>?_) (fun h22=>?_)
        · refine s_y y_mv<|s_y y_fa<|s_y (y_ld (b:=b1) (v:=I l))<|s_pure (fun w' hw=>gCheck_ok w' l)<|s_ifd (y_eql (p:=chk l) (q:=0)) (fun h27=>?_) (fun h27=>?_)
          · refine s_y y_pk<|s_y y_as<|s_nil<|q_then<|c_seq<|c_reg<|s_y y_fa<|s_y (y_ld (b:=b1) (v:=I (-1)))<|s_pure (fun w' hw=>pDev_lo w' (-1) (by decide))<|s_y y_mv<|s_no<|s_no<|s_no<|s_no<|s_no<|s_y y_pk<|s_y y_mv<|s_no<|s_no<|s_no<|s_no<|s_no<|s_no<|s_no<|s_y y_pk<|s_y y_as<|s_nil<|q_then<|c_seq<|c_seq<|c_reg<|s_y y_fa<|s_y (y_ld (b:=b1) (v:=I 3))<|s_nil<|q_then<|c_block<|c_seq<|c_reg<|s_kf (y_eql (p:=3) (q:=1)) (by omega)<|s_y y_as<|s_nil<|q_then<|c_f<|c_seq<|c_reg<|s_kf (y_eql (p:=3) (q:=2)) (by omega)<|s_y y_as<|s_nil<|q_then<|c_f<|c_seq<|c_reg<|s_kt (y_eql (p:=3) (q:=3)) (by omega)<|s_y y_as<|s_nil<|q_then<|c_t<|c_seq<|c_reg<|s_y y_mv<|s_y y_mv<|s_y y_fa<|s_y (y_ld (b:=b1) (v:=I (-1)))<|s_kt (y_eql (p:=(-1)) (q:=(-1))) (by omega)<|s_y y_pk<|s_y y_as<|s_nil<|q_then<|c_ret<|q_retb<|q_ret<|?_
            exact ret1 Tryz.results93 rv_t fun w' hw=>⟨by rw [show crB d v l ver = true from crB_t.2 ⟨by omega,by omega,by omega,by omega⟩],hw.sub (List.nil_sublist _)⟩
          · refine s_y y_pk<|s_y y_as<|s_nil<|q_then<|c_seq<|c_reg<|s_y y_fa<|s_y (y_ld (b:=b1) (v:=I (-1)))<|s_pure (fun w' hw=>pDev_lo w' (-1) (by decide))<|s_y y_mv<|s_no<|s_no<|s_no<|s_no<|s_no<|s_y y_pk<|s_y y_mv<|s_no<|s_no<|s_no<|s_no<|s_no<|s_no<|s_no<|s_y y_pk<|s_y y_as<|s_nil<|q_then<|c_seq<|c_seq<|c_reg<|s_y y_fa<|s_y (y_ld (b:=b1) (v:=I 3))<|s_nil<|q_then<|c_block<|c_seq<|c_reg<|s_kf (y_eql (p:=3) (q:=1)) (by omega)<|s_y y_as<|s_nil<|q_then<|c_f<|c_seq<|c_reg<|s_kf (y_eql (p:=3) (q:=2)) (by omega)<|s_y y_as<|s_nil<|q_then<|c_f<|c_seq<|c_reg<|s_kt (y_eql (p:=3) (q:=3)) (by omega)<|s_y y_as<|s_nil<|q_then<|c_t<|c_seq<|c_reg<|s_y y_mv<|s_y y_mv<|s_no<|s_no<|s_no<|s_y y_pk<|s_y y_as<|s_nil<|q_then<|c_ret<|q_retb<|q_ret<|?_
            exact ret1 Tryz.results93 rv_t fun w' hw=>⟨by rw [show crB d v l ver = false from crB_f.2 fun h9=>by have h1:=h9.d; have h2:=h9.ver; have h3:=h9.v; have h4:=h9.l; omega],hw.sub (List.nil_sublist _)⟩
        · refine s_y y_mv<|s_no<|s_no<|s_no<|s_no<|s_y y_pk<|s_y y_as<|s_nil<|q_then<|c_seq<|c_reg<|s_y y_fa<|s_y (y_ld (b:=b1) (v:=I (-1)))<|s_pure (fun w' hw=>pDev_lo w' (-1) (by decide))<|s_y y_mv<|s_no<|s_no<|s_no<|s_no<|s_no<|s_y y_pk<|s_y y_mv<|s_no<|s_no<|s_no<|s_no<|s_no<|s_no<|s_no<|s_y y_pk<|s_y y_as<|s_nil<|q_then<|c_seq<|c_seq<|c_reg<|s_y y_fa<|s_y (y_ld (b:=b1) (v:=I 3))<|s_nil<|q_then<|c_block<|c_seq<|c_reg<|s_kf (y_eql (p:=3) (q:=1)) (by omega)<|s_y y_as<|s_nil<|q_then<|c_f<|c_seq<|c_reg<|s_kf (y_eql (p:=3) (q:=2)) (by omega)<|s_y y_as<|s_nil<|q_then<|c_f<|c_seq<|c_reg<|s_kt (y_eql (p:=3) (q:=3)) (by omega)<|s_y y_as<|s_nil<|q_then<|c_t<|c_seq<|c_reg<|s_y y_mv<|s_y y_mv<|s_no<|s_no<|s_no<|s_y y_pk<|s_y y_as<|s_nil<|q_then<|c_ret<|q_retb<|q_ret<|?_
          exact ret1 Tryz.results93 rv_t fun w' hw=>⟨by rw [show crB d v l ver = false from crB_f.2 fun h9=>by have h1:=h9.d; have h2:=h9.ver; have h3:=h9.v; have h4:=h9.l; omega],hw.sub (List.nil_sublist _)⟩
  · refine s_pure (fun w' hw=>pDev_ok w' d false ⟨fun h9=>absurd h9 h7,fun h9=>by cases h9⟩)<|s_y (v:=.bool true) (y_not (b:=false))<|s_y y_mv<|s_no<|s_no<|s_no<|s_y y_pk<|s_y y_mv<|s_no<|s_no<|s_no<|s_y y_pk<|s_nil<|q_then<|c_t<|c_seq<|c_reg<|s_y y_as<|s_nil<|q_then<|c_ret<|q_ret<|?_
    exact ret1 Tryz.results93 rv_t fun w' hw=>⟨by rw [show crB d v l ver = false from crB_f.2 fun h9=>by have h1:=h9.d; have h2:=h9.ver; have h3:=h9.v; have h4:=h9.l; omega],hw.sub (List.nil_sublist _)⟩
theorem pMsg_ok (w:World) (k d v l ver by' r s:Int) (hg:LS w) (hR:∀ n ∈ [k,d,v,l,ver,by'],R64 n) :
    Gives Tryz.prog 94 [.agg #[I k,I d,I v,I l,I ver,I by',I r,I s]] w [] (fun b:Nat=>.slice (some ⟨b,0,none⟩) 32 32) (fun b=>[.blk b (.cells (bs (cmsg [k,d,v,l,ver,by'])).toArray 95 (0,0))]) (fun _=>True):=by
  obtain ⟨ns,hns⟩:∃ ns,ns = [k,d,v,l,ver,by']:=⟨_,rfl⟩
  rw [← hns] at hR
  have hl6:ns.length = 6:=by rw [hns]; rfl
  have hel:=iv_len hR (by omega)
  have hm:tagged lbCert (ivE ns) = cmsg ns:=rfl
  refine enter Tryz.func94 Tryz.ntmps94 ?_
  refine c_seq<|c_reg<|s_box rfl fun b1=>s_y y_as<|s_nil<|q_then<|c_seq<|c_reg<|s_y (y_bval (cs:=[I 3,I 0,.string (sb []),.slice none 0 0]))<|s_alloc fun b3=>s_sta (b:=b3) (vs:=#[I 3,I 0,.string (sb []),.slice none 0 0]) (cs:=#[I 0,I 0,.string .empty,.slice none 0 0]) (h1:=by intro u hu; simp at hu; rcases hu with rfl | rfl | rfl | rfl <;> rfl) (hl:=rfl) (hs1:=rfl) ?_
  refine s_nil<|q_then<|c_seq<|c_seq<|c_reg<|s_y y_fa<|s_y (y_ld (b:=b1) (v:=I k))<|s_y y_fa<|s_y (y_ld (b:=b1) (v:=I d))<|s_y y_fa<|s_y (y_ld (b:=b1) (v:=I v))<|s_y y_fa<|s_y (y_ld (b:=b1) (v:=I l))<|s_y y_fa<|s_y (y_ld (b:=b1) (v:=I ver))<|s_y y_fa<|s_y (y_ld (b:=b1) (v:=I by'))<|s_y (y_blda (cs:=is [k,d,v,l,ver,by']))<|?_
  rw [← hns]
  refine s_y y_mv<|s_nil<|q_then<|c_nilrow 92 4<|c_block<|?_
  refine c_loop3 (fun (j:Nat) (a':Option Addr) (c':Nat)=>[(3,.pointer (some ⟨b3,0,none⟩)),(22,.agg (is ns).toArray),(23,I j)]) (fun j a' c'=>[.row a' c' 92 4 j (fcells ((ns.take j).map vI)),.blk b3 (.cells #[I 3,I 0,.string (sb []),.slice a' j c'] 92 (0,0))]) (fun j _ _=>j ≤ 6) (fun j _ _=>6 - j) 0 none 0 (by omega) ⟨rfl,rfl,rfl,trivial⟩ (.cons_cons _ (.cons_cons _ (List.nil_sublist _))) ?_
  intro j a' c' hk
  refine c_seq<|c_reg<|s_y (y_lss (p:=((j:Nat):Int)) (q:=6))<|s_nil<|q_then<|c_seq<|c_ifd (fun h24=>?_) (fun h24=>?_)
  · have hk6:j < 6:=by omega
    obtain ⟨z,hz⟩:∃ z,ns[j]? = some z:=⟨_,List.getElem?_eq_getElem (by omega)⟩
    have hix:(is ns).toArray[j]? = some (I z):=by rw [List.getElem?_toArray,is,List.getElem?_map,hz]; rfl
    refine c_skip<|q_then<|c_seq<|c_block<|c_seq<|c_reg<|s_y (y_ixv (v:=I z) j hix)<|s_y y_as<|s_nil<|q_then<|c_reg<|s_y y_fa<|s_y (y_ld (b:=b3) (v:=.slice a' j c'))<|s_y y_mv<|s_y (y_bval (cs:=[I 1,I z,.string (sb []),.slice none 0 0]))<|s_bslr (cs:=[I 1,I z,.string (sb []),.slice none 0 0]) fun b30=>s_app (m:=1) (fun w' hw=>Src.slice (rdR (.head _) w' hw) rfl) (h1:=fun v hv=>by simp at hv; rcases hv with rfl | rfl | rfl | rfl <;> rfl) (hm:=.tail _ (.head _)) (hrep:=fun _ _=>.tail _ (.head _)) fun a31 c31 h31=>s_y y_fa<|s_st (b:=b3) (off:=3) (v:=.slice a31 (j + 1) c31) (cs:=#[I 3,I 0,.string (sb []),.slice a' j c']) (hl:=show 3 < 4 by decide) ?_
    refine s_nil<|q_nb<|q_then<|c_reg<|s_y (y_add (p:=((j:Nat):Int)) (q:=1))<|s_y y_mv<|s_nil<|?_
    rw [show ((j:Nat):Int) + 1 = ((j + 1:Nat):Int) by omega]
    exact q_round3 (x:=j) (y:=a') (z:=c') (j + 1) a31 c31 (by omega) (by omega) ⟨rfl,rfl,rfl,trivial⟩ (by rw [iv_step hz]; exact .cons _ (.refl _))
  · obtain rfl:j = 6:=by omega
    rw [List.take_of_length_le (by omega)]
    refine c_exit<|q_ex<|q_ex<|q_exb<|q_then<|c_seq<|c_reg<|s_y (y_lda (b:=b3) (cs:=#[I 3,I 0,.string (sb []),.slice a' 6 c']) (hl:=rfl))<|s_gives (fun w' hw=>EncodeN_iv w' ns 6 a' c' hl6 hR (by omega) (rdR (.head _) w' hw)) fun x36 _=>s_y y_mv<|s_y y_ext<|s_y y_ext<|s_y y_as<|s_y y_as<|s_nil<|q_then<|c_seq<|c_reg<|s_y y_mv<|s_pure (fun w' hw=>digest_Tagged_ok w' lbCert x36.1 x36.2 (ivE ns) (hg.st hw) (by decide) (rdR (.head _) w' hw) (by omega))<|?_
    rw [hm]
    refine s_alloc fun b8=>s_sta (b:=b8) (vs:=(bs (cmsg ns)).toArray) (cs:=(bs (List.replicate 32 0)).toArray) (h1:=fun v hv=>bs_one (by simpa using hv)) (hl:=((hz32 (cmsg_length _))).trans ((hz32 List.length_replicate)).symm) (hs1:=hz32 (cmsg_length _)) ?_
    refine s_nil<|q_then<|c_seq<|c_reg<|s_y y_sla<|s_y y_as<|s_nil<|q_then<|c_ret<|?_
    exact ret1 Tryz.results94 rv_t fun w' hw=>⟨b8,trivial,rfl,hw.sub (.cons_cons _ (List.nil_sublist _))⟩
theorem Certify3_yes (w:World) (d v l ver:Int) (x:Nat) (hc:CrRt d v l ver) (hg:LS w) (hx0:1 ≤ x) (hx:x < 2305843009213688669):Pure Tryz.prog 30 [I 3,I d,I v,I l,I ver,I (-1),I x] w (.tuple #[.agg #[I 3,I d,I v,I l,I ver,I (-1),I (sgR x (cmsg [3,d,v,l,ver,-1]):Nat),I (sgS x (cmsg [3,d,v,l,ver,-1]):Nat)],I 0]):=by
  have hR:∀ n ∈ [(3:Int),d,v,l,ver,-1],R64 n:=hc.r64 (by unfold R64; omega) (by have:=hc.d; unfold R64; omega)
  refine enter Tryz.func30 Tryz.ntmps30 ?_
  refine c_seq<|c_reg<|s_alloc fun b14=>s_y y_as<|s_nil<|q_then<|c_seq<|c_reg<|s_y y_mv<|s_y y_mv<|s_y y_mv<|s_y y_mv<|s_y y_mv<|s_y y_mv<|s_y (y_bcert (cs:=[I 3,I d,I v,I l,I ver,I (-1),I 0,I 0]))<|s_alloc fun b16=>s_sta (b:=b16) (vs:=#[I 3,I d,I v,I l,I ver,I (-1),I 0,I 0]) (cs:=(List.replicate 8 (I 0)).toArray) (h1:=one_allA rfl) (hl:=rfl) (hs1:=rfl) ?_
  refine s_nil<|q_then<|c_seq<|c_seq<|c_reg<|s_y (y_lda (b:=b16) (cs:=#[I 3,I d,I v,I l,I ver,I (-1),I 0,I 0]) (hl:=rfl))<|s_pure (fun w' hw=>(by have h9:=formed3_ok w' d v l ver 0 0; rw [crB_t.2 hc] at h9; exact h9))<|s_y (v:=.bool false) (y_not (b:=true))<|s_nil<|q_then<|c_f<|c_skip<|q_then<|c_seq<|c_reg<|s_y y_mv<|s_y (y_lda (b:=b16) (cs:=#[I 3,I d,I v,I l,I ver,I (-1),I 0,I 0]) (hl:=rfl))<|s_gives (fun w' hw=>pMsg_ok w' 3 d v l ver (-1) 0 0 (hg.st hw) hR) fun (x31:Nat) _=>s_pure (fun w' hw=>signQ w' (some ⟨x31,0,none⟩) 32 32 x (cmsg [3,d,v,l,ver,(-1)]) (hg.st hw) (cmsg_length _) (rd_blkB (e:=95) (.head _) w' hw) (by decide) hx0 hx)<|s_y y_mv<|s_y y_ext<|s_y y_ext<|s_y y_fa<|s_stinR (b:=b16) (off:=6) (cs:=[I 3,I d,I v,I l,I ver,I (-1),I 0,I 0]) (vs:=[I (sgR x (cmsg [3,d,v,l,ver,(-1)]):Nat),I (sgS x (cmsg [3,d,v,l,ver,(-1)]):Nat)]) (cs':=[I 3,I d,I v,I l,I ver,I (-1),I (sgR x (cmsg [3,d,v,l,ver,(-1)]):Nat),I (sgS x (cmsg [3,d,v,l,ver,(-1)]):Nat)]) (hcs:=rfl) (hl:=show 6 + 2 ≤ 8 by decide) (h1:=by intro u hu; simp at hu; rcases hu with rfl | rfl <;> rfl) (hs1:=rfl) ?_
  refine s_y y_as<|s_nil<|q_then<|c_seq<|c_seq<|c_reg<|s_y y_mv<|s_nf (y_neq (p:=0) (q:=0)) (by omega)<|s_nil<|q_then<|c_f<|c_skip<|q_then<|c_seq<|c_reg<|s_y (y_lda (b:=b16) (cs:=#[I 3,I d,I v,I l,I ver,I (-1),I (sgR x (cmsg [3,d,v,l,ver,(-1)]):Nat),I (sgS x (cmsg [3,d,v,l,ver,(-1)]):Nat)]) (hl:=rfl))<|s_sta (b:=b14) (vs:=#[I 3,I d,I v,I l,I ver,I (-1),I (sgR x (cmsg [3,d,v,l,ver,(-1)]):Nat),I (sgS x (cmsg [3,d,v,l,ver,(-1)]):Nat)]) (cs:=(List.replicate 8 (I 0)).toArray) (h1:=one_allA rfl) (hl:=rfl) (hs1:=rfl) ?_
  refine s_y y_as<|s_nil<|q_then<|c_ret<|?_
  exact ret2 Tryz.results30 (rv_ca (b:=b14) (cs:=#[I 3,I d,I v,I l,I ver,I (-1),I (sgR x (cmsg [3,d,v,l,ver,(-1)]):Nat),I (sgS x (cmsg [3,d,v,l,ver,(-1)]):Nat)]) (hl:=rfl)) rv_t fun w' hw=>⟨rfl,hw.sub (List.nil_sublist _)⟩
theorem State2_ok (w:World) (b4 b3:Nat) (x:Vt) (p:Pn) (c:Cs) (ga aa va:Option Addr) (gc ac vc:Nat) (hst:1 ≤ c.st ∧ c.st ≤ 65536) (hcl:1 ≤ p.cool ∧ p.cool ≤ 1048576) (h4:Rd w (some ⟨b4,0,none⟩) [I c.p,I c.d,I c.v,I c.l,I c.st,.slice aa c.ap.length ac,.slice va c.vt.length vc]) (h3:Rd w (some ⟨b3,0,none⟩) [I p.id,I p.rk,.slice ga p.gs.length gc,I p.need,I p.cool]) :
    Pure Tryz.prog 96 [.agg x.cell.toArray,.pointer (some ⟨b4,0,none⟩),.pointer (some ⟨b3,0,none⟩)] w (.bool (decide (c.st ≤ x.no ∧ x.no ≤ c.st + p.cool - 1))):=by
  show Pure Tryz.prog 96 [.agg #[I x.d,I x.no,I x.r,I x.s],.pointer (some ⟨b4,0,none⟩),.pointer (some ⟨b3,0,none⟩)] w _
  refine enter Tryz.func96 Tryz.ntmps96 ?_
  refine c_seq<|c_reg<|s_box rfl fun b2=>s_y y_as<|s_nil<|q_then<|c_seq<|c_reg<|s_y y_fa<|s_y (y_ld (b:=b2) (v:=I x.no))<|s_y y_fa<|s_y (y_ldr (a:=some ⟨b4,0,none⟩) (i:=4) (xs:=[I c.p,I c.d,I c.v,I c.l,I c.st,.slice aa c.ap.length ac,.slice va c.vt.length vc]) (v:=I c.st) rfl (hr:=rdW0 h4))<|s_y y_fa<|s_y (y_ldr (a:=some ⟨b4,0,none⟩) (i:=4) (xs:=[I c.p,I c.d,I c.v,I c.l,I c.st,.slice aa c.ap.length ac,.slice va c.vt.length vc]) (v:=I c.st) rfl (hr:=rdW0 h4))<|s_y y_fa<|s_y (y_ldr (a:=some ⟨b3,0,none⟩) (i:=4) (xs:=[I p.id,I p.rk,.slice ga p.gs.length gc,I p.need,I p.cool]) (v:=I p.cool) rfl (hr:=rdW0 h3))<|s_y (y_add (p:=c.st) (q:=p.cool))<|s_y (y_sub (p:=c.st + p.cool) (q:=1))<|s_pure (fun w' hw=>between_ok w' x.no c.st (c.st + p.cool - 1) _ decide_eq_true_iff.symm)<|s_y y_as<|s_nil<|q_then<|c_ret<|?_
  exact ret1 Tryz.results96 rv_t fun w' hw=>⟨rfl,hw.sub (List.nil_sublist _)⟩
theorem State_ok (w:World) (p:Pn) (c:Cs) (now:Int) (ga aa va:Option Addr) (gc ac vc:Nat) (hrg:Rd w ga (is p.gs)) (hra:Rd w aa (apc c.ap)) (hrv:Rd w va (vtc c.vt)) (hgl:p.gs.length ≤ 1000000) (hal:c.ap.length ≤ 1000000) (hvl:c.vt.length ≤ 1000000):Pure Tryz.prog 31 [.agg #[I p.id,I p.rk,.slice ga p.gs.length gc,I p.need,I p.cool],.agg #[I c.p,I c.d,I c.v,I c.l,I c.st,.slice aa c.ap.length ac,.slice va c.vt.length vc],I now] w (I (stE p c now)):=by
  refine enterD Tryz.func31 Tryz.ntmps31 ?_
  refine c_seq<|c_reg<|s_box rfl fun b3=>s_box rfl fun b4=>s_alloc fun b6=>s_nil<|q_then<|c_seq<|c_reg<|s_y y_func<|s_deferC<|s_nil<|q_then<|c_seq<|c_reg<|s_y (y_lda (b:=b3) (cs:=#[I p.id,I p.rk,.slice ga p.gs.length gc,I p.need,I p.cool]) (hl:=rfl))<|?_
  by_cases h9:Prs p
  · refine s_pure (fun w' hw=>(by have h8:=valid_ok w' p ga gc (hrg.st hw) (by omega); rw [prsB_t.2 h9] at h8; exact h8))<|s_pure (fun w' hw=>demand_ok w' 371)<|s_nil<|q_then<|c_seq<|c_reg<|s_y (y_lda (b:=b3) (cs:=#[I p.id,I p.rk,.slice ga p.gs.length gc,I p.need,I p.cool]) (hl:=rfl))<|s_y (y_lda (b:=b4) (cs:=#[I c.p,I c.d,I c.v,I c.l,I c.st,.slice aa c.ap.length ac,.slice va c.vt.length vc]) (hl:=rfl))<|?_
    by_cases h13:Blg p c
    · refine s_pure (fun w' hw=>(by have h8:=belongs_ok w' p c ga aa va gc ac vc h9 (hrg.st hw) (hra.st hw) (hrv.st hw) hal hvl; rw [blgB_t.2 h13] at h8; exact h8))<|s_pure (fun w' hw=>demand_ok w' 390)<|s_nil<|q_then<|c_seq<|c_reg<|s_y y_fa<|s_y (y_ld (b:=b4) (v:=.slice va c.vt.length vc))<|s_y y_func<|?_
      by_cases h18:(c.vt.any (fun v:Vt=>decide (c.st ≤ v.no ∧ v.no ≤ c.st + p.cool - 1))) = true
      · refine s_pure (fun w' hw=>(by have h8:=CoF_Vt w' va vc c.vt 96 [.pointer (some ⟨b4,0,none⟩),.pointer (some ⟨b3,0,none⟩)] (fun v:Vt=>decide (c.st ≤ v.no ∧ v.no ≤ c.st + p.cool - 1)) (hrv.st hw) (by omega) (fun x _ w2 h2=>State2_ok w2 b4 b3 x p c ga aa va gc ac vc h13.fs h9.cool ((rd0B hw (xs:=[I c.p,I c.d,I c.v,I c.l,I c.st,.slice aa c.ap.length ac,.slice va c.vt.length vc]) (.tail _ (.head _))).st h2) ((rd0B hw (xs:=[I p.id,I p.rk,.slice ga p.gs.length gc,I p.need,I p.cool]) (.tail _ (.tail _ (.head _)))).st h2)); rw [h18] at h8; exact h8))<|s_y (v:=.bool false) (y_not (b:=true))<|s_dies (fun w' hw=>demand_dies w' 392)<|q_pt<|?_
        exact leave_P (fun w' hw=>rcState_P w' b6 0 392 (hw.own _ (.head _)).1) Tryz.results31 (.refl _) (.cons (rv_cf (b:=b6) (v:=I 392)) .nil) fun w' hw=>⟨by rw [show stE p c now = 392 from stE_392 h9 h13 h18]; first | rfl | done,hw.sub (List.nil_sublist _)⟩
      · refine s_pure (fun w' hw=>(by have h8:=CoF_Vt w' va vc c.vt 96 [.pointer (some ⟨b4,0,none⟩),.pointer (some ⟨b3,0,none⟩)] (fun v:Vt=>decide (c.st ≤ v.no ∧ v.no ≤ c.st + p.cool - 1)) (hrv.st hw) (by omega) (fun x _ w2 h2=>State2_ok w2 b4 b3 x p c ga aa va gc ac vc h13.fs h9.cool ((rd0B hw (xs:=[I c.p,I c.d,I c.v,I c.l,I c.st,.slice aa c.ap.length ac,.slice va c.vt.length vc]) (.tail _ (.head _))).st h2) ((rd0B hw (xs:=[I p.id,I p.rk,.slice ga p.gs.length gc,I p.need,I p.cool]) (.tail _ (.tail _ (.head _)))).st h2)); rw [Bool.eq_false_iff.2 h18] at h8; exact h8))<|s_y (v:=.bool true) (y_not (b:=false))<|s_pure (fun w' hw=>demand_ok w' 392)<|s_nil<|q_then<|c_seq<|c_reg<|s_y y_mv<|s_y y_fa<|s_y (y_ld (b:=b4) (v:=I c.st))<|s_y y_fa<|s_y (y_ld (b:=b3) (v:=I p.cool))<|s_y (y_add (p:=c.st) (q:=p.cool) (hr:=by have:=h13.fs; have:=h9.cool; unfold R64; omega))<|s_ifd (y_geq (p:=now) (q:=c.st + p.cool)) (fun h27=>?_) (fun h27=>?_)
        · refine s_pure (fun w' hw=>demand_ok w' 391)<|s_nil<|q_then<|c_seq<|c_reg<|s_y y_fa<|s_y (y_ld (b:=b4) (v:=.slice aa c.ap.length ac))<|s_y y_len<|s_y y_fa<|s_y (y_ld (b:=b3) (v:=I p.need))<|s_ifd (y_geq (p:=c.ap.length) (q:=p.need)) (fun h34=>?_) (fun h34=>?_)
          · refine s_pure (fun w' hw=>demand_ok w' 390)<|s_nil<|q_then<|c_seq<|c_reg<|s_st (b:=b6) (v:=I 0) (cs:=#[I 0]) (hl:=by simp) ?_
            refine s_nil<|q_then<|c_ret<|?_
            exact leave_R (cs:=[.pointer (some ⟨b6,0,none⟩)]) (fun w' hw=>rcState_R w' b6) Tryz.results31 (.cons (rv_cf (v:=I 0)) .nil) fun w' hw=>⟨by rw [show stE p c now = 0 from stE_0 h9 h13 h18 (by omega) (by omega)]; first | rfl | done,hw.sub (List.nil_sublist _)⟩
          · refine s_dies (fun w' hw=>demand_dies w' 390)<|q_pt<|?_
            exact leave_P (fun w' hw=>rcState_P w' b6 0 390 (hw.own _ (.head _)).1) Tryz.results31 (.refl _) (.cons (rv_cf (b:=b6) (v:=I 390)) .nil) fun w' hw=>⟨by rw [show stE p c now = 390 from stE_few h9 h13 h18 (by omega) (by omega)]; first | rfl | done,hw.sub (List.nil_sublist _)⟩
        · refine s_dies (fun w' hw=>demand_dies w' 391)<|q_pt<|?_
          exact leave_P (fun w' hw=>rcState_P w' b6 0 391 (hw.own _ (.head _)).1) Tryz.results31 (.refl _) (.cons (rv_cf (b:=b6) (v:=I 391)) .nil) fun w' hw=>⟨by rw [show stE p c now = 391 from stE_391 h9 h13 h18 (by omega)]; first | rfl | done,hw.sub (List.nil_sublist _)⟩
    · refine s_pure (fun w' hw=>(by have h8:=belongs_ok w' p c ga aa va gc ac vc h9 (hrg.st hw) (hra.st hw) (hrv.st hw) hal hvl; rw [blgB_f.2 h13] at h8; exact h8))<|s_dies (fun w' hw=>demand_dies w' 390)<|q_pt<|?_
      exact leave_P (fun w' hw=>rcState_P w' b6 0 390 (hw.own _ (.head _)).1) Tryz.results31 (.refl _) (.cons (rv_cf (b:=b6) (v:=I 390)) .nil) fun w' hw=>⟨by rw [show stE p c now = 390 from stE_390 h9 h13]; first | rfl | done,hw.sub (List.nil_sublist _)⟩
  · refine s_pure (fun w' hw=>(by have h8:=valid_ok w' p ga gc (hrg.st hw) (by omega); rw [prsB_f.2 h9] at h8; exact h8))<|s_dies (fun w' hw=>demand_dies w' 371)<|q_pt<|?_
    exact leave_P (fun w' hw=>rcState_P w' b6 0 371 (hw.own _ (.head _)).1) Tryz.results31 (.refl _) (.cons (rv_cf (b:=b6) (v:=I 371)) .nil) fun w' hw=>⟨by rw [show stE p c now = 371 from stE_371 h9]; first | rfl | done,hw.sub (List.nil_sublist _)⟩
end Go.Proofs.YtojohglifijnnaaGreatDoor
end
section
namespace Eng
open Go
theorem at_sub {cs:Array Value} {ys:List Value} {off:Nat} (h:(cs.toList.drop off).take ys.length = ys):∀ (j:Nat) (v:Value),ys[j]? = some v → cs[off + j]? = some v:=fun j v hj=>by
  have hlt:=(List.getElem?_eq_some_iff.1 hj).1
  rw [← h,List.getElem?_take_of_lt (by simpa using hlt),List.getElem?_drop] at hj
  simpa using hj
end Eng
namespace Rst
open Go Eng
def Ap.key (x:Ap):Int × Int × List UInt8 × Int × Int:=(x.g,x.u,x.q,x.r,x.s)
end Rst
namespace Go.Proofs.YtojohglifijnnaaGreatDoor
open Go Eng Gf Sha Sig Wr Cod Cha Rst
set_option maxRecDepth 100000
set_option linter.all false
end Go.Proofs.YtojohglifijnnaaGreatDoor
end
section
namespace Eng
open Go Go.RowKit
theorem take_mid {L vs:List Value} {i N:Nat} (h:i + vs.length ≤ N) (hN:N ≤ L.length):(L.take (i + 0) ++ vs ++ L.drop (i + 0 + vs.length)).take N = (L.take N).take i ++ vs ++ (L.take N).drop (i + vs.length):=by
  obtain ⟨A,B,rfl,hA⟩:∃ A B,L = A ++ B ∧ A.length = N:=⟨L.take N,L.drop N,(List.take_append_drop _ _).symm,by rw [List.length_take]; omega⟩
  rw [Nat.add_zero,List.take_append_of_le_length (l₁:=A) (l₂:=B) (i:=i) (by omega),List.drop_append_of_le_length (l₁:=A) (l₂:=B) (i:=i + vs.length) (by omega),List.take_left' hA,← List.append_assoc]
  exact List.take_left' (by simp; omega)
section
variable {r:Option Nat} {P:Program} {n:Nat} {D:List Deferred} {W:World} {Bo:List Nat} {F:List (Nat × Value)} {l l':SH}
  {ty:TypeId} {ps:String} {af:Array Edge} {g:Option (Nat × Bool)} {x y:Operand} {t:TypeId}
  {Q:Exit → Act → World → Prop} {ops:Array Oper} {rest:List Oper}
theorem s_strA {s by':Nat} [hs:HS P t s by'] {a:Option Addr} {i cc k se:Nat} {et:TypeId} {xs ys vs:List Value} (h:LP r P n D W Bo ops Q rest F l')
    (hcs:xs.take i ++ vs ++ xs.drop (i + vs.length) = ys) (hi:i + vs.length ≤ xs.length) (h1:∀ u ∈ vs,u.oneCell' = true) (hs1:vs.length = s)
    (hx:evO F x = some (.pointer (some (ad a i))):=by rfl) (hv:evO F y = some (.agg vs.toArray):=by rfl)
    (hr:Rep (.row a cc et se k xs) (.row a cc et se k ys) l l':=by repeat (first | exact .head _ | apply Rep.tail)) (h0:0 < vs.length:=by exact Nat.zero_lt_succ _) (hg:Wn ops F g:=by first | exact .none | exact .some rfl rfl) :
    LP r P n D W Bo ops Q (⟨none,.store t x y,ty,ps,af,g⟩ :: rest) F l:=by
  refine s_unit (by simp) (fun ac w ha hw=>?_) (hg:=hg) (h:=h)
  obtain ⟨hl,hkc,hown⟩:=(hw.own _ hr.mem).1
  have hyl:ys.length = xs.length:=by rw [← hcs]; simp; omega
  rcases hown with ⟨rfl,rfl⟩ | ⟨b,cur,rfl,hb,hcm,hcs',htake⟩
  · obtain rfl:k = 0:=by omega
    rw [Nat.zero_mul] at hl; omega
  · have hmul:k * se ≤ cc * se:=Nat.mul_le_mul_right _ hkc
    have hcur:k * se ≤ cur.toList.length:=by rw [Array.length_toList,hcs']; exact hmul
    have h2:=run_storeCells_at P b i et vs 0 cur w hb (by rw [← Array.length_toList]; omega) h1
    obtain ⟨cs,hce⟩:∃ cs,cs = (cur.toList.take (i + 0) ++ vs ++ cur.toList.drop (i + 0 + vs.length)).toArray:=⟨_,rfl⟩
    rw [← hce] at h2
    have hsz:cs.size = cur.size:=by rw [hce]; simp; rw [← Array.length_toList]; omega
    refine ⟨w.setRow b cs,?_,hw.change hr rfl rfl rfl (by simp) (fun k _ hk=>setRow_other w b _ k (fun e=>hk (by rw [e]; rfl))) ⟨by rw [hyl]; exact hl,hkc,.inr ⟨b,_,rfl,setRow_heap w b cur _ et (0,0) hb,hcm,by rw [hsz]; exact hcs',?_⟩⟩ (fun k hk=>.inl hk)⟩
    · simp only [execOp,ha.eval hx,ha.eval hv,Instr.storeAt,Instr.sureAddr,storeVar,Sem.run_bind,Sem.run_pure,Result.andThen_ok,run_sizeOf' hs,Value.cells,ad,Option.getD_some,Nat.zero_add]
      rw [if_neg (by simp [hs1])]
      rw [h2]
      rfl
    · rw [hce,← hcs,← htake]
      exact take_mid (by rw [← hl]; exact hi) hcur
end
end Eng
namespace Rst
open Go Eng Gf Go.Proofs.YtojohglifijnnaaGreatDoor
def cmpI (a b:Int):Int:=if a < b then -1 else if b < a then 1 else 0
theorem cmpI_lt {a b:Int}:cmpI a b < 0 ↔ a < b:=by
  unfold cmpI
  split
  · omega
  · split <;> omega
def bub:List (Int × Int) → Nat → List (Int × Int)
  | l,0=>l
  | l,m + 1=>if (l.getD (m + 1) (0,0)).1 < (l.getD m (0,0)).1 then bub ((l.set (m + 1) (l.getD m (0,0))).set m (l.getD (m + 1) (0,0))) m else l
theorem bub_length:∀ (m:Nat) (l:List (Int × Int)),(bub l m).length = l.length
  | 0,_=>rfl
  | m + 1,l=>by
    unfold bub
    split
    · rw [bub_length m]; simp
    · rfl
def srtN (l:List (Int × Int)):Nat → List (Int × Int)
  | 0=>l
  | k + 1=>bub (srtN l k) (k + 1)
theorem srtN_length (l:List (Int × Int)):∀ k,(srtN l k).length = l.length
  | 0=>rfl
  | k + 1=>by rw [srtN,bub_length,srtN_length l k]
def isort (l:List (Int × Int)):List (Int × Int):=srtN l (l.length - 1)
theorem getD_of {l:List (Int × Int)} {k:Nat} {x:Int × Int} (h:l[k]? = some x):l.getD k (0,0) = x:=by rw [List.getD_eq_getElem?_getD,h]; rfl
theorem bub_lt {l:List (Int × Int)} {m:Nat} {x y:Int × Int} (hx:l[m + 1]? = some x) (hy:l[m]? = some y) (h:x.1 < y.1):bub l (m + 1) = bub ((l.set (m + 1) y).set m x) m:=by
  conv=>lhs; unfold bub
  rw [getD_of hx,getD_of hy,if_pos h]
theorem bub_ge {l:List (Int × Int)} {m:Nat} {x y:Int × Int} (hx:l[m + 1]? = some x) (hy:l[m]? = some y) (h:¬ x.1 < y.1):bub l (m + 1) = l:=by
  conv=>lhs; unfold bub
  rw [getD_of hx,getD_of hy,if_neg h]
theorem shc_cons (x:Int × Int) (l:List (Int × Int)):shc (x :: l) = I x.1 :: I x.2 :: shc l:=rfl
theorem shc_atA {l:List (Int × Int)} {i:Nat} {x:Int × Int} (hx:l[i]? = some x) {j:Nat} {v:Value} (hv:[I x.1,I x.2][j]? = some v):(shc l)[i * 2 + j]? = some v:=flat_mid (f:=fun s:Int × Int=>[I s.1,I s.2]) (m:=2) (fun _=>rfl) hx hv
theorem shc_set:∀ {l:List (Int × Int)} {i:Nat} {v:Int × Int},i < l.length → (shc l).take (i * 2) ++ [I v.1,I v.2] ++ (shc l).drop (i * 2 + [I v.1,I v.2].length) = shc (l.set i v)
  | x :: l,0,v,_=>by simp [shc_cons]
  | x :: l,i + 1,v,h=>by
    have h9:=shc_set (l:=l) (i:=i) (v:=v) (by simpa using h)
    rw [List.set_cons_succ,shc_cons,shc_cons,← h9,show (i + 1) * 2 = i * 2 + 2 by omega]
    simp [Nat.add_right_comm _ 2]
end Rst
namespace Go.Proofs.YtojohglifijnnaaGreatDoor
open Go Eng Gf Sha Sig Wr Cod Cha Rst
set_option maxRecDepth 100000
set_option linter.all false
theorem isNaN_ok (w:World) (n:Int):Pure Tryz.prog 152 [I n] w (.bool false):=by
  refine enter Tryz.func152 Tryz.ntmps152 ?_
  refine c_seq<|c_reg<|s_y y_as<|s_nil<|q_then<|c_seq<|c_reg<|s_y y_mv<|s_y y_mv<|s_nf (y_neq (p:=n) (q:=n)) rfl<|s_y y_as<|s_nil<|q_then<|c_ret<|?_
  exact ret1 Tryz.results152 rv_t fun w' hw=>⟨rfl,hw.sub (List.nil_sublist _)⟩
theorem Compare_ok (w:World) (a b:Int):Pure Tryz.prog 91 [I a,I b] w (I (cmpI a b)):=by
  refine enter Tryz.func91 Tryz.ntmps91 ?_
  refine c_seq<|c_reg<|s_y y_as<|s_nil<|q_then<|c_seq<|c_reg<|s_y y_mv<|s_pure (fun w' hw=>isNaN_ok w' a)<|s_y y_as<|s_nil<|q_then<|c_seq<|c_reg<|s_y y_mv<|s_pure (fun w' hw=>isNaN_ok w' b)<|s_y y_as<|s_nil<|q_then<|c_seq<|c_seq<|c_reg<|s_y y_mv<|s_nil<|q_then<|c_f<|c_skip<|q_then<|c_seq<|c_seq<|c_reg<|s_y y_mv<|s_nil<|q_then<|c_f<|c_skip<|q_then<|c_seq<|c_seq<|c_reg<|s_y y_mv<|s_y y_mv<|s_y (y_lss (p:=a) (q:=b))<|s_nil<|q_then<|c_ifd (fun h16=>?_) (fun h16=>?_)
  · refine c_seq<|c_reg<|s_y y_as<|s_nil<|q_then<|c_ret<|q_ret<|?_
    exact ret1 Tryz.results91 rv_t fun w' hw=>⟨by rw [show cmpI a b = (-1) from by unfold cmpI; repeat (first | rw [if_pos (by omega)] | rw [if_neg (by omega)])],hw.sub (List.nil_sublist _)⟩
  · refine c_skip<|q_then<|c_seq<|c_seq<|c_reg<|s_y y_mv<|s_y y_mv<|s_y (y_gtr (p:=a) (q:=b))<|s_nil<|q_then<|c_ifd (fun h19=>?_) (fun h19=>?_)
    · refine c_seq<|c_reg<|s_y y_as<|s_nil<|q_then<|c_ret<|q_ret<|?_
      exact ret1 Tryz.results91 rv_t fun w' hw=>⟨by rw [show cmpI a b = 1 from by unfold cmpI; repeat (first | rw [if_pos (by omega)] | rw [if_neg (by omega)])],hw.sub (List.nil_sublist _)⟩
    · refine c_skip<|q_then<|c_seq<|c_reg<|s_y y_as<|s_nil<|q_then<|c_ret<|?_
      exact ret1 Tryz.results91 rv_t fun w' hw=>⟨by rw [show cmpI a b = 0 from by unfold cmpI; repeat (first | rw [if_pos (by omega)] | rw [if_neg (by omega)])],hw.sub (List.nil_sublist _)⟩
theorem Finish2_ok (w:World) (x y:Int × Int):Pure Tryz.prog 90 [.agg #[I x.1,I x.2],.agg #[I y.1,I y.2]] w (I (cmpI x.1 y.1)):=by
  refine enter Tryz.func90 Tryz.ntmps90 ?_
  refine c_seq<|c_reg<|s_box rfl fun b2=>s_box rfl fun b3=>s_y y_as<|s_nil<|q_then<|c_seq<|c_reg<|s_y y_fa<|s_y (y_ld (b:=b2) (v:=I x.1))<|s_y y_fa<|s_y (y_ld (b:=b3) (v:=I y.1))<|s_pure (fun w' hw=>Compare_ok w' x.1 y.1)<|s_y y_as<|s_nil<|q_then<|c_ret<|?_
  exact ret1 Tryz.results90 rv_t fun w' hw=>⟨rfl,hw.sub (List.nil_sublist _)⟩
theorem insS_ok (w:World) (a:Option Addr) (c n:Nat) (l:List (Int × Int)) (hn:l.length = n) (hn2:n ≤ 1000) (hp:(Res.row a c 46 2 n (shc l)).holds w) :
    Gives Tryz.prog 195 [.slice a n c,I 0,I n,.func (.func 90) #[] #[]] w (keys [.row a c 46 2 n (shc l)]) (fun _:Unit=>.tuple #[]) (fun _=>[.row a c 46 2 n (shc (isort l))]) (fun _=>True):=by
  refine enterR Tryz.func195 Tryz.ntmps195 hp ?_
  refine c_seq<|c_reg<|s_y y_mv<|s_y (y_add (p:=0) (q:=1))<|s_y y_as<|s_nil<|q_then<|c_block<|?_
  refine c_loop (fun k:Nat=>[(0,.slice a n c),(1,I 0),(2,I n),(3,.func (.func 90) #[] #[]),(8,I (k + 1:Nat))]) (fun k=>[.row a c 46 2 n (shc (srtN l k))]) (fun k=>k = 0 ∨ k + 1 ≤ n) (fun k=>n - k) 0 (.inl rfl) ⟨rfl,rfl,rfl,rfl,rfl,trivial⟩ (.refl _) ?_
  intro k hk
  have hsl:(srtN l k).length = n:=by rw [srtN_length,hn]
  refine c_seq<|c_seq<|c_reg<|s_y y_mv<|s_y y_mv<|s_y (y_lss (p:=((k + 1:Nat):Int)) (q:=((n:Nat):Int)))<|s_nil<|q_then<|c_ifd (fun h14=>?_) (fun h14=>?_)
  · refine c_skip<|q_then<|c_seq<|c_block<|c_seq<|c_reg<|s_y y_mv<|s_y y_as<|s_nil<|q_then<|c_block<|?_
    refine c_loop (fun p:List (Int × Int) × Nat=>[(0,.slice a n c),(1,I 0),(2,I n),(3,.func (.func 90) #[] #[]),(8,I (k + 1:Nat)),(9,I p.2)]) (fun p=>[.row a c 46 2 n (shc p.1)]) (fun p=>p.2 ≤ k + 1 ∧ p.1.length = n ∧ bub p.1 p.2 = bub (srtN l k) (k + 1)) (fun p=>p.2) (srtN l k,k + 1) ⟨Nat.le_refl _,hsl,rfl⟩ ⟨rfl,rfl,rfl,rfl,rfl,rfl,trivial⟩ (.refl _) ?_
    rintro ⟨l',j⟩ ⟨hj,hl',hb⟩
    simp only at hj hl' hb
    show CP none Tryz.prog _ _ _ _ _ _ [(0,.slice a n c),(1,I 0),(2,I n),(3,.func (.func 90) #[] #[]),(8,I (k + 1:Nat)),(9,I j)] [.row a c 46 2 n (shc l')]
    cases j with
    | zero =>
      have e:l' = srtN l (k + 1):=by rw [srtN,← hb,bub]
      refine c_seq<|c_seq<|c_regd<|d_y y_mv<|d_y y_mv<|d_kf (y_gtr (p:=((0:Nat):Int)) (q:=0)) (by omega)<|d_y y_mv<|d_no<|d_no<|d_no<|d_no<|d_no<|d_no<|d_no<|d_no<|d_no<|d_no<|d_no<|d_no<|d_y y_pk<|d_nil<|q_then<|c_f<|c_exit<|q_ex<|q_ex<|q_exb<|q_nb<|q_then<|c_reg<|s_y y_mv<|s_y (y_add (p:=((k + 1:Nat):Int)) (q:=1))<|?_
      rw [show ((k + 1:Nat):Int) + 1 = ((k + 1 + 1:Nat):Int) by omega]
      refine s_y y_as<|s_nil<|?_
      rw [e]
      exact q_round (k + 1) (.inr (by omega)) (by omega) ⟨rfl,rfl,rfl,rfl,rfl,trivial⟩ (.refl _)
    | succ m =>
      have hm1:((m + 1:Nat):Int) - 1 = ((m:Nat):Int):=by omega
      obtain ⟨x,hx⟩:∃ x,l'[m + 1]? = some x:=⟨_,List.getElem?_eq_getElem (by omega)⟩
      obtain ⟨y,hy⟩:∃ y,l'[m]? = some y:=⟨_,List.getElem?_eq_getElem (by omega)⟩
      refine c_seq<|c_seq<|c_regd<|d_y y_mv<|d_y y_mv<|d_kt (y_gtr (p:=((m + 1:Nat):Int)) (q:=0)) (by omega)<|d_y y_mv<|d_y y_mv<|d_y y_mv<|d_y y_mv<|d_y (y_ixs (xs:=shc l') (i:=((m + 1:Nat):Int)) (hr:=rdR (.head _)) (hl:=by rw [shc_length]; omega))<|d_y (y_ldra (i:=(m + 1) * 2) (cs:=[I x.1,I x.2]) (rdR (.head _)) rfl (fun j v h=>shc_atA hx h))<|d_y y_mv<|d_y y_mv<|d_y (y_sub (p:=((m + 1:Nat):Int)) (q:=1))<|?_
      rw [hm1]
      refine d_y (y_ixs (xs:=shc l') (i:=((m:Nat):Int)) (hr:=rdR (.head _)) (hl:=by rw [shc_length]; omega))<|d_y (y_ldra (i:=(m) * 2) (cs:=[I y.1,I y.2]) (rdR (.head _)) rfl (fun j v h=>shc_atA hy h))<|d_pure (fun w' hw=>Finish2_ok w' x y)<|d_y (y_lss (p:=cmpI x.1 y.1) (q:=0))<|d_y y_pk<|d_nil<|q_then<|?_
      by_cases hlt:x.1 < y.1
      · rw [decide_eq_true (cmpI_lt.2 hlt)]
        refine c_t<|c_skip<|q_then<|c_seq<|c_block<|c_regL []<|r_y 0 rfl y_mv<|r_y 1 rfl y_mv<|r_y 2 rfl y_mv<|r_y 3 rfl y_mv<|r_y 4 rfl (y_sub (p:=((m + 1:Nat):Int)) (q:=1))<|?_
        rw [hm1]
        refine r_y 5 rfl y_mv<|r_y 6 rfl y_mv<|r_y 7 rfl (y_sub (p:=((m + 1:Nat):Int)) (q:=1))<|?_
        rw [hm1]
        refine r_y 10 rfl y_mv<|r_y 11 rfl y_mv<|?_
        refine r_w2 8 12 rfl rfl ?_ ?_ (hsub:=List.nil_sublist _)
        · refine s_y (y_ixs (xs:=shc l') (i:=((m:Nat):Int)) (hr:=rdR (.head _)) (hl:=by rw [shc_length]; omega))<|r_K<|?_
          refine r_w2 9 12 rfl rfl ?_ ?_ (hsub:=List.nil_sublist _)
          · refine s_y (y_ldra (i:=(m) * 2) (cs:=[I y.1,I y.2]) (rdR (.head _)) rfl (fun j v h=>shc_atA hy h))<|r_K<|?_
            refine r_W 12 rfl<|s_y (y_ixs (xs:=shc l') (i:=((m + 1:Nat):Int)) (hr:=rdR (.head _)) (hl:=by rw [shc_length]; omega))<|r_K<|?_
            refine r_W 13 rfl<|s_y (y_ldra (i:=(m + 1) * 2) (cs:=[I x.1,I x.2]) (rdR (.head _)) rfl (fun j v h=>shc_atA hx h))<|r_K<|?_
            refine r_W 14 rfl<|s_y (y_ixs (xs:=shc l') (i:=((m + 1:Nat):Int)) (hr:=rdR (.head _)) (hl:=by rw [shc_length]; omega))<|r_K<|r_W 15 rfl<|s_strA (a:=a) (i:=(m + 1) * 2) (cc:=c) (k:=n) (se:=2) (xs:=shc l') (ys:=shc (l'.set (m + 1) y)) (vs:=[I y.1,I y.2]) ?_ (hcs:=shc_set (v:=y) (by omega)) (hi:=by rw [shc_length]; simp only [List.length_cons,List.length_nil]; omega) (h1:=by intro u hu; simp at hu; rcases hu with rfl | rfl <;> rfl) (hs1:=rfl)
            refine r_K<|r_W 16 rfl<|s_y (y_ixs (xs:=shc (l'.set (m + 1) y)) (i:=((m:Nat):Int)) (hr:=rdR (.head _)) (hl:=by rw [shc_length,List.length_set]; omega))<|r_K<|r_W 17 rfl<|s_strA (a:=a) (i:=m * 2) (cc:=c) (k:=n) (se:=2) (xs:=shc (l'.set (m + 1) y)) (ys:=shc ((l'.set (m + 1) y).set m x)) (vs:=[I x.1,I x.2]) ?_ (hcs:=shc_set (v:=x) (by rw [List.length_set]; omega)) (hi:=by rw [shc_length,List.length_set]; simp only [List.length_cons,List.length_nil]; omega) (h1:=by intro u hu; simp at hu; rcases hu with rfl | rfl <;> rfl) (hs1:=rfl)
            refine r_K<|r_E<|q_nb<|q_then<|c_reg<|s_y y_mv<|s_y (y_sub (p:=((m + 1:Nat):Int)) (q:=1))<|?_
            rw [hm1]
            refine s_y y_as<|s_nil<|?_
            exact q_round ((l'.set (m + 1) y).set m x,m) ⟨by omega,by simp [hl'],by rw [← hb]; exact (bub_lt hx hy hlt).symm⟩ (by show m < m + 1; omega) ⟨rfl,rfl,rfl,rfl,rfl,rfl,trivial⟩ (.refl _)
          · refine s_y (y_ixs (xs:=shc l') (i:=((m + 1:Nat):Int)) (hr:=rdR (.head _)) (hl:=by rw [shc_length]; omega))<|r_K<|?_
            refine r_w2 9 13 rfl rfl ?_ ?_ (hsub:=List.nil_sublist _)
            · refine s_y (y_ldra (i:=(m) * 2) (cs:=[I y.1,I y.2]) (rdR (.head _)) rfl (fun j v h=>shc_atA hy h))<|r_K<|?_
              refine r_W 13 rfl<|s_y (y_ldra (i:=(m + 1) * 2) (cs:=[I x.1,I x.2]) (rdR (.head _)) rfl (fun j v h=>shc_atA hx h))<|r_K<|?_
              refine r_W 14 rfl<|s_y (y_ixs (xs:=shc l') (i:=((m + 1:Nat):Int)) (hr:=rdR (.head _)) (hl:=by rw [shc_length]; omega))<|r_K<|r_W 15 rfl<|s_strA (a:=a) (i:=(m + 1) * 2) (cc:=c) (k:=n) (se:=2) (xs:=shc l') (ys:=shc (l'.set (m + 1) y)) (vs:=[I y.1,I y.2]) ?_ (hcs:=shc_set (v:=y) (by omega)) (hi:=by rw [shc_length]; simp only [List.length_cons,List.length_nil]; omega) (h1:=by intro u hu; simp at hu; rcases hu with rfl | rfl <;> rfl) (hs1:=rfl)
              refine r_K<|r_W 16 rfl<|s_y (y_ixs (xs:=shc (l'.set (m + 1) y)) (i:=((m:Nat):Int)) (hr:=rdR (.head _)) (hl:=by rw [shc_length,List.length_set]; omega))<|r_K<|r_W 17 rfl<|s_strA (a:=a) (i:=m * 2) (cc:=c) (k:=n) (se:=2) (xs:=shc (l'.set (m + 1) y)) (ys:=shc ((l'.set (m + 1) y).set m x)) (vs:=[I x.1,I x.2]) ?_ (hcs:=shc_set (v:=x) (by rw [List.length_set]; omega)) (hi:=by rw [shc_length,List.length_set]; simp only [List.length_cons,List.length_nil]; omega) (h1:=by intro u hu; simp at hu; rcases hu with rfl | rfl <;> rfl) (hs1:=rfl)
              refine r_K<|r_E<|q_nb<|q_then<|c_reg<|s_y y_mv<|s_y (y_sub (p:=((m + 1:Nat):Int)) (q:=1))<|?_
              rw [hm1]
              refine s_y y_as<|s_nil<|?_
              exact q_round ((l'.set (m + 1) y).set m x,m) ⟨by omega,by simp [hl'],by rw [← hb]; exact (bub_lt hx hy hlt).symm⟩ (by show m < m + 1; omega) ⟨rfl,rfl,rfl,rfl,rfl,rfl,trivial⟩ (.refl _)
            · refine s_y (y_ldra (i:=(m + 1) * 2) (cs:=[I x.1,I x.2]) (rdR (.head _)) rfl (fun j v h=>shc_atA hx h))<|r_K<|?_
              refine r_W 9 rfl<|s_y (y_ldra (i:=(m) * 2) (cs:=[I y.1,I y.2]) (rdR (.head _)) rfl (fun j v h=>shc_atA hy h))<|r_K<|?_
              refine r_W 14 rfl<|s_y (y_ixs (xs:=shc l') (i:=((m + 1:Nat):Int)) (hr:=rdR (.head _)) (hl:=by rw [shc_length]; omega))<|r_K<|r_W 15 rfl<|s_strA (a:=a) (i:=(m + 1) * 2) (cc:=c) (k:=n) (se:=2) (xs:=shc l') (ys:=shc (l'.set (m + 1) y)) (vs:=[I y.1,I y.2]) ?_ (hcs:=shc_set (v:=y) (by omega)) (hi:=by rw [shc_length]; simp only [List.length_cons,List.length_nil]; omega) (h1:=by intro u hu; simp at hu; rcases hu with rfl | rfl <;> rfl) (hs1:=rfl)
              refine r_K<|r_W 16 rfl<|s_y (y_ixs (xs:=shc (l'.set (m + 1) y)) (i:=((m:Nat):Int)) (hr:=rdR (.head _)) (hl:=by rw [shc_length,List.length_set]; omega))<|r_K<|r_W 17 rfl<|s_strA (a:=a) (i:=m * 2) (cc:=c) (k:=n) (se:=2) (xs:=shc (l'.set (m + 1) y)) (ys:=shc ((l'.set (m + 1) y).set m x)) (vs:=[I x.1,I x.2]) ?_ (hcs:=shc_set (v:=x) (by rw [List.length_set]; omega)) (hi:=by rw [shc_length,List.length_set]; simp only [List.length_cons,List.length_nil]; omega) (h1:=by intro u hu; simp at hu; rcases hu with rfl | rfl <;> rfl) (hs1:=rfl)
              refine r_K<|r_E<|q_nb<|q_then<|c_reg<|s_y y_mv<|s_y (y_sub (p:=((m + 1:Nat):Int)) (q:=1))<|?_
              rw [hm1]
              refine s_y y_as<|s_nil<|?_
              exact q_round ((l'.set (m + 1) y).set m x,m) ⟨by omega,by simp [hl'],by rw [← hb]; exact (bub_lt hx hy hlt).symm⟩ (by show m < m + 1; omega) ⟨rfl,rfl,rfl,rfl,rfl,rfl,trivial⟩ (.refl _)
        · refine s_y (y_ixs (xs:=shc l') (i:=((m + 1:Nat):Int)) (hr:=rdR (.head _)) (hl:=by rw [shc_length]; omega))<|r_K<|?_
          refine r_w2 8 13 rfl rfl ?_ ?_ (hsub:=List.nil_sublist _)
          · refine s_y (y_ixs (xs:=shc l') (i:=((m:Nat):Int)) (hr:=rdR (.head _)) (hl:=by rw [shc_length]; omega))<|r_K<|?_
            refine r_w2 9 13 rfl rfl ?_ ?_ (hsub:=List.nil_sublist _)
            · refine s_y (y_ldra (i:=(m) * 2) (cs:=[I y.1,I y.2]) (rdR (.head _)) rfl (fun j v h=>shc_atA hy h))<|r_K<|?_
              refine r_W 13 rfl<|s_y (y_ldra (i:=(m + 1) * 2) (cs:=[I x.1,I x.2]) (rdR (.head _)) rfl (fun j v h=>shc_atA hx h))<|r_K<|?_
              refine r_W 14 rfl<|s_y (y_ixs (xs:=shc l') (i:=((m + 1:Nat):Int)) (hr:=rdR (.head _)) (hl:=by rw [shc_length]; omega))<|r_K<|r_W 15 rfl<|s_strA (a:=a) (i:=(m + 1) * 2) (cc:=c) (k:=n) (se:=2) (xs:=shc l') (ys:=shc (l'.set (m + 1) y)) (vs:=[I y.1,I y.2]) ?_ (hcs:=shc_set (v:=y) (by omega)) (hi:=by rw [shc_length]; simp only [List.length_cons,List.length_nil]; omega) (h1:=by intro u hu; simp at hu; rcases hu with rfl | rfl <;> rfl) (hs1:=rfl)
              refine r_K<|r_W 16 rfl<|s_y (y_ixs (xs:=shc (l'.set (m + 1) y)) (i:=((m:Nat):Int)) (hr:=rdR (.head _)) (hl:=by rw [shc_length,List.length_set]; omega))<|r_K<|r_W 17 rfl<|s_strA (a:=a) (i:=m * 2) (cc:=c) (k:=n) (se:=2) (xs:=shc (l'.set (m + 1) y)) (ys:=shc ((l'.set (m + 1) y).set m x)) (vs:=[I x.1,I x.2]) ?_ (hcs:=shc_set (v:=x) (by rw [List.length_set]; omega)) (hi:=by rw [shc_length,List.length_set]; simp only [List.length_cons,List.length_nil]; omega) (h1:=by intro u hu; simp at hu; rcases hu with rfl | rfl <;> rfl) (hs1:=rfl)
              refine r_K<|r_E<|q_nb<|q_then<|c_reg<|s_y y_mv<|s_y (y_sub (p:=((m + 1:Nat):Int)) (q:=1))<|?_
              rw [hm1]
              refine s_y y_as<|s_nil<|?_
              exact q_round ((l'.set (m + 1) y).set m x,m) ⟨by omega,by simp [hl'],by rw [← hb]; exact (bub_lt hx hy hlt).symm⟩ (by show m < m + 1; omega) ⟨rfl,rfl,rfl,rfl,rfl,rfl,trivial⟩ (.refl _)
            · refine s_y (y_ldra (i:=(m + 1) * 2) (cs:=[I x.1,I x.2]) (rdR (.head _)) rfl (fun j v h=>shc_atA hx h))<|r_K<|?_
              refine r_W 9 rfl<|s_y (y_ldra (i:=(m) * 2) (cs:=[I y.1,I y.2]) (rdR (.head _)) rfl (fun j v h=>shc_atA hy h))<|r_K<|?_
              refine r_W 14 rfl<|s_y (y_ixs (xs:=shc l') (i:=((m + 1:Nat):Int)) (hr:=rdR (.head _)) (hl:=by rw [shc_length]; omega))<|r_K<|r_W 15 rfl<|s_strA (a:=a) (i:=(m + 1) * 2) (cc:=c) (k:=n) (se:=2) (xs:=shc l') (ys:=shc (l'.set (m + 1) y)) (vs:=[I y.1,I y.2]) ?_ (hcs:=shc_set (v:=y) (by omega)) (hi:=by rw [shc_length]; simp only [List.length_cons,List.length_nil]; omega) (h1:=by intro u hu; simp at hu; rcases hu with rfl | rfl <;> rfl) (hs1:=rfl)
              refine r_K<|r_W 16 rfl<|s_y (y_ixs (xs:=shc (l'.set (m + 1) y)) (i:=((m:Nat):Int)) (hr:=rdR (.head _)) (hl:=by rw [shc_length,List.length_set]; omega))<|r_K<|r_W 17 rfl<|s_strA (a:=a) (i:=m * 2) (cc:=c) (k:=n) (se:=2) (xs:=shc (l'.set (m + 1) y)) (ys:=shc ((l'.set (m + 1) y).set m x)) (vs:=[I x.1,I x.2]) ?_ (hcs:=shc_set (v:=x) (by rw [List.length_set]; omega)) (hi:=by rw [shc_length,List.length_set]; simp only [List.length_cons,List.length_nil]; omega) (h1:=by intro u hu; simp at hu; rcases hu with rfl | rfl <;> rfl) (hs1:=rfl)
              refine r_K<|r_E<|q_nb<|q_then<|c_reg<|s_y y_mv<|s_y (y_sub (p:=((m + 1:Nat):Int)) (q:=1))<|?_
              rw [hm1]
              refine s_y y_as<|s_nil<|?_
              exact q_round ((l'.set (m + 1) y).set m x,m) ⟨by omega,by simp [hl'],by rw [← hb]; exact (bub_lt hx hy hlt).symm⟩ (by show m < m + 1; omega) ⟨rfl,rfl,rfl,rfl,rfl,rfl,trivial⟩ (.refl _)
          · refine s_y (y_ldra (i:=(m + 1) * 2) (cs:=[I x.1,I x.2]) (rdR (.head _)) rfl (fun j v h=>shc_atA hx h))<|r_K<|?_
            refine r_W 8 rfl<|s_y (y_ixs (xs:=shc l') (i:=((m:Nat):Int)) (hr:=rdR (.head _)) (hl:=by rw [shc_length]; omega))<|r_K<|?_
            refine r_W 9 rfl<|s_y (y_ldra (i:=(m) * 2) (cs:=[I y.1,I y.2]) (rdR (.head _)) rfl (fun j v h=>shc_atA hy h))<|r_K<|?_
            refine r_W 14 rfl<|s_y (y_ixs (xs:=shc l') (i:=((m + 1:Nat):Int)) (hr:=rdR (.head _)) (hl:=by rw [shc_length]; omega))<|r_K<|r_W 15 rfl<|s_strA (a:=a) (i:=(m + 1) * 2) (cc:=c) (k:=n) (se:=2) (xs:=shc l') (ys:=shc (l'.set (m + 1) y)) (vs:=[I y.1,I y.2]) ?_ (hcs:=shc_set (v:=y) (by omega)) (hi:=by rw [shc_length]; simp only [List.length_cons,List.length_nil]; omega) (h1:=by intro u hu; simp at hu; rcases hu with rfl | rfl <;> rfl) (hs1:=rfl)
            refine r_K<|r_W 16 rfl<|s_y (y_ixs (xs:=shc (l'.set (m + 1) y)) (i:=((m:Nat):Int)) (hr:=rdR (.head _)) (hl:=by rw [shc_length,List.length_set]; omega))<|r_K<|r_W 17 rfl<|s_strA (a:=a) (i:=m * 2) (cc:=c) (k:=n) (se:=2) (xs:=shc (l'.set (m + 1) y)) (ys:=shc ((l'.set (m + 1) y).set m x)) (vs:=[I x.1,I x.2]) ?_ (hcs:=shc_set (v:=x) (by rw [List.length_set]; omega)) (hi:=by rw [shc_length,List.length_set]; simp only [List.length_cons,List.length_nil]; omega) (h1:=by intro u hu; simp at hu; rcases hu with rfl | rfl <;> rfl) (hs1:=rfl)
            refine r_K<|r_E<|q_nb<|q_then<|c_reg<|s_y y_mv<|s_y (y_sub (p:=((m + 1:Nat):Int)) (q:=1))<|?_
            rw [hm1]
            refine s_y y_as<|s_nil<|?_
            exact q_round ((l'.set (m + 1) y).set m x,m) ⟨by omega,by simp [hl'],by rw [← hb]; exact (bub_lt hx hy hlt).symm⟩ (by show m < m + 1; omega) ⟨rfl,rfl,rfl,rfl,rfl,rfl,trivial⟩ (.refl _)
      · rw [decide_eq_false (fun h9=>hlt (cmpI_lt.1 h9))]
        have e:l' = srtN l (k + 1):=by rw [srtN,← hb,bub_ge hx hy hlt]
        refine c_f<|c_exit<|q_ex<|q_ex<|q_exb<|q_nb<|q_then<|c_reg<|s_y y_mv<|s_y (y_add (p:=((k + 1:Nat):Int)) (q:=1))<|?_
        rw [show ((k + 1:Nat):Int) + 1 = ((k + 1 + 1:Nat):Int) by omega]
        refine s_y y_as<|s_nil<|?_
        rw [e]
        exact q_round (k + 1) (.inr (by omega)) (by omega) ⟨rfl,rfl,rfl,rfl,rfl,trivial⟩ (.refl _)
  · have e:srtN l k = isort l:=by rw [isort]; congr 1; omega
    rw [e]
    refine c_exit<|q_ex<|q_ex<|q_exb<|?_
    exact ret0 Tryz.results195 (fun w' hw=>⟨(),trivial,rfl,hw⟩) _ (.inr rfl)
theorem stabS_ok (w:World) (a:Option Addr) (c n:Nat) (l:List (Int × Int)) (hn:l.length = n) (hn2:n < 20) (hp:(Res.row a c 46 2 n (shc l)).holds w) :
    Gives Tryz.prog 151 [.slice a n c,I n,.func (.func 90) #[] #[]] w (keys [.row a c 46 2 n (shc l)]) (fun _:Unit=>.tuple #[]) (fun _=>[.row a c 46 2 n (shc (isort l))]) (fun _=>True):=by
  refine enterR Tryz.func151 Tryz.ntmps151 hp ?_
  refine c_seq<|c_reg<|s_y y_as<|s_nil<|q_then<|c_seq<|c_reg<|s_y y_mv<|s_y y_as<|s_y y_as<|s_nil<|q_then<|c_seq<|c_block<|?_
  refine c_loop (fun _:Unit=>[(0,.slice a n c),(1,I n),(2,.func (.func 90) #[] #[]),(6,I 20),(7,I 0),(8,I 20)]) (fun _=>[.row a c 46 2 n (shc l)]) (fun _=>True) (fun _=>0) () trivial ⟨rfl,rfl,rfl,rfl,rfl,rfl,trivial⟩ (.refl _) ?_
  intro _ _
  refine c_seq<|c_seq<|c_reg<|s_y y_mv<|s_y y_mv<|s_kf (y_leq (p:=20) (q:=((n:Nat):Int))) (by omega)<|s_nil<|q_then<|c_f<|c_exit<|q_ex<|q_ex<|q_exb<|q_then<|c_seq<|c_reg<|s_y y_mv<|s_y y_mv<|s_y y_mv<|s_y y_mv<|?_
  refine s_upd (σ:=Unit) (p:=.row a c 46 2 n (shc l)) (p':=fun _=>.row a c 46 2 n (shc (isort l))) (lx:=fun _=>[]) (l1:=fun _=>[.row a c 46 2 n (shc (isort l))]) (φ:=fun _=>True) (val:=fun _=>.tuple #[]) (fun w' hw=>insS_ok w' a c n l hn (by omega) (hw.own _ (.head _)).1) (fun _=>.head _) fun _ _=>?_
  refine s_nil<|q_then<|c_block<|?_
  refine c_loop (fun _:Unit=>[(0,.slice a n c),(1,I n),(2,.func (.func 90) #[] #[]),(6,I 20)]) (fun _=>[.row a c 46 2 n (shc (isort l))]) (fun _=>True) (fun _=>0) () trivial ⟨rfl,rfl,rfl,rfl,trivial⟩ (.refl _) ?_
  intro _ _
  refine c_seq<|c_seq<|c_reg<|s_y y_mv<|s_y y_mv<|s_kf (y_lss (p:=20) (q:=((n:Nat):Int))) (by omega)<|s_nil<|q_then<|c_f<|c_exit<|q_ex<|q_ex<|q_exb<|?_
  exact ret0 Tryz.results151 (fun w' hw=>⟨(),trivial,rfl,hw⟩) _ (.inr rfl)
theorem sortS_ok (w:World) (a:Option Addr) (c n:Nat) (l:List (Int × Int)) (hn:l.length = n) (hn2:n < 20) (hp:(Res.row a c 46 2 n (shc l)).holds w) :
    Gives Tryz.prog 89 [.slice a n c,.func (.func 90) #[] #[]] w (keys [.row a c 46 2 n (shc l)]) (fun _:Unit=>.tuple #[]) (fun _=>[.row a c 46 2 n (shc (isort l))]) (fun _=>True):=by
  refine enterR Tryz.func89 Tryz.ntmps89 hp ?_
  refine c_reg<|s_y y_mv<|s_y y_mv<|s_y y_len<|s_y y_mv<|?_
  refine s_upd (σ:=Unit) (p:=.row a c 46 2 n (shc l)) (p':=fun _=>.row a c 46 2 n (shc (isort l))) (lx:=fun _=>[]) (l1:=fun _=>[.row a c 46 2 n (shc (isort l))]) (φ:=fun _=>True) (val:=fun _=>.tuple #[]) (fun w' hw=>stabS_ok w' a c n l hn hn2 (hw.own _ (.head _)).1) (fun _=>.head _) fun _ _=>?_
  refine s_nil<|?_
  exact ret0 Tryz.results89 (fun w' hw=>⟨(),trivial,rfl,hw⟩) _ (.inr rfl)
end Go.Proofs.YtojohglifijnnaaGreatDoor
end
section
namespace Eng
open Go Go.RowKit
section
variable {r:Option Nat} {P:Program} {n:Nat} {D:List Deferred} {W:World} {Bo:List Nat} {F F0 F1:List (Nat × Value)} {l l' l1 l2 l3 ps0 lx:SH} {e:TypeId}
  {dd:Nat} {d:Option Tmp} {ty:TypeId} {ps:String} {af:Array Edge} {g:Option (Nat × Bool)} {Q Q':Exit → Act → World → Prop} {ops:Array Oper} {rest:List Oper} {c c1 c2:Code}
theorem s_yieldD {fo:Operand} {ao:Array Operand} {ts:Array TypeId} {L:Nat} {rc:Loop} {v v':Value} {ch:List PanicEntry}
    (hm:Res.blk L (.loop rc) ∈ l) (hpz:rc.params.size = 2)
    (hr:∀ w,St W Bo w l → RoundIn (Fw none) 0 P L rc.fn ((rc.params.zip #[v,v']).foldl (fun tmps (t,a)=>tmps.setIfInBounds t a) rc.tmps) rc.assign rc.body w fun e w'=>e = .panicked ch ∧ St W Bo w' l2)
    (h:QP n D W Bo Q (.panic ch) F l2)
    (hfo:evO F fo = some (.func (.yield L) #[] #[]):=by rfl) (hargs:evL F ao.toList = some [v,v']:=by rfl) (hg:Wn ops F g:=by first | exact .none | exact .some rfl rfl) :
    LP none P n D W Bo ops Q (⟨d,.call ⟨.value fo,ao,ts⟩,ty,ps,af,g⟩ :: rest) F l:=by
  intro a w ha hw
  refine wpListIn_of (hg.wanted rfl ha) ?_
  refine ⟨fun f _=>trivial,?_⟩
  have hy:=run_yield (P:=P) (args:=#[v,v']) (hw.own _ hm).1 (by simp [hpz])
  have hrun:(execOp a.eval ⟨d,.call ⟨.value fo,ao,ts⟩,ty,ps,af,g⟩).run P w = .ok (.round L rc.fn ((rc.params.zip #[v,v']).foldl (fun tmps (t,a)=>tmps.setIfInBounds t a) rc.tmps) rc.assign rc.body) w:=by
    simp only [execOp,resolve,ha.eval hfo,evs ha hargs,Deferred.ofValue,Sem.run_bind,Sem.run_pure,Result.andThen_ok,invoke]
    simpa using hy
  rw [semAt_eq _ (by simp),hrun]
  refine ⟨by simp [Fw,Fence.wide],(hr w hw).mono ?_⟩
  rintro e w' ⟨rfl,hw'⟩
  exact h _ _ ha hw'
def wpG (P:Program) (c:Code) (Q:Exit → Act → World → Prop) (a:Act) (w:World):Prop :=
  ∀ (b:Frame) (k:List Item) (cs:List Frame),b.roundOf = none → (∃ fn,P.funcs[b.fn]? = some fn) →
    ∃ e a' w',Q e a' w' ∧ ArrivesIn (Machine.fenced P Fence.wide) P (lone (b.atR a (.code c :: k)) cs w) b k cs e a' w'
def CG (P:Program) (n:Nat) (D:List Deferred) (W:World) (Bo:List Nat) (c:Code) (Q:Exit → Act → World → Prop) (F:List (Nat × Value)) (l:SH):Prop :=
  ∀ a w,Fr n F D a → St W Bo w l → wpG P c Q a w
theorem g_cp (h:CP none P n D W Bo c Q F l):CG P n D W Bo c Q F l:=fun a w ha hw b k cs hro _=>h a w ha hw b k cs hro trivial (room_wide _)
def LeavesW (P:Program) (fn:Func) (tmps:Array Value) (R:Ending → World → Prop):List Deferred → FrameMode → World → Prop
  | [],u,w=>Leaves P fn tmps R [] u w
  | d :: ds,u,w=>u ≠ .run ∧
      ((∃ r w',d.target = .collected r ∧ (Instr.takeDeferred r).run P w = .ok [] w' ∧ LeavesW P fn tmps R ds u w') ∨
       (∃ fv cap f args,d.target = .fn fv cap ∧ (invoke d.target d.args).run P w = .ok (.enter f args) w ∧ CallsD P f args u w fun
          | .returned _,u',w'=>LeavesW P fn tmps R ds (settle u') w'
          | .panicked chain,u',w'=>LeavesW P fn tmps R ds (raised u' chain) w'
          | .outgrown,_,w'=>R .outgrown w'))
theorem leavesW_steps {fn:Func} {tmps:Array Value} {R:Ending → World → Prop}:∀ (ds:List Deferred) (u:FrameMode) (w:World) (fr:Frame)
    (cs:List Frame),fr.mode = u → fr.defers = ds → fr.tmps = tmps → P.funcs[fr.fn]? = some fn → fr.kind = .normal → LeavesW P fn tmps R ds u w →
    ∃ e w' fr',R e w' ∧ Comes P (lone fr cs w) (lone fr' cs w') e ∧ fr'.fn = fr.fn ∧ fr'.leaving P w' e:=by
  intro ds
  induction ds with
  | nil =>
    intro u w fr cs hu hd ht hf hk h
    cases u with
    | run=>exact h.elim
    | returning =>
      obtain ⟨v,hr,hR⟩:=h
      exact ⟨.returned v,w,fr,hR,Steps.refl _ _,rfl,hu,hd,hk,fn,hf,ht ▸ hr⟩
    | panicking chain=>exact ⟨.panicked chain,w,fr,h,Steps.refl _ _,rfl,hu,hd,fn,hf⟩
  | cons d ds ih =>
    intro u w fr cs hu hd ht hf hk h
    obtain ⟨hrun,h⟩:=h
    rcases h with ⟨r,w',htar,htake,hrest⟩ | ⟨fv,cap,f,args,htar,hinv,hcall⟩
    · have h1:=step_collected (cs:=cs) (hu ▸ hrun) hd htar htake
      obtain ⟨e',w'',fr',hR',hs',hfn',hl'⟩:=ih u w' { fr with defers:=[] ++ ds } cs hu rfl ht hf hk hrest
      exact ⟨e',w'',fr',hR',Comes.of_steps (.one h1) hs',hfn',hl'⟩
    · have h1:=step_defer (cs:=cs) (hu ▸ hrun) hd htar hinv
      obtain ⟨e,u',w',frX,hR,hsteps,hkX,hgo⟩:=hcall { fr with defers:=ds } cs hu
      cases e with
      | returned v =>
        have h2:=step_going_returned (c:={ { fr with defers:=ds } with mode:=u' }) (cs:=cs) hkX hgo
        obtain ⟨e',w'',fr',hR',hs',hfn',hl'⟩:=ih (settle u') w' { { { fr with defers:=ds } with mode:=u' } with mode:=settle u' } cs rfl rfl ht hf hk hR
        exact ⟨e',w'',fr',hR',Comes.of_steps (.head h1 (Steps.trans hsteps (.one h2))) hs',hfn',hl'⟩
      | panicked chain =>
        have h2:=step_going_panicked (c:={ { fr with defers:=ds } with mode:=u' }) (cs:=cs) hgo
        obtain ⟨e',w'',fr',hR',hs',hfn',hl'⟩:=ih (raised u' chain) w' { { { fr with defers:=ds } with mode:=u' } with mode:=raised u' chain } cs rfl rfl ht hf hk hR
        exact ⟨e',w'',fr',hR',Comes.of_steps (.head h1 (Steps.trans hsteps (.one h2))) hs',hfn',hl'⟩
      | outgrown=>exact ⟨.outgrown,w',fr,hR,Outgrown.of_steps (.one h1) hsteps,rfl,trivial⟩
def bodyPostW (P:Program) (fn:Func) (R:Ending → World → Prop):Exit → Act → World → Prop
  | .normal,a,w | .ret,a,w=>LeavesW P fn a.tmps R a.defers .returning w
  | .panic chain,a,w=>LeavesW P fn a.tmps R a.defers (.panicking chain) w
  | .outgrown,_,w=>R .outgrown w
  | _,_,_=>False
theorem enterW {k:FuncId} {fn:Func} {args:List Value} {R:Ending → World → Prop} (hf:P.funcs[k]? = some fn) (hn:fn.ntmps = n) (h:CG P n [] W [] c (bodyPostW P fn R) (argsF 0 args) [])
    (hb:fn.body = some c:=by rfl) (hle:Nat.ble args.length n = true:=by rfl):Calls P k args.toArray W R:=by
  intro cs
  let b:Frame:={ (default:Frame) with fn:=k,kind:=.normal,roundOf:=none }
  have henter:Frame.enter P k args.toArray .normal = b.atR { tmps:=args.toArray ++ Array.replicate (fn.ntmps - args.toArray.size) undef,defers:=[] } [.code c]:=by
    simp [Frame.enter,Frame.atR,hf,hb,b]
  have hle':=Nat.le_of_ble_eq_true hle
  have hfr:Fr n (argsF 0 args) [] { tmps:=args.toArray ++ Array.replicate (fn.ntmps - args.toArray.size) undef,defers:=[] }:=by
    refine ⟨by simp; omega,rfl,?_⟩
    intro t v ht
    have:=(argsF_look args 0 t v ht).2
    simp only [Nat.sub_zero] at this
    have hlt:t < args.length:=by
      rcases Nat.lt_or_ge t args.length with h1 | h1
      · exact h1
      · rw [List.getElem?_eq_none h1] at this; cases this
    rw [Array.getElem?_append_left (by simpa using hlt)]
    simpa using this
  obtain ⟨e,a',w',hq,harr⟩:=h _ W hfr (St.refl W) b [] cs rfl ⟨fn,hf⟩
  rw [← henter] at harr
  cases e with
  | normal =>
    obtain ⟨e',w'',fr',hR,hs,hfn,hl⟩:=leavesW_steps a'.defers .returning w' { b.atR a' [] with mode:=.returning } cs rfl rfl rfl hf rfl hq
    exact ⟨e',w'',fr',hR,Comes.of_steps (Steps.trans (StepsIn.steps harr) (.one (stepR_end rfl))) hs,hfn,hl⟩
  | ret =>
    obtain ⟨todo,hs₀⟩:=harr.1 rfl
    obtain ⟨e',w'',fr',hR,hs,hfn,hl⟩:=leavesW_steps a'.defers .returning w' { b.atR a' todo with mode:=.returning } cs rfl rfl rfl hf rfl hq
    exact ⟨e',w'',fr',hR,Comes.of_steps hs₀.steps hs,hfn,hl⟩
  | panic chain =>
    obtain ⟨todo,hs₀⟩:=harr
    obtain ⟨e',w'',fr',hR,hs,hfn,hl⟩:=leavesW_steps a'.defers (.panicking chain) w' { b.atR a' todo with mode:=.panicking chain } cs rfl rfl rfl hf rfl hq
    exact ⟨e',w'',fr',hR,Comes.of_steps hs₀.steps hs,hfn,hl⟩
  | exit id=>exact hq.elim
  | goto l=>exact hq.elim
  | outgrown=>exact ⟨.outgrown,w',b,hq,harr.resolve_left (by simp [b]),rfl,trivial⟩
theorem q_mark {fn:Func} {R:Ending → World → Prop} {Dk:Nat} (hL:Rep (.blk Dk (.deferred (some []))) (.blk Dk (.deferred none)) l l') (h:QP n D W Bo (bodyPostW P fn R) .ret F l') :
    QP n ({ target:=.collected Dk,args:=#[] } :: D) W Bo (bodyPostW P fn R) .ret F l:=by
  intro ac w ha hw
  have h3:=h { ac with defers:=D } _ ⟨ha.size,rfl,ha.slot⟩ (hw.putObj hL)
  show LeavesW _ _ _ _ ac.defers .returning w
  rw [ha.defers]
  exact ⟨by simp,.inl ⟨Dk,_,rfl,run_takeDeferred (hw.own _ hL.mem).1,h3⟩⟩
theorem leaveW_D {fn:Func} {R:Ending → World → Prop} {rvs:List ResultVar} {vs:List Value} {k:FuncId} [hk:HF P k] {cs:List Value} {m m':FrameMode} {e:Exit}
    (he:∀ (a:Act) (w:World),LeavesW P fn a.tmps R a.defers m w → bodyPostW P fn R e a w) (hm:m ≠ .run) (hm':settle m' = .returning)
    (hperm:l.Perm (ps0 ++ l2)) (hd:∀ w,St W Bo w (ps0 ++ l2) → GivesD P k cs m w (keys ps0) m' lx)
    (hf:fn.results = rvs.toArray) (h:RVs P n W Bo F (lx ++ l2) rvs vs) (hR:∀ w,St W Bo w (lx ++ l2) → R (.returned (outV vs)) w) :
    QP n [{ target:=.fn (.func k) cs.toArray,args:=#[] }] W Bo (bodyPostW P fn R) e F l:=by
  intro a w ha hw
  refine he a w ?_
  rw [ha.defers]
  obtain ⟨fnd,bc,h1,h2,h3⟩:=hk.h
  have hi:(invoke (.fn (.func k) cs.toArray) #[]).run P w = .ok (.enter k cs.toArray) w:=by
    have h4 : fnd.name ≠ "runtime.NumGoroutine" := by simpa using h3
    simp [invoke,callFunc,h1,h4,h2]
  refine ⟨hm,.inr ⟨_,_,k,cs.toArray,rfl,hi,?_⟩⟩
  refine (hd w (hw.perm hperm.symm)).mono fun e' u' w' ⟨h5,h6,h7⟩=>?_
  subst h5 h6
  show LeavesW P fn a.tmps R [] (settle _) w'
  rw [hm']
  have hw':=hw.transL hperm h7
  obtain ⟨_,h4⟩:=(ret_n hf h _ (.inl rfl) hR:QP n [] W Bo (bodyPost P fn R) .ret F (lx ++ l2)) { a with defers:=[] } w' ⟨ha.size,rfl,ha.slot⟩ hw'
  exact h4
theorem leaveW_R {fn:Func} {R:Ending → World → Prop} {rvs:List ResultVar} {vs:List Value} {k:FuncId} [hk:HF P k] {cs:List Value}
    (hd:∀ w,St W Bo w l → GivesD P k cs .returning w [] .returning [])
    (hf:fn.results = rvs.toArray) (h:RVs P n W Bo F l rvs vs) (hR:∀ w,St W Bo w l → R (.returned (outV vs)) w) :
    QP n [{ target:=.fn (.func k) cs.toArray,args:=#[] }] W Bo (bodyPostW P fn R) .ret F l :=
  leaveW_D (ps0:=[]) (l2:=l) (lx:=[]) (m:=.returning) (m':=.returning) (fun _ _ h=>h) (by simp) rfl (.refl _) hd hf h hR
end
end Eng
end
section
namespace Eng
open Go Go.RowKit
def orV (p q:Int):Int:=IntKind.i64.wrap (((BitVec.ofInt 64 p ||| BitVec.ofInt 64 q).toNat:Nat):Int)
section
variable {r:Option Nat} {P:Program} {n:Nat} {D:List Deferred} {W:World} {Bo:List Nat} {F F0:List (Nat × Value)} {l l':SH} {Q:Exit → Act → World → Prop} {c:Code}
  {d:Option Tmp} {ty:TypeId} {ps:String} {af:Array Edge} {g:Option (Nat × Bool)} {x y:Operand} {ta tb:TypeId}
theorem y_orw {p q:Int} (hx:evO F x = some (I p):=by rfl) (hy:evO F y = some (I q):=by rfl):Y P n D W Bo ⟨d,.binOp .or ta x y tb,ty,ps,af,g⟩ F l (I (orV p q)) :=
  .mk (by simp) fun a w ha _=>by
    refine exec_bin P w w _ _ _ _ _ _ _ _ _ _ _ _ ⟨by simp,by simp⟩ ?_
    rw [ha.eval hx,ha.eval hy]
    simp only [binOp,ne_eq,not_true_eq_false,if_false,Op.intBits,Sem.run_pure]
    rfl
theorem orV_byte {p:Nat} {q:UInt8} (hp:p < 36028797018963968):orV (IntKind.i64.wrap ((p:Int) * 2 ^ 8)) (q.toNat:Nat) = ((p * 256 + q.toNat:Nat):Int):=by
  have hq:=q.toNat_lt
  have e:(p:Int) * 2 ^ 8 = ((p * 2 ^ 8:Nat):Int):=by simp
  have h1:IntKind.i64.wrap ((p:Int) * 2 ^ 8) = ((p * 2 ^ 8:Nat):Int):=by rw [e]; exact wrap_i64 (by unfold R64; omega)
  unfold orV
  rw [h1,BitVec.toNat_or,show (BitVec.ofInt 64 ((p * 2 ^ 8:Nat):Int)).toNat = p * 2 ^ 8 from bitsn (k:=.i64) (by simp only [IntKind.bits]; omega),show (BitVec.ofInt 64 ((q.toNat:Nat):Int)).toNat = q.toNat from bitsn (k:=.i64) (by simp only [IntKind.bits]; omega),or_byte]
  exact wrap_i64 (by unfold R64; omega)
theorem round_okE {σ:Type} {F1:σ → List (Nat × Value)} {l1 l2:σ → SH} {tmps:Array Value} {ac:Act} {L:Nat} {rc:Loop} {R:Ending → World → Prop} {w:World} (hw:St W Bo w l) (hfr:Fr n F0 [] ac) (htm:{ tmps:=tmps,defers:=[] } = ac)
    (hst:rc.state = .ready) (hL:∀ x,Rep (.blk L (.loop rc)) (.blk L (.loop { rc with state:=.busy })) (l1 x) (l2 x))
    (ha:CP (some L) P n [] W Bo rc.assign (Exit.then (fun a w=>∃ x,Fr n (F1 x) [] a ∧ St W Bo w (l1 x)) (fun _ _ _=>False)) F0 l)
    (hb:∀ x,CP (some L) P n [] W Bo rc.body (roundPost P L R) (F1 x) (l2 x)):RoundIn (Fw none) 0 P L rc.fn tmps rc.assign rc.body w R:=by
  refine roundIn_of_wpIn (Fw_fn _ _) ?_
  rw [htm]
  refine wpIn_mono (ha _ w hfr hw) ?_
  intro e a1 w1 q
  cases e with
  | normal=>obtain ⟨x,q1,q2⟩:=q; exact ⟨_,run_beginRound (q2.own _ (hL x).mem).1 hst,hb x _ _ q1 (q2.putObj (hL x))⟩
  | exit id=>exact q
  | goto l=>exact q
  | ret=>exact q
  | panic ch=>exact q
  | outgrown=>exact q
theorem q_joinE {σ:Type} {F1:σ → List (Nat × Value)} {l1:σ → SH} (x:σ) (hs:Sub F (F1 x)) (hl:(l1 x).Sublist l):QP n D W Bo (Exit.then (fun a w=>∃ x,Fr n (F1 x) D a ∧ St W Bo w (l1 x)) Q) .normal F l:=fun _ _ ha hw=>⟨x,ha.weaken hs,hw.sub hl⟩
end
end Eng
namespace Rst
open Go Eng Gf Sha Sig Wr Cod Cha Go.Proofs.YtojohglifijnnaaGreatDoor
noncomputable def uwE (x:Nat) (h:List UInt8) (u:Int) (q:List UInt8):Int:=if wchk u q.length = 0 then (if opOk (uK x u.toNat) z12 h q = true then 0 else 60) else 90
noncomputable def uwL (x:Nat) (h:List UInt8) (u:Int) (q:List UInt8):List UInt8:=if uwE x h u q = 0 then opB (uK x u.toNat) z12 h q else []
theorem uwL_length (x:Nat) (h:List UInt8) (u:Int) (q:List UInt8):(uwL x h u q).length ≤ q.length:=by
  unfold uwL opB
  split
  · split
    · rw [strm_length,List.length_take]; omega
    · simp
  · simp
noncomputable def shE (x:Nat) (c:Cs) (a:Ap):Int:=if uwE x (msg c 0 a.g) a.u a.q = 0 then (if (uwL x (msg c 0 a.g) a.u a.q).length = 16 then 0 else 80) else uwE x (msg c 0 a.g) a.u a.q
def sh8 (n:Int) (d:UInt8):Int:=orV (IntKind.i64.wrap (n * 2 ^ 8)) (d.toNat:Nat)
def nb (b:List UInt8):Nat → Int × Int
  | 0=>(0,0)
  | i + 1=>if i < 8 then (sh8 (nb b i).1 (b.getD i 0),(nb b i).2) else ((nb b i).1,sh8 (nb b i).2 (b.getD i 0))
noncomputable def shV (x:Nat) (c:Cs) (a:Ap):Int × Int:=nb (uwL x (msg c 0 a.g) a.u a.q) (uwL x (msg c 0 a.g) a.u a.q).length
noncomputable def shL (x:Nat) (c:Cs) (k:Nat):List (Int × Int):=(c.ap.take k).map (shV x c)
theorem shL_length {x:Nat} {c:Cs} {k:Nat} (h:k ≤ c.ap.length):(shL x c k).length = k:=by unfold shL; rw [List.length_map,List.length_take]; omega
theorem shL_succ {x:Nat} {c:Cs} {k:Nat} {a:Ap} (h:c.ap[k]? = some a):shL x c (k + 1) = shL x c k ++ [shV x c a]:=by unfold shL; rw [List.take_add_one,h,List.map_append]; rfl
/-- what is needed of the world to read the approvals -/
structure ApRd (c:Cs) (aa:Option Addr) (w:World):Prop where
  g:LC w
  r:Rd w aa (apc c.ap)
  o:ApOk w c.ap
end Rst
namespace Go.Proofs.YtojohglifijnnaaGreatDoor
open Go Eng Gf Sha Sig Wr Cod Cha Rst
set_option maxRecDepth 100000
set_option linter.all false
theorem unwrapG (w:World) (x:Nat) (hx0:1 ≤ x) (hx:x < 2305843009213688669) (ha ca:Option Addr) (hc cc n:Nat) (h q:List UInt8) (u:Int) (hn:h.length = n) (hg:LC w) (hrh:Rd w ha (bs h)) (hlh:n ≤ 100000) (hrc:Rd w ca (bs q)) (hcc:q.length ≤ cc) (hm:q.length < 1000000000000000000) :
    Gives Tryz.prog 150 [I x,.slice ha n hc,.agg #[I u,.slice ca q.length cc]] w [] (fun y:Option Addr × Nat=>.tuple #[.slice y.1 (uwL x h u q).length y.2,I (uwE x h u q)]) (fun y=>[.row y.1 y.2 5 1 (uwL x h u q).length (bs (uwL x h u q))]) (fun _=>True):=by
  subst hn
  by_cases h1:wchk u q.length = 0
  · obtain ⟨v,rfl,hv,_,_⟩:=wchk_0 h1
    cases h2:opOk (uK x v) z12 h q with
    | true =>
      have e1:uwE x h (v:Int) q = 0:=by unfold uwE; rw [if_pos h1,Int.toNat_natCast,if_pos h2]
      have e2:uwL x h (v:Int) q = opB (uK x v) z12 h q:=by unfold uwL; rw [if_pos e1,Int.toNat_natCast]
      rw [e1,e2]
      exact w_Unwrap_yes w ha ca hc cc h q x hx0 hx v hv hrh hlh hrc hcc h1 hg h2
    | false =>
      have e1:uwE x h (v:Int) q = 60:=by unfold uwE; rw [if_pos h1,Int.toNat_natCast,if_neg (by rw [h2]; simp)]
      have e2:uwL x h (v:Int) q = []:=by unfold uwL; rw [if_neg (by rw [e1]; decide)]
      rw [e1,e2]
      exact (w_Unwrap_no3 w ha ca hc cc h q x hx0 hx v hv hrh hlh hrc hcc h1 hg h2).mono fun e w' ⟨h3,h4⟩=>⟨(none,0),trivial,h3,h4.nilRow _ _⟩
  · have e1:uwE x h u q = 90:=by unfold uwE; rw [if_neg h1]
    have e2:uwL x h u q = []:=by unfold uwL; rw [if_neg (by rw [e1]; decide)]
    have h9:=w_Unwrap_no2 w ha ca hc cc h x hx0 hx q.length u hm h1
    rw [wchk_ne h1] at h9
    rw [e1,e2]
    exact h9.mono fun e w' ⟨h3,h4⟩=>⟨(none,0),trivial,h3,h4.nilRow _ _⟩
theorem shares_ok (w:World) (c:Cs) (nd x:Int) (aa va:Option Addr) (ac vc:Nat) :
    Gives Tryz.prog 88 [.agg #[I c.p,I c.d,I c.v,I c.l,I c.st,.slice aa c.ap.length ac,.slice va c.vt.length vc],I nd,I x] w [] (fun y:Nat × Nat × Nat=>.func (.func 149) #[] #[.pointer (some ⟨y.1,0,none⟩),.pointer (some ⟨y.2.1,0,none⟩),.pointer (some ⟨y.2.2,0,none⟩)])
      (fun y=>[.blk y.2.2 (.cells #[I x] 3 (0,0)),.blk y.2.1 (.cells #[I nd] 3 (0,0)),.blk y.1 (.cells #[I c.p,I c.d,I c.v,I c.l,I c.st,.slice aa c.ap.length ac,.slice va c.vt.length vc] 30 (0,0))]) (fun _=>True):=by
  refine enter Tryz.func88 Tryz.ntmps88 ?_
  refine c_seq<|c_reg<|s_box rfl fun b3=>s_box rfl fun b4=>s_box rfl fun b5=>s_y y_as<|s_nil<|q_then<|c_seq<|c_reg<|s_y y_func<|s_y y_as<|s_nil<|q_then<|c_ret<|?_
  exact ret1 Tryz.results88 rv_t fun w' hw=>⟨(b3,b4,b5),trivial,rfl,hw⟩
def sM (L Dk:Nat) (rc:Loop) (b3 b4 b5 bo:Nat) (c:Cs) (aa va:Option Addr) (ac vc:Nat) (nd x:Int) (a:Option Addr) (c':Nat) (q:List (Int × Int)):SH :=
  [.blk L (.loop rc),.blk Dk (.deferred (some [])),.row a c' 46 2 q.length (shc q),.blk b5 (.cells #[I x] 3 (0,0)),.blk b4 (.cells #[I nd] 3 (0,0)),.blk b3 (.cells #[I c.p,I c.d,I c.v,I c.l,I c.st,.slice aa c.ap.length ac,.slice va c.vt.length vc] 30 (0,0)),.blk bo (.cells #[.slice a q.length c'] 33 (0,0))]
abbrev dieV (e:Int):List PanicEntry:=[{ v:=.iface 172 (.agg #[I e]),recovered:=false }]
theorem shares1_ok (w':World) (rc:Loop) (L Dk b3 b4 b5 bo:Nat) (c:Cs) (aa va:Option Addr) (ac vc nd x:Nat) (hx0:1 ≤ x) (hx:x < 2305843009213688669) (hnd:nd ≤ c.ap.length) (hac:c.ap.length ≤ ac) (hal:c.ap.length ≤ 1000000) (hR:R5 c) (hgr:∀ z ∈ c.ap,R64 z.g) (hcp:∀ z ∈ c.ap,z.q.length ≤ z.c) (hql:∀ z ∈ c.ap,z.q.length ≤ 100000)
    (hs:∀ p ∈ sM L Dk rc b3 b4 b5 bo c aa va ac vc nd x none 0 [],p.holds w') (hn:(keys (sM L Dk rc b3 b4 b5 bo c aa va ac vc nd x none 0 [])).Nodup) (hpz:rc.params.size = 2)
    (hWd:∀ w2 l2,St w' (keys (sM L Dk rc b3 b4 b5 bo c aa va ac vc nd x none 0 [])) w2 l2 → ApRd c aa w2)
    (hround:∀ (a:Option Addr) (c' k:Nat) (z:Ap) (w2:World),k < nd → c.ap[k]? = some z → shE x c z = 0 → St w' (keys (sM L Dk rc b3 b4 b5 bo c aa va ac vc nd x none 0 [])) w2 (sM L Dk rc b3 b4 b5 bo c aa va ac vc nd x a c' (shL x c k)) →
      RoundIn (Fw none) 0 Tryz.prog L rc.fn ((rc.params.zip #[.agg #[I (shV x c z).1,I (shV x c z).2],I 0]).foldl (fun tmps (t,a)=>tmps.setIfInBounds t a) rc.tmps) rc.assign rc.body w2 fun e w3=>∃ y:Option Addr × Nat,True ∧ e = .returned (.bool true) ∧ St w' (keys (sM L Dk rc b3 b4 b5 bo c aa va ac vc nd x none 0 [])) w3 (sM L Dk { rc with state:=.ready,pending:=none } b3 b4 b5 bo c aa va ac vc nd x y.1 y.2 (shL x c (k + 1))))
    (hdying:∀ (a:Option Addr) (c' k:Nat) (z:Ap) (w2:World),k < nd → c.ap[k]? = some z → shE x c z ≠ 0 → St w' (keys (sM L Dk rc b3 b4 b5 bo c aa va ac vc nd x none 0 [])) w2 (sM L Dk rc b3 b4 b5 bo c aa va ac vc nd x a c' (shL x c k)) →
      RoundIn (Fw none) 0 Tryz.prog L rc.fn ((rc.params.zip #[.agg #[I (shV x c z).1,I (shV x c z).2],I (shE x c z)]).foldl (fun tmps (t,a)=>tmps.setIfInBounds t a) rc.tmps) rc.assign rc.body w2 fun e w3=>e = .panicked (dieV (shE x c z)) ∧ St w' (keys (sM L Dk rc b3 b4 b5 bo c aa va ac vc nd x none 0 [])) w3 (sM L Dk { rc with state:=.busy } b3 b4 b5 bo c aa va ac vc nd x a c' (shL x c k)))
    (hrdy:rc = { rc with state:=.ready,pending:=none }:=by rfl) :
    Calls Tryz.prog 149 #[.func (.yield L) #[] #[],.pointer (some ⟨b3,0,none⟩),.pointer (some ⟨b4,0,none⟩),.pointer (some ⟨b5,0,none⟩)] w' fun e w2 =>
      ((∃ v,e = .returned v) ∧ (∀ k z,k < nd → c.ap[k]? = some z → shE x c z = 0) ∧ ∃ y:Option Addr × Nat,St w' (keys (sM L Dk rc b3 b4 b5 bo c aa va ac vc nd x none 0 [])) w2 (sM L Dk rc b3 b4 b5 bo c aa va ac vc nd x y.1 y.2 (shL x c nd))) ∨
      (∃ m z,∃ y:Option Addr × Nat,m < nd ∧ c.ap[m]? = some z ∧ shE x c z ≠ 0 ∧ (∀ k z',k < m → c.ap[k]? = some z' → shE x c z' = 0) ∧ e = .panicked (dieV (shE x c z)) ∧ St w' (keys (sM L Dk rc b3 b4 b5 bo c aa va ac vc nd x none 0 [])) w2 (sM L Dk { rc with state:=.busy } b3 b4 b5 bo c aa va ac vc nd x y.1 y.2 (shL x c m))):=by
  refine enterL (args:=[.func (.yield L) #[] #[],.pointer (some ⟨b3,0,none⟩),.pointer (some ⟨b4,0,none⟩),.pointer (some ⟨b5,0,none⟩)]) Tryz.func149 Tryz.ntmps149 hs hn ?_
  obtain ⟨bo',hbo⟩:∃ bo',bo' = keys (sM L Dk rc b3 b4 b5 bo c aa va ac vc nd x none 0 []):=⟨_,rfl⟩
  rw [← hbo] at hround hdying hWd ⊢
  refine c_seq<|c_reg<|s_y y_fa<|s_y (y_ld (b:=b3) (v:=.slice aa c.ap.length ac))<|s_y (y_ld (b:=b4) (v:=I nd))<|s_y (y_slh (j:=((nd:Nat):Int)))<|s_y y_len<|s_y y_mv<|s_nil<|q_then<|c_block<|?_
  rw [Int.toNat_natCast]
  refine c_loop3 (fun (k:Nat) (_:Option Addr) (_:Nat)=>[(0,.func (.yield L) #[] #[]),(1,.pointer (some ⟨b3,0,none⟩)),(2,.pointer (some ⟨b4,0,none⟩)),(3,.pointer (some ⟨b5,0,none⟩)),(15,.slice aa nd ac),(16,I nd),(17,I k)]) (fun k a c'=>sM L Dk rc b3 b4 b5 bo c aa va ac vc nd x a c' (shL x c k)) (fun k _ _=>k ≤ nd ∧ ∀ j z,j < k → c.ap[j]? = some z → shE x c z = 0) (fun k _ _=>nd - k) 0 none 0 ⟨by omega,fun _ _ h=>by omega⟩ ⟨rfl,rfl,rfl,rfl,rfl,rfl,rfl,trivial⟩ (.refl _) ?_
  rintro k a c' ⟨hk,hall⟩
  refine c_seq<|c_reg<|s_y (y_lss (p:=((k:Nat):Int)) (q:=((nd:Nat):Int)))<|s_nil<|q_then<|c_seq<|c_ifd (fun h18=>?_) (fun h18=>?_)
  · have hknd:k < nd:=by omega
    obtain ⟨z,hz⟩:∃ z,c.ap[k]? = some z:=⟨_,List.getElem?_eq_getElem (by omega)⟩
    have hzm:z ∈ c.ap:=List.mem_of_getElem? hz
    obtain ⟨bb,hbb⟩:∃ bb,bb = uwL x (msg c 0 z.g) z.u z.q:=⟨_,rfl⟩
    refine c_skip<|q_then<|c_seq<|c_block<|c_seq<|c_reg<|s_y (y_ixs (xs:=apc c.ap) (i:=((k:Nat):Int)) (hr:=fun w2 h2=>(hWd _ _ h2).r) (hl:=by rw [apc_length]; omega))<|s_y (y_ldra (i:=k * 5) (cs:=z.cell) (fun w2 h2=>(hWd _ _ h2).r) rfl (fun j v h=>apc_at hz h))<|s_alloc fun b6=>s_sta (b:=b6) (vs:=z.cell.toArray) (cs:=#[I 0,I 0,.slice none 0 0,I 0,I 0]) (h1:=fun v hv=>ap_one [z] v (by simpa [apc] using hv)) (hl:=rfl) (hs1:=rfl) ?_
    refine s_nil<|q_then<|c_seq<|c_regL (.blk b6 (.cells z.cell.toArray 74 (0,0)) :: sM L Dk rc b3 b4 b5 bo c aa va ac vc nd x a c' (shL x c k))<|r_y 0 rfl (y_ld (b:=b5) (v:=I x))<|r_y 1 rfl (y_lda (b:=b3) (cs:=#[I c.p,I c.d,I c.v,I c.l,I c.st,.slice aa c.ap.length ac,.slice va c.vt.length vc]) (hl:=rfl))<|r_y 2 rfl y_fa<|r_y 3 rfl (y_ld (b:=b6) (v:=I z.g))<|r_y 5 rfl y_fa<|r_y 6 rfl (y_ldin (b:=b6) (off:=1) (cs:=z.cell.toArray) (ys:=[I z.u,.slice z.a z.q.length z.c]) (hl:=rfl) (hv:=at_sub rfl))<|r_W 4 rfl<|s_gives (fun w2 h2=>Message_ok w2 c 0 z.g aa va ac vc (hWd _ _ h2).g.1 hR R64_0 (hgr z hzm)) fun x26 _=>r_K<|r_W 7 rfl<|s_gives (fun w2 h2=>unwrapG w2 x hx0 hx _ z.a 32 z.c 32 (msg c 0 z.g) z.q z.u (msg_length _ _ _) (hWd _ _ h2).g (rd_blkB (e:=95) (.head _) w2 h2) (by decide) ((hWd _ _ h2).o z hzm).1 (hcp z hzm) (by have:=((hWd _ _ h2).o z hzm).2; omega)) fun x29 _=>?_
    rw [← hbb]
    refine r_K<|r_y 8 rfl y_mv<|r_y 9 rfl y_ext<|r_y 10 rfl y_ext<|r_y 11 rfl y_as<|r_y 12 rfl y_as<|r_E<|q_then<|?_
    obtain ⟨ba,bc⟩:=x29
    have hbl:bb.length ≤ 100000:=by have e1:=uwL_length x (msg c 0 z.g) z.u z.q; have e2:=hql z hzm; rw [hbb]; omega
    refine c_join [(0,.func (.yield L) #[] #[]),(1,.pointer (some ⟨b3,0,none⟩)),(2,.pointer (some ⟨b4,0,none⟩)),(3,.pointer (some ⟨b5,0,none⟩)),(7,.slice ba bb.length bc),(8,I (shE x c z)),(15,.slice aa nd ac),(16,I nd),(17,I k)] (.row ba bc 5 1 bb.length (bs bb) :: sM L Dk rc b3 b4 b5 bo c aa va ac vc nd x a c' (shL x c k)) ?_ ?_
    · by_cases he:uwE x (msg c 0 z.g) z.u z.q = 0
      · by_cases h16:bb.length = 16
        · rw [show shE x c z = uwE x (msg c 0 z.g) z.u z.q by unfold shE; rw [if_pos he,← hbb,if_pos h16,he]]
          exact c_seq<|c_reg<|s_y y_mv<|s_kt (y_eql (p:=uwE x (msg c 0 z.g) z.u z.q) (q:=0)) he<|s_y y_mv<|s_y y_mv<|s_y y_len<|s_nf (y_neq (p:=((bb.length:Nat):Int)) (q:=16)) (by omega)<|s_y y_pk<|s_nil<|q_then<|c_f<|c_skip<|q_join ⟨rfl,rfl,rfl,rfl,rfl,rfl,rfl,rfl,rfl,trivial⟩ (.cons_cons _ (.cons _ (.cons _ (.refl _))))
        · rw [show shE x c z = 80 by unfold shE; rw [if_pos he,← hbb,if_neg h16]]
          exact c_seq<|c_reg<|s_y y_mv<|s_kt (y_eql (p:=uwE x (msg c 0 z.g) z.u z.q) (q:=0)) he<|s_y y_mv<|s_y y_mv<|s_y y_len<|s_nt (y_neq (p:=((bb.length:Nat):Int)) (q:=16)) (by omega)<|s_y y_pk<|s_nil<|q_then<|c_t<|c_reg<|s_y y_as<|s_nil<|q_join ⟨rfl,rfl,rfl,rfl,rfl,rfl,rfl,rfl,rfl,trivial⟩ (.cons_cons _ (.cons _ (.cons _ (.refl _))))
      · rw [show shE x c z = uwE x (msg c 0 z.g) z.u z.q by unfold shE; rw [if_neg he]]
        exact c_seq<|c_reg<|s_y y_mv<|s_kf (y_eql (p:=uwE x (msg c 0 z.g) z.u z.q) (q:=0)) he<|s_y y_mv<|s_no<|s_no<|s_no<|s_y y_pk<|s_nil<|q_then<|c_f<|c_skip<|q_join ⟨rfl,rfl,rfl,rfl,rfl,rfl,rfl,rfl,rfl,trivial⟩ (.cons_cons _ (.cons _ (.cons _ (.refl _))))
    refine c_seq<|c_reg<|s_alloc fun b9=>s_nil<|q_then<|c_seq<|c_seq<|c_reg<|s_y y_mv<|s_y y_len<|s_y y_mv<|s_nil<|q_then<|c_block<|?_
    refine c_loop (fun j:Nat=>[(0,.func (.yield L) #[] #[]),(1,.pointer (some ⟨b3,0,none⟩)),(2,.pointer (some ⟨b4,0,none⟩)),(3,.pointer (some ⟨b5,0,none⟩)),(8,I (shE x c z)),(9,.pointer (some ⟨b9,0,none⟩)),(15,.slice aa nd ac),(16,I nd),(17,I k),(39,.slice ba bb.length bc),(40,I bb.length),(41,I j)]) (fun j=>.blk b9 (.cells #[I (nb bb j).1,I (nb bb j).2] 190 (0,0)) :: .row ba bc 5 1 bb.length (bs bb) :: sM L Dk rc b3 b4 b5 bo c aa va ac vc nd x a c' (shL x c k)) (fun j=>j ≤ bb.length) (fun j=>bb.length - j) 0 (by omega) ⟨rfl,rfl,rfl,rfl,rfl,rfl,rfl,rfl,rfl,rfl,rfl,rfl,trivial⟩ (.refl _) ?_
    intro j hj
    refine c_seq<|c_reg<|s_y (y_lss (p:=((j:Nat):Int)) (q:=((bb.length:Nat):Int)))<|s_nil<|q_then<|c_seq<|c_ifd (fun h42=>?_) (fun h42=>?_)
    · have hjb:j < bb.length:=by omega
      refine c_skip<|q_then<|c_seq<|c_block<|c_seq<|c_reg<|s_y y_mv<|s_y (y_ixs1 (xs:=bs bb) (i:=((j:Nat):Int)) (hr:=rdR (.tail _ (.head _))) (hl:=by rw [bs_length]; omega))<|s_y (y_ldb (q:=bb) (i:=j) (hr:=rdR (.tail _ (.head _))) (hi:=hjb))<|s_y y_as<|s_y y_as<|s_nil<|q_then<|?_
      by_cases h8:j < 8
      · have e9:min (((j:Nat):Int) / 8) 1 = 0:=by omega
        have en:nb bb (j + 1) = (sh8 (nb bb j).1 (bb.getD j 0),(nb bb j).2):=by rw [nb,if_pos h8]
        refine c_reg<|s_y y_mv<|s_y (y_quo (p:=((j:Nat):Int)) (q:=8))<|s_y (y_min (p:=((j:Nat):Int) / 8) (q:=1))<|?_
        rw [e9]
        refine s_y y_mv<|s_y (y_quo (p:=((j:Nat):Int)) (q:=8))<|s_y (y_min (p:=((j:Nat):Int) / 8) (q:=1))<|?_
        rw [e9]
        refine s_y (y_ixa1 (i:=0))<|s_y (y_ld (b:=b9) (v:=I (nb bb j).1))<|s_y (y_shlw 8 (p:=(nb bb j).1))<|s_y y_mv<|s_y (y_cvb (p:=bb.getD j 0))<|s_y (y_orw (p:=IntKind.i64.wrap ((nb bb j).1 * 2 ^ 8)) (q:=(((bb.getD j 0).toNat:Nat):Int)))<|s_y (y_ixa1 (i:=0))<|s_st (b:=b9) (off:=0) (v:=I (sh8 (nb bb j).1 (bb.getD j 0))) (cs:=#[I (nb bb j).1,I (nb bb j).2]) (hl:=show 0 < 2 by decide) ?_
        refine s_nil<|q_nb<|q_then<|c_reg<|s_y (y_add (p:=((j:Nat):Int)) (q:=1))<|s_y y_mv<|s_nil<|?_
        rw [show ((j:Nat):Int) + 1 = ((j + 1:Nat):Int) by omega]
        exact q_round (j + 1) (by omega) (by omega) ⟨rfl,rfl,rfl,rfl,rfl,rfl,rfl,rfl,rfl,rfl,rfl,rfl,trivial⟩ (by rw [en]; exact .refl _)
      · have e9:min (((j:Nat):Int) / 8) 1 = 1:=by omega
        have en:nb bb (j + 1) = ((nb bb j).1,sh8 (nb bb j).2 (bb.getD j 0)):=by rw [nb,if_neg h8]
        refine c_reg<|s_y y_mv<|s_y (y_quo (p:=((j:Nat):Int)) (q:=8))<|s_y (y_min (p:=((j:Nat):Int) / 8) (q:=1))<|?_
        rw [e9]
        refine s_y y_mv<|s_y (y_quo (p:=((j:Nat):Int)) (q:=8))<|s_y (y_min (p:=((j:Nat):Int) / 8) (q:=1))<|?_
        rw [e9]
        refine s_y (y_ixa1 (i:=1))<|s_y (y_ld (b:=b9) (v:=I (nb bb j).2))<|s_y (y_shlw 8 (p:=(nb bb j).2))<|s_y y_mv<|s_y (y_cvb (p:=bb.getD j 0))<|s_y (y_orw (p:=IntKind.i64.wrap ((nb bb j).2 * 2 ^ 8)) (q:=(((bb.getD j 0).toNat:Nat):Int)))<|s_y (y_ixa1 (i:=1))<|s_st (b:=b9) (off:=1) (v:=I (sh8 (nb bb j).2 (bb.getD j 0))) (cs:=#[I (nb bb j).1,I (nb bb j).2]) (hl:=show 1 < 2 by decide) ?_
        refine s_nil<|q_nb<|q_then<|c_reg<|s_y (y_add (p:=((j:Nat):Int)) (q:=1))<|s_y y_mv<|s_nil<|?_
        rw [show ((j:Nat):Int) + 1 = ((j + 1:Nat):Int) by omega]
        exact q_round (j + 1) (by omega) (by omega) ⟨rfl,rfl,rfl,rfl,rfl,rfl,rfl,rfl,rfl,rfl,rfl,rfl,trivial⟩ (by rw [en]; exact .refl _)
    · obtain rfl:j = bb.length:=by omega
      have hv:nb bb bb.length = shV x c z:=by rw [hbb]; rfl
      rw [hv]
      refine c_exit<|q_ex<|q_ex<|q_exb<|q_then<|c_seq<|c_reg<|s_y y_mv<|s_y (y_ixa1 (i:=0))<|s_y (y_ld (b:=b9) (v:=I (shV x c z).1))<|s_y (y_ixa1 (i:=1))<|s_y (y_ld (b:=b9) (v:=I (shV x c z).2))<|s_y (y_bshr (cs:=[I (shV x c z).1,I (shV x c z).2]))<|s_y y_mv<|?_
      by_cases hsE:shE x c z = 0
      · rw [hsE]
        refine s_yield2 (L:=L) (rc:=rc) (v:=.agg #[I (shV x c z).1,I (shV x c z).2]) (v':=I 0) (σ:=Option Addr × Nat) (fun _=>.bool true) (fun y=>sM L Dk { rc with state:=.ready,pending:=none } b3 b4 b5 bo c aa va ac vc nd x y.1 y.2 (shL x c (k + 1))) (fun _=>True) (.tail _ (.tail _ (.head _))) hpz (fun w2 h2=>hround a c' k z w2 hknd hz hsE (h2.sub (.cons _ (.cons _ (.refl _))))) (fun y _=>?_)
        rw [← hrdy]
        refine s_y (v:=.bool false) (y_not (b:=true))<|s_nil<|q_then<|c_f<|c_skip<|q_nb<|q_then<|c_reg<|s_y (y_add (p:=((k:Nat):Int)) (q:=1))<|s_y y_mv<|s_nil<|?_
        rw [show ((k:Nat):Int) + 1 = ((k + 1:Nat):Int) by omega]
        exact q_round3 (x:=k) (y:=a) (z:=c') (k + 1) y.1 y.2 ⟨by omega,fun i z' hi hz'=>(Nat.lt_or_ge i k).elim (fun h=>hall i z' h hz') fun h=>by obtain rfl:i = k:=(by omega); rw [Option.some.inj (hz'.symm.trans hz)]; exact hsE⟩ (by omega) ⟨rfl,rfl,rfl,rfl,rfl,rfl,rfl,trivial⟩ (.refl _)
      · refine s_yieldD (L:=L) (rc:=rc) (v:=.agg #[I (shV x c z).1,I (shV x c z).2]) (v':=I (shE x c z)) (ch:=dieV (shE x c z)) (l2:=sM L Dk { rc with state:=.busy } b3 b4 b5 bo c aa va ac vc nd x a c' (shL x c k)) (.tail _ (.tail _ (.head _))) hpz (fun w2 h2=>hdying a c' k z w2 hknd hz hsE (h2.sub (.cons _ (.cons _ (.refl _))))) ?_
        exact q_pt<|q_pb<|q_pt<|q_pt<|q_pb<|Eng.die fun w2 h2=>.inr ⟨k,z,(a,c'),hknd,hz,hsE,hall,rfl,h2⟩
  · obtain rfl:k = nd:=by omega
    refine c_exit<|q_ex<|q_ex<|q_exb<|?_
    exact ret0 Tryz.results149 (fun w2 h2=>.inl ⟨⟨_,rfl⟩,hall,(a,c'),h2⟩) _ (.inr rfl)
end Go.Proofs.YtojohglifijnnaaGreatDoor
end
section
namespace Eng
open Go Go.RowKit
end Eng
namespace Rst
open Go Eng Gf Cha
theorem isort_length (l:List (Int × Int)):(isort l).length = l.length:=srtN_length _ _
theorem ApRd.st {c:Cs} {aa:Option Addr} {W w:World} {ps:SH} (h:ApRd c aa W) (hs:St W [] w ps):ApRd c aa w:=⟨h.g.st hs,h.r.st hs,h.o.st hs⟩
end Rst
namespace Go.Proofs.YtojohglifijnnaaGreatDoor
open Go Eng Gf Sha Sig Wr Cod Cha Rst
set_option maxRecDepth 100000
set_option linter.all false
theorem Finish_st (w:World) (p:Pn) (c:Cs) (now ver:Int) (ga aa va:Option Addr) (gc ac vc:Nat) (hrg:Rd w ga (is p.gs)) (hra:Rd w aa (apc c.ap)) (hrv:Rd w va (vtc c.vt)) (hgl:p.gs.length ≤ 1000000) (hal:c.ap.length ≤ 1000000) (hvl:c.vt.length ≤ 1000000) (x:Int) (hst:stE p c now ≠ 0):Pure Tryz.prog 29 [.agg #[I p.id,I p.rk,.slice ga p.gs.length gc,I p.need,I p.cool],.agg #[I c.p,I c.d,I c.v,I c.l,I c.st,.slice aa c.ap.length ac,.slice va c.vt.length vc],I now,I ver,I x] w (.tuple #[.agg #[I 0,I 0,I 0,I 0,I 0,I 0,I 0,I 0],I (stE p c now)]):=by
  refine enterD Tryz.func29 Tryz.ntmps29 ?_
  refine c_seq<|c_reg<|s_box rfl fun b5=>s_box rfl fun b6=>s_alloc fun b10=>s_alloc fun b11=>s_nil<|q_then<|c_seq<|c_reg<|s_y y_func<|s_deferC<|s_nil<|q_then<|c_seq<|c_reg<|s_y (y_lda (b:=b5) (cs:=#[I p.id,I p.rk,.slice ga p.gs.length gc,I p.need,I p.cool]) (hl:=rfl))<|s_y (y_lda (b:=b6) (cs:=#[I c.p,I c.d,I c.v,I c.l,I c.st,.slice aa c.ap.length ac,.slice va c.vt.length vc]) (hl:=rfl))<|s_y y_mv<|s_pure (fun w' hw=>State_ok w' p c now ga aa va gc ac vc (hrg.st hw) (hra.st hw) (hrv.st hw) hgl hal hvl)<|s_dies (fun w' hw=>try_dies w' (stE p c now) hst)<|q_pt<|?_
  exact leave_P (fun w' hw=>rcFinish_P w' b11 0 (stE p c now) (hw.own _ (.head _)).1) Tryz.results29 (.refl _) (.cons (rv_ca (b:=b10) (cs:=(List.replicate 8 (I 0)).toArray) (hl:=rfl)) (.cons (rv_cf (b:=b11) (v:=I (stE p c now))) .nil)) fun w' hw=>⟨rfl,hw.sub (List.nil_sublist _)⟩
theorem Finish_y (w:World) (p:Pn) (c:Cs) (now ver:Int) (ga aa va:Option Addr) (gc ac vc:Nat) (hrg:Rd w ga (is p.gs)) (hra:Rd w aa (apc c.ap)) (hrv:Rd w va (vtc c.vt)) (hgl:p.gs.length ≤ 1000000) (hal:c.ap.length ≤ 1000000) (hvl:c.vt.length ≤ 1000000) (hst:stE p c now = 0) (x:Nat) (hx0:1 ≤ x) (hx:x < 2305843009213688669) (hv:((pp 4 x:Nat):Int) = c.l) (hac:c.ap.length ≤ ac) (hR:R5 c) (hcp:∀ z ∈ c.ap,z.q.length ≤ z.c) (hql:∀ z ∈ c.ap,z.q.length ≤ 100000) (hA:ApRd c aa w) (nd:Nat) (hnd:p.need = (nd:Int)) (hnd2:nd < 20) (hall:∀ k z,k < nd → c.ap[k]? = some z → shE x c z = 0) (r:Nat) (hrq:r < 2305843009213688669) (hch:chS (isort (shL x c nd)) = 0) (hjn:jnV (isort (shL x c nd)) = (r:Int)) (hr0:r ≠ 0) (hrk:((pp 4 r:Nat):Int) = p.rk) (hcr:CrRt c.d c.v c.l ver):Pure Tryz.prog 29 [.agg #[I p.id,I p.rk,.slice ga p.gs.length gc,I p.need,I p.cool],.agg #[I c.p,I c.d,I c.v,I c.l,I c.st,.slice aa c.ap.length ac,.slice va c.vt.length vc],I now,I ver,I x] w (.tuple #[.agg #[I 3,I c.d,I c.v,I c.l,I ver,I (-1),I (sgR r (cmsg [3,c.d,c.v,c.l,ver,-1]):Nat),I (sgS r (cmsg [3,c.d,c.v,c.l,ver,-1]):Nat)],I (0)]):=by
  have hgr:∀ z ∈ c.ap,R64 z.g:=fun z hz=>by
    obtain ⟨hp9,hb9,_⟩:=stE_inv hst
    have h9:=hp9.gs z.g (hb9.fg z hz)
    unfold R64; omega
  have hnl:nd ≤ c.ap.length:=by have:=(stE_inv hst).2.2.2.2; omega
  refine enterW Tryz.func29 Tryz.ntmps29 (g_cp ?_)
  refine c_seq<|c_reg<|s_box rfl fun b5=>s_box rfl fun b6=>s_alloc fun b10=>s_alloc fun b11=>s_nil<|q_then<|c_seq<|c_reg<|s_y y_func<|s_deferC<|s_nil<|q_then<|c_seq<|c_reg<|s_y (y_lda (b:=b5) (cs:=#[I p.id,I p.rk,.slice ga p.gs.length gc,I p.need,I p.cool]) (hl:=rfl))<|s_y (y_lda (b:=b6) (cs:=#[I c.p,I c.d,I c.v,I c.l,I c.st,.slice aa c.ap.length ac,.slice va c.vt.length vc]) (hl:=rfl))<|s_y y_mv<|s_pure (fun w' hw=>(by have h9:=State_ok w' p c now ga aa va gc ac vc (hrg.st hw) (hra.st hw) (hrv.st hw) hgl hal hvl; rw [hst] at h9; exact h9))<|s_pure (fun w' hw=>try_ok w')<|s_nil<|q_then<|c_seq<|c_reg<|s_y y_mv<|s_pure (fun w' hw=>sPublic_yes w' x hx0 hx)<|s_y y_mv<|s_y y_ext<|s_y y_ext<|s_y y_as<|s_st (b:=b11) (v:=I 0) (cs:=#[I 0]) (hl:=Nat.zero_lt_one) ?_
  refine s_nil<|q_then<|c_seq<|c_reg<|s_y (y_ld (b:=b11) (v:=I 0))<|s_pure (fun w' hw=>try_ok w')<|s_nil<|q_then<|c_seq<|c_reg<|s_y y_mv<|s_y y_fa<|s_y (y_ld (b:=b6) (v:=I c.l))<|s_kt (y_eql (p:=(pp 4 x:Nat)) (q:=c.l)) hv<|s_pure (fun w' hw=>demand_ok w' 390)<|s_nil<|q_then<|c_seq<|c_reg<|s_alloc fun b13=>s_nil<|q_then<|c_seq<|c_seq<|c_reg<|s_y (y_lda (b:=b6) (cs:=#[I c.p,I c.d,I c.v,I c.l,I c.st,.slice aa c.ap.length ac,.slice va c.vt.length vc]) (hl:=rfl))<|s_y y_fa<|s_y (y_ld (b:=b5) (v:=I p.need))<|s_y y_mv<|s_gives (fun w' hw=>shares_ok w' c p.need x aa va ac vc) fun x40 _=>s_nil<|q_then<|?_
  obtain ⟨b3',b4',b5'⟩:=x40
  dsimp only
  rw [hnd]
  refine c_nilrow 46 2<|c_block<|c_rangeN (σ:=Option Addr × Nat) (fun y=>[.row y.1 y.2 46 2 (shL x c nd).length (shc (shL x c nd)),.blk b5' (.cells #[I x] 3 (0,0)),.blk b4' (.cells #[I nd] 3 (0,0)),.blk b3' (.cells #[I c.p,I c.d,I c.v,I c.l,I c.st,.slice aa c.ap.length ac,.slice va c.vt.length vc] 30 (0,0)),.blk b13 (.cells #[.slice y.1 (shL x c nd).length y.2] 33 (0,0))] ++ [.blk b11 (.cells #[I 0] 34 (0,0)),.blk b10 (.cells #[I 0,I 0,I 0,I 0,I 0,I 0,I 0,I 0] 61 (0,0)),.blk b6 (.cells #[I c.p,I c.d,I c.v,I c.l,I c.st,.slice aa c.ap.length ac,.slice va c.vt.length vc] 30 (0,0)),.blk b5 (.cells #[I p.id,I p.rk,.slice ga p.gs.length gc,I nd,I p.cool] 26 (0,0))]) (fun _=>True) (fun fn tm Dk L hfr w' hw'=>?_) (fun Dk y _=>?_)
  rotate_left
  · refine q_nb<|q_then<|c_seq<|c_reg<|s_y (y_ld (b:=b13) (v:=.slice y.1 (shL x c nd).length y.2))<|?_
    refine s_upd (σ:=Unit) (p:=.row y.1 y.2 46 2 (shL x c nd).length (shc (shL x c nd))) (p':=fun _=>.row y.1 y.2 46 2 (shL x c nd).length (shc (isort (shL x c nd)))) (lx:=fun _=>[]) (φ:=fun _=>True) (val:=fun _=>.tuple #[]) (fun w' hw=>sortS_ok w' y.1 y.2 (shL x c nd).length (shL x c nd) rfl (by rw [shL_length hnl]; omega) (hw.own _ (.tail _ (.head _))).1) (fun _=>.tail _ (.head _)) fun _ _=>?_
    refine s_nil<|q_then<|c_seq<|c_reg<|s_y (y_ld (b:=b13) (v:=.slice y.1 (shL x c nd).length y.2))<|s_pure (fun w' hw=>(by have h9:=s_Join_ok w' y.1 y.2 (isort (shL x c nd)) (rdR (.tail _ (.head _)) w' hw) (by rw [isort_length,shL_length hnl]; omega); rw [isort_length] at h9; exact h9))<|s_y y_mv<|s_y y_ext<|s_y y_ext<|s_y y_as<|s_st (b:=b11) (v:=I (chS (isort (shL x c nd)))) (cs:=#[I 0]) (hl:=Nat.zero_lt_one) ?_
    refine s_nil<|q_then<|c_seq<|c_reg<|s_y (y_ld (b:=b11) (v:=I (chS (isort (shL x c nd)))))<|?_
    rw [hch]
    refine s_pure (fun w' hw=>try_ok w')<|s_nil<|q_then<|c_seq<|c_reg<|s_y y_mv<|?_
    rw [hjn]
    refine s_pure (fun w' hw=>gBase_el w' r hrq)<|s_y y_mv<|s_y y_ext<|s_y y_ext<|s_y y_as<|s_st (b:=b11) (v:=I 0) (cs:=#[I 0]) (hl:=Nat.zero_lt_one) ?_
    refine s_nil<|q_then<|c_seq<|c_reg<|s_y (y_ld (b:=b11) (v:=I 0))<|s_pure (fun w' hw=>try_ok w')<|s_nil<|q_then<|c_seq<|c_reg<|s_y y_mv<|s_nt (y_neq (p:=((r:Nat):Int)) (q:=0)) (by omega)<|s_y y_mv<|s_y y_mv<|s_y y_fa<|s_y (y_ld (b:=b5) (v:=I p.rk))<|s_kt (y_eql (p:=((pp 4 r:Nat):Int)) (q:=p.rk)) hrk<|s_y y_pk<|s_pure (fun w' hw=>demand_ok w' 80)<|s_nil<|q_then<|c_seq<|c_reg<|s_y y_fa<|s_y (y_ld (b:=b6) (v:=I c.d))<|s_y y_fa<|s_y (y_ld (b:=b6) (v:=I c.v))<|s_y y_fa<|s_y (y_ld (b:=b6) (v:=I c.l))<|s_y y_mv<|s_y y_mv<|s_pure (fun w' hw=>Certify3_yes w' c.d c.v c.l ver r hcr (hA.st hw).g.1 (by omega) hrq)<|s_y y_ext<|s_y y_ext<|s_sta (b:=b10) (vs:=#[I 3,I c.d,I c.v,I c.l,I ver,I (-1),I (sgR r (cmsg [3,c.d,c.v,c.l,ver,-1]):Nat),I (sgS r (cmsg [3,c.d,c.v,c.l,ver,-1]):Nat)]) (cs:=#[I 0,I 0,I 0,I 0,I 0,I 0,I 0,I 0]) (h1:=by intro u hu; simp at hu; rcases hu with rfl | rfl | rfl | rfl | rfl | rfl | rfl | rfl <;> rfl) (hl:=rfl) (hs1:=rfl) ?_
    refine s_st (b:=b11) (v:=I 0) (cs:=#[I 0]) (hl:=Nat.zero_lt_one) ?_
    refine s_nil<|q_then<|c_ret<|q_mark (.head _)<|?_
    exact leaveW_R (cs:=[.pointer (some ⟨b11,0,none⟩)]) (fun w' hw=>rcFinish_R w' b11) Tryz.results29 (.cons (rv_ca (b:=b10) (cs:=#[I 3,I c.d,I c.v,I c.l,I ver,I (-1),I (sgR r (cmsg [3,c.d,c.v,c.l,ver,-1]):Nat),I (sgS r (cmsg [3,c.d,c.v,c.l,ver,-1]):Nat)]) (hl:=rfl)) (.cons (rv_cf (b:=b11) (v:=I 0)) .nil)) fun w' hw=>⟨rfl,hw.sub (List.nil_sublist _)⟩
  · show Calls _ _ _ _ _
    have hps:=(show St w [] w' (sM L Dk _ b3' b4' b5' b13 c aa va ac vc nd x none 0 [] ++ [.blk b11 (.cells #[I 0] 34 (0,0)),.blk b10 (.cells #[I 0,I 0,I 0,I 0,I 0,I 0,I 0,I 0] 61 (0,0)),.blk b6 (.cells #[I c.p,I c.d,I c.v,I c.l,I c.st,.slice aa c.ap.length ac,.slice va c.vt.length vc] 30 (0,0)),.blk b5 (.cells #[I p.id,I p.rk,.slice ga p.gs.length gc,I nd,I p.cool] 26 (0,0))]) from hw').has
    refine (shares1_ok w' _ L Dk b3' b4' b5' b13 c aa va ac vc nd x hx0 hx hnl hac hal hR hgr hcp hql hps.1 hps.2 rfl (fun w2 l2 h=>hA.st (hw'.transL (l2:=[.blk b11 (.cells #[I 0] 34 (0,0)),.blk b10 (.cells #[I 0,I 0,I 0,I 0,I 0,I 0,I 0,I 0] 61 (0,0)),.blk b6 (.cells #[I c.p,I c.d,I c.v,I c.l,I c.st,.slice aa c.ap.length ac,.slice va c.vt.length vc] 30 (0,0)),.blk b5 (.cells #[I p.id,I p.rk,.slice ga p.gs.length gc,I nd,I p.cool] 26 (0,0))]) (.refl _) h)) (fun a c' k z w2 hk9 hz hse h2=>?_) (fun a c' k z w2 hk9 hz hne h2=>?_)).mono ?_
    rotate_left 2
    · rintro e w2 (⟨hv9,hal9,y,h2⟩ | ⟨m,z,y,hm9,hz9,hne9,hb9,he9,h2⟩)
      · exact ⟨hv9,y,trivial,hw'.transL (l2:=[.blk b11 (.cells #[I 0] 34 (0,0)),.blk b10 (.cells #[I 0,I 0,I 0,I 0,I 0,I 0,I 0,I 0] 61 (0,0)),.blk b6 (.cells #[I c.p,I c.d,I c.v,I c.l,I c.st,.slice aa c.ap.length ac,.slice va c.vt.length vc] 30 (0,0)),.blk b5 (.cells #[I p.id,I p.rk,.slice ga p.gs.length gc,I nd,I p.cool] 26 (0,0))]) (.refl _) h2⟩
      · exact absurd (hall m z hm9 hz9) hne9
    · -- a round that goes well
      have hqk:(shL x c k).length = k:=shL_length (by omega)
      have hf9:=((hfr []).put 41 (.agg #[I (shV x c z).1,I (shV x c z).2]) rfl).put 42 (I 0) rfl
      refine round_okE (σ:=Nat) (F1:=fun b14=>[(11,.pointer (some ⟨b11,0,none⟩)),(13,.pointer (some ⟨b13,0,none⟩)),(14,.pointer (some ⟨b14,0,none⟩)),(15,I 0)]) (l1:=fun b14=>(.blk b14 (.cells #[I (shV x c z).1,I (shV x c z).2] 46 (0,0))) :: sM L Dk _ b3' b4' b5' b13 c aa va ac vc nd x a c' (shL x c k)) (l2:=fun b14=>(.blk b14 (.cells #[I (shV x c z).1,I (shV x c z).2] 46 (0,0))) :: sM L Dk _ b3' b4' b5' b13 c aa va ac vc nd x a c' (shL x c k)) h2 hf9 (by simp [Act.put]) (by rfl) (fun _=>.tail _ (.head _)) ?_ (fun b14=>?_)
      · refine c_seq<|c_reg<|s_alloc fun b14=>s_sta (b:=b14) (vs:=#[I (shV x c z).1,I (shV x c z).2]) (cs:=#[I 0,I 0]) (h1:=by intro u hu; simp at hu; rcases hu with rfl | rfl <;> rfl) (hl:=rfl) (hs1:=rfl) ?_
        refine s_nil<|q_then<|c_reg<|s_y y_as<|s_nil<|?_
        exact q_joinE b14 ⟨rfl,rfl,rfl,rfl,trivial⟩ (.refl _)
      · refine c_block<|c_seq<|c_reg<|s_y y_mv<|s_pure (fun w3 h3=>try_ok w3)<|s_nil<|q_then<|c_reg<|s_y (y_ld (b:=b13) (v:=.slice a (shL x c k).length c'))<|s_y (y_lda (b:=b14) (cs:=#[I (shV x c z).1,I (shV x c z).2]) (hl:=rfl))<|s_bslr (cs:=[I (shV x c z).1,I (shV x c z).2]) fun b47=>s_app (m:=1) (fun w' hw=>Src.slice (rdR (.head _) w' hw) rfl) (h1:=fun v hv=>by simp at hv; rcases hv with rfl | rfl <;> rfl) (hm:=.tail _ (.tail _ (.tail _ (.tail _ (.head _))))) (hrep:=fun _ _=>.tail _ (.tail _ (.tail _ (.tail _ (.head _))))) fun a48 c48 h48=>?_
        rw [show shc (shL x c k) ++ [I (shV x c z).1,I (shV x c z).2] = shc (shL x c (k + 1)) by rw [shL_succ hz,shc_append]; rfl,show (shL x c k).length + 1 = (shL x c (k + 1)).length by rw [shL_succ hz,List.length_append]; rfl]
        refine s_st (b:=b13) (v:=.slice a48 (shL x c (k + 1)).length c48) (cs:=#[.slice a (shL x c k).length c']) (hl:=Nat.zero_lt_one) ?_
        exact s_nil<|q_nb<|q_rn (.tail _ (.tail _ (.head _))) fun w3 h3=>⟨(a48,c48),trivial,rfl,h3.sub (.cons _ (.cons _ (.refl _)))⟩
    · exact absurd (hall k z hk9 hz) hne
end Go.Proofs.YtojohglifijnnaaGreatDoor
end
section
namespace Rst
open Go Eng Gf Sha Sig Wr Cod Cha Go.Proofs.YtojohglifijnnaaGreatDoor
theorem sh8_nat {p:Nat} {d:UInt8} (hp:p < 36028797018963968):sh8 (p:Int) d = ((p * 256 + d.toNat:Nat):Int):=orV_byte hp
theorem div_step (A i:Nat) (h:i < 8):A / 2 ^ (8 * (8 - i)) * 256 + (UInt8.ofNat (A / 2 ^ (8 * (7 - i)))).toNat = A / 2 ^ (8 * (8 - (i + 1))):=by
  have e:8 * (8 - i) = 8 * (7 - i) + 8:=by omega
  rw [e,Nat.pow_add,← Nat.div_div_eq_div_mul,UInt8.toNat_ofNat',show 8 * (8 - (i + 1)) = 8 * (7 - i) by omega]
  omega
theorem div_lt {A i:Nat} (hA:A < 9223372036854775808) (h:i < 8):A / 2 ^ (8 * (8 - i)) < 36028797018963968:=by
  have h1:A / 2 ^ (8 * (8 - i)) ≤ A / 2 ^ 8:=Nat.div_le_div_left (Nat.pow_le_pow_right (by decide) (by omega)) (by decide)
  have h2:(2:Nat) ^ 8 = 256:=rfl
  omega
theorem nb_lo {b:List UInt8} {A:Nat} (hA:A < 9223372036854775808) (hb:∀ i,i < 8 → b.getD i 0 = UInt8.ofNat (A / 2 ^ (8 * (7 - i)))):∀ i,i ≤ 8 → nb b i = (((A / 2 ^ (8 * (8 - i)):Nat):Int),0)
  | 0,_=>by
    rw [nb,show A / 2 ^ (8 * (8 - 0)) = 0 from Nat.div_eq_of_lt (Nat.lt_of_lt_of_le hA (by decide))]; rfl
  | i + 1,h=>by
    rw [nb,if_pos (by omega),nb_lo hA hb i (by omega),hb i (by omega),sh8_nat (div_lt hA (by omega)),div_step A i (by omega)]
theorem nb_hi {b:List UInt8} {A Y:Nat} (hA:A < 9223372036854775808) (hY:Y < 9223372036854775808) (hb:∀ i,i < 8 → b.getD i 0 = UInt8.ofNat (A / 2 ^ (8 * (7 - i)))) (hb2:∀ i,i < 8 → b.getD (8 + i) 0 = UInt8.ofNat (Y / 2 ^ (8 * (7 - i)))):∀ i,i ≤ 8 → nb b (8 + i) = ((A:Int),((Y / 2 ^ (8 * (8 - i)):Nat):Int))
  | 0,_=>by
    rw [Nat.add_zero,nb_lo hA hb 8 (Nat.le_refl _),show Y / 2 ^ (8 * (8 - 0)) = 0 from Nat.div_eq_of_lt (Nat.lt_of_lt_of_le hY (by decide))]
    simp
  | i + 1,h=>by
    rw [show 8 + (i + 1) = (8 + i) + 1 by omega,nb,if_neg (by omega),nb_hi hA hY hb hb2 i (by omega),hb2 i (by omega),sh8_nat (div_lt hY (by omega)),div_step Y i (by omega)]
theorem nb_bdy {A Y:Nat} (hA:A < 9223372036854775808) (hY:Y < 9223372036854775808):nb (bdy A Y) 16 = ((A:Int),(Y:Int)):=by
  have h:=nb_hi (b:=bdy A Y) hA hY (fun i hi=>by
      unfold bdy
      rw [List.getD_eq_getElem?_getD,List.getElem?_append_left (by rw [be_length]; omega),← List.getD_eq_getElem?_getD,be_get A 8 i hi]) (fun i hi=>by
      unfold bdy
      rw [List.getD_eq_getElem?_getD,List.getElem?_append_right (by rw [be_length]; omega),be_length,Nat.add_sub_cancel_left,← List.getD_eq_getElem?_getD,be_get Y 8 i hi]) 8 (Nat.le_refl _)
  simpa using h
theorem uw_good (x:Nat) (s h b:List UInt8) (hb:b.length ≤ 65536):uwE x h (wU s:Nat) (wB (pp 4 x) s h b) = 0 ∧ uwL x h (wU s:Nat) (wB (pp 4 x) s h b) = b:=by
  obtain ⟨h1,h2⟩:=w_open x s h hb
  have h3:wchk (wU s:Nat) (wB (pp 4 x) s h b).length = 0:=wchk_ok s (by rw [wB_length]; omega) (by rw [wB_length]; omega)
  have e:uwE x h (wU s:Nat) (wB (pp 4 x) s h b) = 0:=by unfold uwE; rw [if_pos h3,Int.toNat_natCast,if_pos h1]
  exact ⟨e,by unfold uwL; rw [if_pos e,Int.toNat_natCast]; exact h2⟩
def GdAp (x:Nat) (c:Cs) (A Y:Nat) (a:Ap):Prop:=∃ s,a.u = (wU s:Nat) ∧ a.q = wB (pp 4 x) s (msg c 0 a.g) (bdy A Y)
theorem gd_sh {x:Nat} {c:Cs} {A Y:Nat} {a:Ap} (h:GdAp x c A Y a) (hA:A < 9223372036854775808) (hY:Y < 9223372036854775808):shE x c a = 0 ∧ shV x c a = ((A:Int),(Y:Int)):=by
  obtain ⟨s,hu,hq⟩:=h
  obtain ⟨e1,e2⟩:=uw_good x s (msg c 0 a.g) (bdy A Y) (by rw [bdy_length]; decide)
  unfold shE shV
  rw [hu,hq,e1,e2,if_pos rfl,bdy_length,if_pos rfl]
  exact ⟨rfl,nb_bdy hA hY⟩
def insR (x:Int × Int):List (Int × Int) → List (Int × Int)
  | []=>[x]
  | y :: ys=>if x.1 < y.1 then y :: insR x ys else x :: y :: ys
theorem insR_perm (x:Int × Int):∀ l,(insR x l).Perm (x :: l)
  | []=>.refl _
  | y :: ys=>by
    unfold insR
    split
    · exact ((insR_perm x ys).cons y).trans (.swap _ _ _)
    · exact .refl _
theorem insR_sorted {x:Int × Int}:∀ {l:List (Int × Int)},l.Pairwise (fun a b=>b.1 ≤ a.1) → (insR x l).Pairwise (fun a b=>b.1 ≤ a.1)
  | [],_=>by simp [insR]
  | y :: ys,h=>by
    obtain ⟨h1,h2⟩:=List.pairwise_cons.1 h
    unfold insR
    split
    · refine List.pairwise_cons.2 ⟨fun z hz=>?_,insR_sorted h2⟩
      rcases List.mem_cons.1 ((insR_perm x ys).mem_iff.1 hz) with rfl | hz
      · omega
      · exact h1 z hz
    · refine List.pairwise_cons.2 ⟨fun z hz=>?_,h⟩
      rcases List.mem_cons.1 hz with rfl | hz
      · omega
      · have:=h1 z hz; omega
theorem bub_ins (x:Int × Int) (r:List (Int × Int)):∀ pr:List (Int × Int),bub (pr.reverse ++ x :: r) pr.length = (insR x pr).reverse ++ r
  | []=>by simp [bub,insR]
  | y :: ys=>by
    have hl:ys.reverse.length = ys.length:=List.length_reverse
    have e:(y :: ys).reverse ++ x :: r = ys.reverse ++ y :: x :: r:=by simp
    have hx:(ys.reverse ++ y :: x :: r)[ys.length + 1]? = some x:=by
      rw [List.getElem?_append_right (by omega),hl,Nat.add_sub_cancel_left]; rfl
    have hy:(ys.reverse ++ y :: x :: r)[ys.length]? = some y:=by
      rw [List.getElem?_append_right (by omega),hl,Nat.sub_self]; rfl
    rw [e,List.length_cons]
    by_cases h:x.1 < y.1
    · rw [bub_lt hx hy h,List.set_append_right _ _ (by omega),List.set_append_right _ _ (by omega),hl,Nat.add_sub_cancel_left,Nat.sub_self]
      show bub (ys.reverse ++ x :: y :: r) ys.length = _
      rw [bub_ins x (y :: r) ys,insR,if_pos h]
      simp
    · rw [bub_ge hx hy h,insR,if_neg h]
      simp
theorem srtN_spec (l:List (Int × Int)):∀ k,k < l.length → ∃ pr:List (Int × Int),srtN l k = pr.reverse ++ l.drop (k + 1) ∧ pr.length = k + 1 ∧ pr.Pairwise (fun a b=>b.1 ≤ a.1) ∧ pr.Perm (l.take (k + 1))
  | 0,h=>by
    obtain ⟨x,r,rfl⟩:∃ x r,l = x :: r:=by cases l with
      | nil=>cases h
      | cons x r=>exact ⟨x,r,rfl⟩
    exact ⟨[x],rfl,rfl,by simp,by simp⟩
  | k + 1,h=>by
    obtain ⟨pr,h1,h2,h3,h4⟩:=srtN_spec l k (by omega)
    have e:l.drop (k + 1) = l[k + 1] :: l.drop (k + 1 + 1):=List.drop_eq_getElem_cons h
    refine ⟨insR l[k + 1] pr,?_,?_,insR_sorted h3,?_⟩
    · have h9:=bub_ins l[k + 1] (l.drop (k + 1 + 1)) pr
      rw [h2] at h9
      rw [srtN,h1,e,h9]
    · rw [(insR_perm _ _).length_eq,List.length_cons,h2]
    · refine (insR_perm _ _).trans ?_
      rw [List.take_add_one (i:=k + 1),List.getElem?_eq_getElem h]
      exact ((h4.cons _).trans (List.perm_append_singleton _ _).symm)
theorem isort_spec {l:List (Int × Int)} (h:l ≠ []):(isort l).Perm l ∧ (isort l).Pairwise (fun a b=>a.1 ≤ b.1):=by
  have hl:0 < l.length:=List.length_pos_iff.2 h
  obtain ⟨pr,h1,h2,h3,h4⟩:=srtN_spec l (l.length - 1) (by omega)
  rw [show l.length - 1 + 1 = l.length by omega,List.drop_length,List.append_nil] at h1
  rw [show l.length - 1 + 1 = l.length by omega,List.take_length] at h4
  unfold isort
  rw [h1]
  exact ⟨(List.reverse_perm _).trans h4,List.pairwise_reverse.2 h3⟩
theorem okS_of:∀ {q:List (Int × Int)} {last:Int},(∀ s ∈ q,last < s.1 ∧ s.1 ≤ 64 ∧ sc s.2 = true) → q.Pairwise (fun a b=>a.1 < b.1) → okS last q = true
  | [],_,_,_=>rfl
  | s :: q,last,h,hp=>by
    obtain ⟨h1,h2⟩:=List.pairwise_cons.1 hp
    obtain ⟨a1,a2,a3⟩:=h s (.head _)
    rw [okS,decide_eq_true a1,decide_eq_true a2,a3,okS_of (last:=s.1) (fun t ht=>⟨h1 t ht,(h t (.tail _ ht)).2⟩) h2]
    rfl
theorem asc_len:∀ {q:List (Int × Int)} {last:Int},last ≤ 64 → (∀ s ∈ q,last < s.1 ∧ s.1 ≤ 64) → q.Pairwise (fun a b=>a.1 < b.1) → (q.length:Int) ≤ 64 - last
  | [],last,h,_,_=>by simp; omega
  | s :: q,last,_,h,hp=>by
    obtain ⟨h1,h2⟩:=List.pairwise_cons.1 hp
    obtain ⟨a1,a2⟩:=h s (.head _)
    have:=asc_len (q:=q) (last:=s.1) a2 (fun t ht=>⟨h1 t ht,(h t (.tail _ ht)).2⟩) h2
    rw [List.length_cons]; omega
theorem sc_natR {n:Nat} (h:n < 2305843009213688669):sc (n:Int) = true:=scI.2 ⟨by omega,by omega⟩
theorem jn_good {cs:List Nat} {q:List (Int × Int)} {m:Nat} (hm:m ≤ 64) (hc:1 ≤ cs.length) (hcq:cs.length ≤ q.length) (hq:∀ s ∈ q,∃ i,i < m ∧ s = (((i + 1:Nat):Int),((hor cs (i + 1):Nat):Int))) (hnd:(q.map Prod.fst).Nodup) (hh:∀ y,hor cs y < 2305843009213688669) :
    chS (isort q) = 0 ∧ jnV (isort q) = ((hor cs 0:Nat):Int):=by
  have hne:q ≠ []:=by
    rintro rfl
    have h9:cs.length ≤ 0:=hcq
    omega
  obtain ⟨hp,hs⟩:=isort_spec hne
  have hnd2:((isort q).map Prod.fst).Nodup:=(hp.map Prod.fst).nodup_iff.2 hnd
  have hlt:(isort q).Pairwise fun a b=>a.1 < b.1:=by
    have h3:(isort q).Pairwise fun a b=>a.1 ≠ b.1:=List.pairwise_map.1 hnd2
    exact (hs.and h3).imp fun h=>by have:=h.1; have:=h.2; omega
  have hok:okS 0 (isort q) = true:=okS_of (fun s hs=>by
    obtain ⟨i,hi,rfl⟩:=hq s (hp.mem_iff.1 hs)
    exact ⟨by show (0:Int) < ((i + 1:Nat):Int); omega,by show ((i + 1:Nat):Int) ≤ 64; omega,sc_natR (hh _)⟩) hlt
  have hlen:(isort q).length = q.length:=isort_length q
  have hql:=asc_len (q:=isort q) (last:=0) (by decide) (fun s hs=>by
    obtain ⟨i,hi,rfl⟩:=hq s (hp.mem_iff.1 hs)
    exact ⟨by show (0:Int) < ((i + 1:Nat):Int); omega,by show ((i + 1:Nat):Int) ≤ 64; omega⟩) hlt
  have hch:chS (isort q) = 0:=by unfold chS; rw [if_pos ⟨by omega,by omega,hok⟩]
  obtain ⟨e1,hv⟩:=chS_vld hch
  refine ⟨hch,?_⟩
  rw [jnV,if_pos hch]
  congr 1
  refine valQ_hor hv cs (by rw [toN_length,hlen]; exact hcq) (fun s hs=>?_) 0
  unfold toN at hs
  obtain ⟨t,ht,rfl⟩:=List.mem_map.1 hs
  obtain ⟨i,hi,rfl⟩:=hq t (hp.mem_iff.1 ht)
  show ((hor cs (i + 1):Nat):Int).toNat = hor cs (((i + 1:Nat):Int).toNat)
  rw [Int.toNat_natCast,Int.toNat_natCast]
end Rst
end
section
namespace Rst
open Go Eng Gf Sha Sig Wr Cod Cha Go.Proofs.YtojohglifijnnaaGreatDoor
/-- Finish succeeds -/
structure FinOk (p:Pn) (c:Cs) (now ver:Int) (x:Nat):Prop where
  st:stE p c now = 0
  x0:1 ≤ x
  x1:x < 2305843009213688669
  lf:((pp 4 x:Nat):Int) = c.l
  sh:∀ k z,k < p.need.toNat → c.ap[k]? = some z → shE x c z = 0
  ch:chS (isort (shL x c p.need.toNat)) = 0
  r0:(jnV (isort (shL x c p.need.toNat))).toNat ≠ 0
  rk:((pp 4 (jnV (isort (shL x c p.need.toNat))).toNat:Nat):Int) = p.rk
  cr:CrRt c.d c.v c.l ver
noncomputable def certV (c:Cs) (ver:Int) (r:Nat):Array Value:=#[I 3,I c.d,I c.v,I c.l,I ver,I (-1),I (sgR r (cmsg [3,c.d,c.v,c.l,ver,-1]):Nat),I (sgS r (cmsg [3,c.d,c.v,c.l,ver,-1]):Nat)]
/-- what Finish reads -/
structure FinW (w:World) (p:Pn) (c:Cs) (ga aa va:Option Addr) (gc ac vc:Nat):Prop where
  rg:Rd w ga (is p.gs)
  ra:Rd w aa (apc c.ap)
  rv:Rd w va (vtc c.vt)
  gl:p.gs.length ≤ 1000000
  al:c.ap.length ≤ 1000000
  vl:c.vt.length ≤ 1000000
  ac':c.ap.length ≤ ac
  r5:R5 c
  cp:∀ z ∈ c.ap,z.q.length ≤ z.c
  ok:ApOk w c.ap
  g:LC w
theorem FinW.st {W w:World} {p:Pn} {c:Cs} {ga aa va:Option Addr} {gc ac vc:Nat} {ps:SH} (h:FinW W p c ga aa va gc ac vc) (hs:St W [] w ps):FinW w p c ga aa va gc ac vc :=
  ⟨h.rg.st hs,h.ra.st hs,h.rv.st hs,h.gl,h.al,h.vl,h.ac',h.r5,h.cp,h.ok.st hs,h.g.st hs⟩
theorem FinW.ql {w:World} {p:Pn} {c:Cs} {ga aa va:Option Addr} {gc ac vc:Nat} (h:FinW w p c ga aa va gc ac vc):∀ z ∈ c.ap,z.q.length ≤ 100000:=fun z hz=>(h.ok z hz).2
theorem FinW.rd {w:World} {p:Pn} {c:Cs} {ga aa va:Option Addr} {gc ac vc:Nat} (h:FinW w p c ga aa va gc ac vc):ApRd c aa w:=⟨h.g,h.ra,h.ok⟩
theorem jn_lt {q:List (Int × Int)} (h:chS q = 0):(jnV q).toNat < 2305843009213688669 ∧ jnV q = ((jnV q).toNat:Int):=by
  have e:jnV q = ((valQ (toN q) 0:Nat):Int):=by unfold jnV; rw [if_pos h]
  rw [e,Int.toNat_natCast]
  exact ⟨accQ_lt' _ _,rfl⟩
theorem ApOk.nil' (w:World):ApOk w []:=fun _ h=>by cases h
theorem ApOk.snoc {w:World} {l:List Ap} {x:Ap} (h:ApOk w l) (hr:Rd w x.a (bs x.q)) (hl:x.q.length ≤ 100000):ApOk w (l ++ [x]):=fun y hy=>by
  rcases List.mem_append.1 hy with hy | hy
  · exact h y hy
  · rw [List.mem_singleton] at hy; subst hy; exact ⟨hr,hl⟩
theorem cap_snoc {l:List Ap} {x:Ap} (h:∀ z ∈ l,z.q.length ≤ z.c) (hx:x.q.length ≤ x.c):∀ z ∈ l ++ [x],z.q.length ≤ z.c:=fun y hy=>by
  rcases List.mem_append.1 hy with hy | hy
  · exact h y hy
  · rw [List.mem_singleton] at hy; subst hy; exact hx
theorem good_fin {p:Pn} {c:Cs} {now ver:Int} {x r:Nat} {cs:List Nat} (hst:stE p c now = 0) (hx0:1 ≤ x) (hx:x < 2305843009213688669) (hlf:((pp 4 x:Nat):Int) = c.l)
    (hg:∀ z ∈ c.ap,∃ i,i < p.gs.length ∧ p.gs[i]? = some z.g ∧ GdAp x c (i + 1) (hor cs (i + 1)) z) (hcs:cs.length = p.need.toNat) (hr:hor cs 0 = r) (hr0:1 ≤ r) (hrk:((pp 4 r:Nat):Int) = p.rk) (hver:1 ≤ ver ∧ ver ≤ 1048576) :
    FinOk p c now ver x ∧ (jnV (isort (shL x c p.need.toNat))).toNat = r:=by
  obtain ⟨hp,hb,_,_,hn⟩:=stE_inv hst
  have hgl:=hp.gl
  have hnd:=hp.need
  have hid:=hp.id
  have hfd:=hb.fd
  have hsv:∀ z ∈ c.ap,∃ i,i < p.gs.length ∧ p.gs[i]? = some z.g ∧ shE x c z = 0 ∧ shV x c z = (((i + 1:Nat):Int),((hor cs (i + 1):Nat):Int)):=fun z hz=>by
    obtain ⟨i,h1,h2,h3⟩:=hg z hz
    obtain ⟨h4,h5⟩:=gd_sh h3 (by omega) (Nat.lt_trans (hor_lt _ _) (by decide))
    exact ⟨i,h1,h2,h4,h5⟩
  have hlen:(shL x c p.need.toNat).length = p.need.toNat:=shL_length (by omega)
  have hq:∀ s ∈ shL x c p.need.toNat,∃ i,i < p.gs.length ∧ s = (((i + 1:Nat):Int),((hor cs (i + 1):Nat):Int)):=fun s hs=>by
    obtain ⟨z,hz,rfl⟩:=List.mem_map.1 hs
    obtain ⟨i,h1,_,_,h4⟩:=hsv z (List.mem_of_mem_take hz)
    exact ⟨i,h1,h4⟩
  have hdn:((shL x c p.need.toNat).map Prod.fst).Nodup:=by
    unfold shL
    rw [List.map_map]
    have h1:(c.ap.take p.need.toNat).Pairwise fun a b=>a.g ≠ b.g:=(List.pairwise_map.1 hb.fa).sublist (List.take_sublist _ _)
    refine List.pairwise_map.2 (h1.imp_of_mem fun {a b} ha hb' hab=>?_)
    obtain ⟨i,_,h3,_,h5⟩:=hsv a (List.mem_of_mem_take ha)
    obtain ⟨j,_,h3',_,h5'⟩:=hsv b (List.mem_of_mem_take hb')
    show (shV x c a).1 ≠ (shV x c b).1
    rw [h5,h5']
    intro e
    have e2:i = j:=by have:((i + 1:Nat):Int) = ((j + 1:Nat):Int):=e; omega
    subst e2
    exact hab (Option.some.inj (h3.symm.trans h3'))
  obtain ⟨h1,h2⟩:=jn_good (m:=p.gs.length) (by omega) (by omega) (by rw [hlen,hcs]; exact Nat.le_refl _) hq hdn (hor_lt cs)
  have h3:(jnV (isort (shL x c p.need.toNat))).toNat = r:=by rw [h2,Int.toNat_natCast,hr]
  refine ⟨⟨hst,hx0,hx,hlf,fun k z _ hz=>?_,h1,by omega,by rw [h3]; exact hrk,⟨by omega,hver,hb.fv,hb.fl⟩⟩,h3⟩
  obtain ⟨_,_,_,h4,_⟩:=hsv z (List.mem_of_getElem? hz)
  exact h4
end Rst
namespace Go.Proofs.YtojohglifijnnaaGreatDoor
open Go Eng Gf Sha Sig Wr Cod Cha Rst
set_option maxRecDepth 100000
set_option linter.all false
variable (w:World) (p:Pn) (c:Cs) (now ver:Int) (ga aa va:Option Addr) (gc ac vc:Nat) (h:FinW w p c ga aa va gc ac vc)
include h
theorem Finish_yes (x:Nat) (hf:FinOk p c now ver x):Pure Tryz.prog 29 [.agg #[I p.id,I p.rk,.slice ga p.gs.length gc,I p.need,I p.cool],.agg #[I c.p,I c.d,I c.v,I c.l,I c.st,.slice aa c.ap.length ac,.slice va c.vt.length vc],I now,I ver,I x] w (.tuple #[.agg (certV c ver (jnV (isort (shL x c p.need.toNat))).toNat),I 0]):=by
  have hp:=(stE_inv hf.st).1
  have hnd:=hp.need
  have hgl:=hp.gl
  obtain ⟨hr1,hr2⟩:=jn_lt hf.ch
  exact Finish_y w p c now ver ga aa va gc ac vc h.rg h.ra h.rv h.gl h.al h.vl hf.st x hf.x0 hf.x1 hf.lf h.ac' h.r5 h.cp h.ql h.rd p.need.toNat (by omega) (by omega) hf.sh _ hr1 hf.ch hr2 hf.r0 hf.rk hf.cr
end Go.Proofs.YtojohglifijnnaaGreatDoor
end
section
namespace Rst
open Go Eng Gf Sha Sig Wr Cod Cha Go.Proofs.YtojohglifijnnaaGreatDoor
def apd (c:Cs) (z:Ap):Cs:=⟨c.p,c.d,c.v,c.l,c.st,c.ap ++ [z],c.vt⟩
def vtd (c:Cs) (z:Vt):Cs:=⟨c.p,c.d,c.v,c.l,c.st,c.ap,c.vt ++ [z]⟩
def zC:Cs:=⟨0,0,0,0,0,[],[]⟩
theorem blg_apd {p:Pn} {c:Cs} {z:Ap} (h:Blg p c) (h1:z.g ∈ p.gs) (h2:¬ z.g ∈ c.ap.map Ap.g):Blg p (apd c z) where
  fp:=h.fp
  fd:=h.fd
  fv:=h.fv
  fl:=h.fl
  fs:=h.fs
  fa:=by
    show ((c.ap ++ [z]).map Ap.g).Nodup
    rw [List.map_append,List.nodup_append]
    exact ⟨h.fa,by simp,fun a ha b hb=>by rw [List.map_singleton,List.mem_singleton] at hb; subst hb; exact fun e=>h2 (e ▸ ha)⟩
  ft:=h.ft
  fg:=fun a ha=>by
    rcases List.mem_append.1 ha with ha | ha
    · exact h.fg a ha
    · rw [List.mem_singleton] at ha; subst ha; exact h1
theorem blg_vtd {p:Pn} {c:Cs} {z:Vt} (h:Blg p c) (h2:¬ z.d ∈ c.vt.map Vt.d):Blg p (vtd c z) where
  fp:=h.fp
  fd:=h.fd
  fv:=h.fv
  fl:=h.fl
  fs:=h.fs
  fa:=h.fa
  ft:=by
    show ((c.vt ++ [z]).map Vt.d).Nodup
    rw [List.map_append,List.nodup_append]
    exact ⟨h.ft,by simp,fun a ha b hb=>by rw [List.map_singleton,List.mem_singleton] at hb; subst hb; exact fun e=>h2 (e ▸ ha)⟩
  fg:=h.fg
theorem gIx_at {l:List Int} (hn:l.Nodup) {i:Nat} {g:Int} (h:l[i]? = some g):gIx g l = (i:Int):=by
  obtain ⟨hi,rfl⟩:=List.getElem?_eq_some_iff.1 h
  refine fidx_hit (d:=0) hi (fun j hj=>decide_eq_false ?_) (decide_eq_true ?_)
  · rw [List.getD_eq_getElem?_getD,List.getElem?_eq_getElem (by omega)]
    exact List.pairwise_iff_getElem.1 hn j i (by omega) hi hj
  · rw [List.getD_eq_getElem?_getD,List.getElem?_eq_getElem hi]; rfl
theorem chk_pub (x:Nat):chk ((pp 4 x:Nat):Int) = 0:=chk_0.2 (El.four.pow x).el
theorem chk_four:chk 4 = 0:=chk_0.2 El.four.el
theorem chk_r64 {v:Int} (h:chk v = 0):R64 v:=by
  obtain ⟨x,rfl,hx⟩:=Wr.el_El (chk_0.1 h)
  have:=Gf.El.l63 hx
  unfold R64; omega
theorem blg_r5 {p:Pn} {c:Cs} (hp:Prs p) (h:Blg p c):R5 c:=by
  have h1:=hp.id
  have h2:=h.fp
  have h3:=h.fd
  have h4:=h.fs
  exact ⟨by unfold R64; omega,by unfold R64; omega,chk_r64 h.fv,chk_r64 h.fl,by unfold R64; omega⟩
theorem apRt_of {p:Pn} {c:Cs} {cs:List Nat} {i:Nat} {g:Int} (hp:Prs p) (hb:Blg p c) (hi:p.gs[i]? = some g) (hn:¬ g ∈ c.ap.map Ap.g):ApRt p c g ((i + 1:Nat):Int) ((hor cs (i + 1):Nat):Int):=by
  have e:=gIx_at hp.nd hi
  exact ⟨hb,by omega,hn,by omega,by have:=hor_lt cs (i + 1); omega⟩
theorem gd_nap {x xs A Y:Nat} {c c':Cs} {g:Int} {k:List UInt8} {ba:Option Addr} {bc:Nat} (hm:msg c' 0 g = msg c 0 g) (hl:c'.l = (pp 4 x:Nat)):GdAp x c A Y (nAp c' g k A Y xs ba bc) :=
  ⟨k,rfl,by show wB c'.l.toNat k (msg c' 0 g) (bdy A Y) = _; rw [hl,Int.toNat_natCast,hm]; rfl⟩
theorem spl_at {cs:List Nat} {m i:Nat} (h:i < m):(sN (spl cs m))[i]? = some (((i + 1:Nat):Int),((hor cs (i + 1):Nat):Int)):=by
  unfold sN spl
  rw [List.getElem?_map,List.getElem?_map,List.getElem?_range h]; rfl
theorem toN_sN (l:List (Nat × Nat)):toN (sN l) = l:=by
  unfold toN sN
  rw [List.map_map]
  conv=>rhs; rw [← List.map_id l]
  exact List.map_congr_left fun s _=>rfl
theorem join_spl {cs:List Nat} {m:Nat} (h1:1 ≤ m) (h2:m ≤ 64) (h3:cs.length ≤ m):chS (sN (spl cs m)) = 0 ∧ jnV (sN (spl cs m)) = ((hor cs 0:Nat):Int):=by
  have hv:=spl_vld cs h1 h2
  have hl:(sN (spl cs m)).length = m:=by rw [sN_length,spl_length]
  have hch:chS (sN (spl cs m)) = 0:=by
    unfold chS
    refine if_pos ⟨by omega,by omega,okS_of (fun s hs=>?_) ?_⟩
    · obtain ⟨t,ht,rfl⟩:=List.mem_map.1 hs
      obtain ⟨a1,a2,a3⟩:=hv.at' t ht
      exact ⟨by show (0:Int) < (t.1:Int); omega,by show (t.1:Int) ≤ 64; omega,sc_natR a3⟩
    · exact List.pairwise_map.2 (hv.up.imp fun h=>by show ((_:Nat):Int) < _; omega)
  refine ⟨hch,?_⟩
  rw [jnV,if_pos hch,toN_sN]
  congr 1
  refine valQ_hor hv cs (by rw [spl_length]; exact h3) (fun s hs=>?_) 0
  unfold spl at hs
  obtain ⟨i,_,rfl⟩:=List.mem_map.1 hs
  rfl
theorem dir_one {z:Ls} (h:LsRt z):DirOk [z]:=fun k x hx=>by
  have hk:k = 0:=by have:=(List.getElem?_eq_some_iff.1 hx).1; simp at this; omega
  subst hk
  obtain rfl:z = x:=Option.some.inj hx
  refine ⟨h,?_⟩
  have:=h.d
  rw [lsL,if_pos rfl]; omega
def k9:List UInt8:=9 :: List.replicate 31 0
def k1:List UInt8:=1 :: List.replicate 31 0
def k2:List UInt8:=2 :: List.replicate 31 0
theorem k9_l:k9.length = 32:=rfl
theorem k1_l:k1.length = 32:=rfl
theorem k2_l:k2.length = 32:=rfl
noncomputable def sR:Nat:=dscal k9 lbRec
noncomputable def sP:Pn:=stP 3 [5,6] 2 4 k9
noncomputable def sC:Cs:=opC sP 25 4 (pp 4 77:Nat) 10
noncomputable def sco:List Nat:=cof (expand k9 lbShs []) (dscal k9 lbRec) 1
theorem sR_b:1 ≤ sR ∧ sR < 2305843009213688669:=scal_lt _ _
theorem hor_cof (k:List UInt8) {x:Nat} (n:Nat) (h:x < 2305843009213688669):hor (cof k x n) 0 = x:=hor_zero x _ h
theorem sco_0:hor sco 0 = sR:=hor_cof _ _ sR_b.2
theorem sP_ok:Prs sP where
  id:=show (0:Int) ≤ 3 ∧ (3:Int) ≤ 63 by decide
  rk:=chk_pub _
  gl:=show (1:Int) ≤ 2 ∧ (2:Int) ≤ 16 by decide
  need:=show (1:Int) ≤ 2 ∧ (2:Int) ≤ 2 by decide
  cool:=show (1:Int) ≤ 4 ∧ (4:Int) ≤ 1048576 by decide
  nd:=show [(5:Int),6].Nodup by decide
  gs:=show ∀ g ∈ [(5:Int),6],g ≠ 3 ∧ 0 ≤ g ∧ g ≤ 63 by decide
theorem sP_no:¬ Prs (stP 3 [3] 1 1 k9):=fun h=>(h.gs 3 (.head _)).1 rfl
theorem pz_no:¬ Prs ⟨0,0,[],0,0⟩:=fun h=>absurd h.gl.1 (by decide)
theorem sC_ok:Blg sP sC where
  fp:=rfl
  fd:=show (3:Int) * 8 ≤ 25 ∧ (25:Int) ≤ 3 * 8 + 8 - 1 by decide
  fv:=chk_four
  fl:=chk_pub _
  fs:=show (1:Int) ≤ 10 ∧ (10:Int) ≤ 65536 by decide
  fa:=List.nodup_nil
  ft:=List.nodup_nil
  fg:=fun _ h=>by cases h
section
variable (b1 b2:Option Addr) (c1 c2:Nat)
noncomputable def sA1:Ap:=nAp sC 5 k1 (0 + 1) (hor sco (0 + 1)) 55 b1 c1
noncomputable def sC1:Cs:=apd sC (sA1 b1 c1)
noncomputable def sA2:Ap:=nAp (sC1 b1 c1) 6 k2 (1 + 1) (hor sco (1 + 1)) 55 b2 c2
noncomputable def sC2:Cs:=apd (sC1 b1 c1) (sA2 b1 b2 c1 c2)
theorem sA1_rt:ApRt sP sC 5 ((0 + 1:Nat):Int) ((hor sco (0 + 1):Nat):Int):=apRt_of sP_ok sC_ok rfl (fun h=>by cases h)
theorem sC1_ok:Blg sP (sC1 b1 c1):=blg_apd sC_ok (.head _) (fun h=>by cases h)
theorem sA2_n:¬ (6:Int) ∈ (sC1 b1 c1).ap.map Ap.g:=show ¬ (6:Int) ∈ [5] by decide
theorem sA2_rt:ApRt sP (sC1 b1 c1) 6 ((1 + 1:Nat):Int) ((hor sco (1 + 1):Nat):Int):=apRt_of sP_ok (sC1_ok b1 c1) rfl (sA2_n b1 c1)
theorem sC2_ok:Blg sP (sC2 b1 b2 c1 c2):=blg_apd (sC1_ok b1 c1) (.tail _ (.head _)) (sA2_n b1 c1)
theorem sC2_st {now:Int} (h:14 ≤ now):stE sP (sC2 b1 b2 c1 c2) now = 0:=stE_0 sP_ok (sC2_ok b1 b2 c1 c2) (by show ¬ (false = true); simp) (by show ¬ now < (10:Int) + 4; omega) (by show ¬ (2:Int) < 2; decide)
theorem sC2_early:stE sP (sC2 b1 b2 c1 c2) 13 = 391:=stE_391 sP_ok (sC2_ok b1 b2 c1 c2) (by show ¬ (false = true); simp) (by show (13:Int) < (10:Int) + 4; decide)
theorem sC_early:stE sP sC 10 = 391:=stE_391 sP_ok sC_ok (by show ¬ (false = true); simp) (by show (10:Int) < (10:Int) + 4; decide)
theorem zC_st (now:Int):stE sP zC now = 390:=stE_390 sP_ok (fun h=>absurd h.fp (by show ¬ (0:Int) = 3; decide))
theorem sC2_fin:FinOk sP (sC2 b1 b2 c1 c2) 14 1 77 ∧ (jnV (isort (shL 77 (sC2 b1 b2 c1 c2) sP.need.toNat))).toNat = sR:=by
  refine good_fin (cs:=sco) (sC2_st b1 b2 c1 c2 (by decide)) (by decide) (by decide) rfl (fun z hz=>?_) rfl (hor_cof _ _ sR_b.2) sR_b.1 rfl (by decide)
  rcases List.mem_append.1 hz with hz | hz
  · rcases List.mem_append.1 hz with hz | hz
    · cases hz
    · rw [List.mem_singleton] at hz; subst hz
      exact ⟨0,by show 0 < 2; decide,rfl,gd_nap rfl rfl⟩
  · rw [List.mem_singleton] at hz; subst hz
    exact ⟨1,by show 1 < 2; decide,rfl,gd_nap rfl rfl⟩
theorem sC2_ob:ObR2 (sC2 b1 b2 c1 c2) 26 13:=⟨by show (26:Int) / 8 = 3; decide,by show (26:Int) ≠ 25; decide,(fun h=>by cases h),by show (10:Int) ≤ 13 ∧ (13:Int) ≤ 65536; decide⟩
theorem sC2_no:¬ ObR2 (sC2 b1 b2 c1 c2) 40 13:=fun h=>absurd h.q (by show ¬ (40:Int) / 8 = 3; decide)
noncomputable def sC3:Cs:=vtd (sC2 b1 b2 c1 c2) (nVt (sC2 b1 b2 c1 c2) 26 13 55)
theorem sC3_st (now:Int):stE sP (sC3 b1 b2 c1 c2) now = 392:=stE_392 sP_ok (blg_vtd (sC2_ok b1 b2 c1 c2) (fun h=>by cases h)) (by
  show (decide ((10:Int) ≤ 13 ∧ (13:Int) ≤ 10 + 4 - 1) || false) = true
  decide)
end
theorem ls26 (d:Int) (h:0 ≤ d ∧ d < 512):DirOk [⟨d,(pp 4 55:Nat),4,1,false⟩]:=dir_one ⟨h,chk_pub _,chk_four,by show (1:Int) ≤ 1 ∧ (1:Int) ≤ 1048576; decide⟩
attribute [irreducible] sR
end Rst
namespace Go.Proofs.YtojohglifijnnaaGreatDoor
open Go Eng Gf Rst
theorem l_secret_ok (w:World) (a:Option Addr) (c:Nat) (l:List (Int × Int)) (hr:Rd w a (shc l)) (hl:l.length < 1000000000000000000):Pure Tryz.prog 28 [.slice a l.length c] w (I (jnV l)):=by
  refine enter Tryz.func28 Tryz.ntmps28 ?_
  refine c_seq<|c_reg<|s_y y_as<|s_nil<|q_then<|c_seq<|c_reg<|s_y y_mv<|s_pure (fun w' hw=>r8_Join_ok w' a c l (hr.st hw) hl)<|s_y y_mv<|s_y y_ext<|s_y y_ext<|s_y y_as<|s_y y_as<|s_nil<|q_then<|c_seq<|c_reg<|s_y y_mv<|s_y y_as<|s_nil<|q_then<|c_ret<|?_
  exact ret1 Tryz.results28 rv_t fun w' hw=>⟨rfl,hw⟩
end Go.Proofs.YtojohglifijnnaaGreatDoor
end
