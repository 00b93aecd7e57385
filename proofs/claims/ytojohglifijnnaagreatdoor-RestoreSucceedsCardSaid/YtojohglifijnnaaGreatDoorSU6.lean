/- Joined texts: Law39 LawB39 LawC39 LawG39 OpenX Door39 LawD39 LawE39 LawM39 LawN39 Dr39N. -/
import Derived.WalkKit
import Derived.TacticsInMore
import Derived.OrdersIn
import Derived.RangeFuncCalls
import Derived.Deep.LoopGhost
import Derived.Deep.Quiet
import Derived.KernelRfl
import Derived.Laws.BytesString
import Derived.Laws.StructEq
import Derived.MapKept
import Derived.Laws.IdiomStrings
import Derived.Recover
import Derived.RangeFuncLeaves
import Derived.ChangeKeysEq
import Derived.Maps.RangeRun
import Derived.Laws.Build
import Derived.ProofKit
import Derived.LaidMore
import Derived.LaidHandle
import Derived.OpenShut
import Derived.FnData
import Derived.SizedLaws
import Derived.ChangeMaps5
import Derived.Deep.Slices
import Derived.JoinedOf
import Derived.SevenTiedAt
import Derived.Test.YtojohglifijnnaaGreatDoorChecked
import Derived.Test.YtojohglifijnnaaGreatDoorRows
import Derived.Test.YtojohglifijnnaaGreatDoorCards
import Derived.Test.YtojohglifijnnaaGreatDoorTie
import Derived.Test.YtojohglifijnnaaGreatDoorSU5
set_option linter.all false
section
namespace Eng
open Go
theorem Pure.gives0 {P:Program} {k:FuncId} {args:List Value} {w:World} {v:Value} (h:Pure P k args w v):Gives P k args w [] (fun _:Unit=>v) (fun _=>[]) (fun _=>True):=h.mono fun _ _ ⟨h1,h2⟩=>⟨(),trivial,h1,h2⟩
end Eng
namespace Go.Proofs.YtojohglifijnnaaGreatDoor
open Go Eng Gf Sha Sig Wr Cod Cha Rst
set_option maxRecDepth 100000
set_option linter.all false
theorem law_sane_ok (w:World) (hg:LC w):Pure Tryz.prog 9 [] w (.bool true):=by
  refine enter Tryz.func9 Tryz.ntmps9 ?_
  refine c_seq<|c_reg<|s_y y_as<|s_nil<|q_then<|c_seq<|c_reg<|s_y (y_blda (cs:=bs k9) (hf:=by kernel_rfl))<|s_alloc fun b1=>s_sta (b:=b1) (vs:=(bs k9).toArray) (cs:=(bs (List.replicate 32 0)).toArray) (h1:=fun v hv=>bs_one (by simpa using hv)) (hl:=((hz32 k9_l)).trans ((hz32 List.length_replicate)).symm) (hs1:=(hz32 k9_l)) ?_
  refine s_nil<|q_then<|c_seq<|c_reg<|s_bslr (cs:=[I 5,I 6]) fun b32=>s_y (y_lda (b:=b1) (cs:=(bs k9).toArray) (hl:=(hz32 k9_l)))<|s_gives (fun w' hw=>Setup_yes w' 3 4 1 [5,6] k9 (some ⟨b32,0,none⟩) 2 (hg.st hw).1 k9_l (rdR (.head _) w' hw) (show 2 ≤ 1000000 by decide) sP_ok) fun (x34:(Option Addr × Nat) × (Option Addr × Nat)) _=>?_
  refine s_row (fun hkg34 _=>?_) (hm:=.tail _ (.head _))
  refine s_y y_mv<|s_y y_ext<|s_y y_ext<|s_y y_ext<|s_alloc fun b2=>s_sta (b:=b2) (vs:=#[I 3,I (pp 4 (dscal k9 lbRec):Nat),.slice x34.1.1 2 x34.1.2,I 2,I 4]) (cs:=#[I 0,I 0,.slice none 0 0,I 0,I 0]) (h1:=one_allA rfl) (hl:=rfl) (hs1:=rfl) ?_
  refine s_y y_as<|s_y y_as<|s_nil<|q_then<|c_seq<|c_reg<|s_bslr (cs:=[I 3]) fun b39=>s_y (y_lda (b:=b1) (cs:=(bs k9).toArray) (hl:=(hz32 k9_l)))<|s_gives (fun w' hw=>Pure.gives0 (Setup_no w' 3 1 1 [3] k9 (some ⟨b39,0,none⟩) 1 (hg.st hw).1 k9_l (rdR (.head _) w' hw) (show 1 ≤ 1000000 by decide) sP_no)) fun (x41:Unit) _=>s_y y_mv<|s_y y_ext<|s_y y_ext<|s_y y_ext<|s_alloc fun b5=>s_sta (b:=b5) (vs:=#[I 0,I 0,.slice none 0 0,I 0,I 0]) (cs:=#[I 0,I 0,.slice none 0 0,I 0,I 0]) (h1:=one_allA rfl) (hl:=rfl) (hs1:=rfl) ?_
  refine s_y y_as<|s_y y_as<|s_nil<|q_then<|c_seq<|c_reg<|s_y (y_bper (cs:=[I 0,I 0,.slice none 0 0,I 0,I 0]))<|s_pure (fun w' hw=>Open_n1 w' (⟨0,0,[],0,0⟩:Pn) none 0 (Rd.nil _ _) (by decide) 24 4 16 1 pz_no)<|s_y y_mv<|s_y y_ext<|s_y y_ext<|s_alloc fun b8=>s_sta (b:=b8) (vs:=#[I 0,I 0,I 0,I 0,I 0,.slice none 0 0,.slice none 0 0]) (cs:=#[I 0,I 0,I 0,I 0,I 0,.slice none 0 0,.slice none 0 0]) (h1:=one_allA rfl) (hl:=rfl) (hs1:=rfl) ?_
  refine s_y y_as<|s_nil<|q_then<|c_seq<|c_reg<|s_pure (fun w' hw=>sPublic_yes w' 77 (by decide) (by decide))<|s_y y_mv<|s_y y_ext<|s_y y_ext<|s_y y_as<|s_y y_as<|s_nil<|q_then<|c_seq<|c_reg<|s_pure (fun w' hw=>sPublic_yes w' 55 (by decide) (by decide))<|s_y y_mv<|s_y y_ext<|s_y y_ext<|s_y y_as<|s_y y_as<|s_nil<|q_then<|c_seq<|c_seq<|c_reg<|s_y y_mv<|s_nf (y_neq (p:=0) (q:=0)) (by omega)<|s_y y_mv<|s_y y_mv<|s_nf (y_neq (p:=371) (q:=371)) (by omega)<|s_y y_pk<|s_y y_mv<|s_y y_mv<|s_nf (y_neq (p:=371) (q:=371)) (by omega)<|s_y y_pk<|s_y y_mv<|s_y y_mv<|s_nf (y_neq (p:=0) (q:=0)) (by omega)<|s_y y_pk<|s_y y_mv<|s_y y_mv<|s_nf (y_neq (p:=0) (q:=0)) (by omega)<|s_y y_pk<|s_y y_mv<|s_y y_mv<|s_y y_len<|s_nf (y_neq (p:=2) (q:=2)) (by omega)<|s_y y_pk<|s_nil<|q_then<|c_f<|c_skip<|q_then<|c_seq<|c_reg<|s_y (y_lda (b:=b2) (cs:=#[I 3,I (pp 4 (dscal k9 lbRec):Nat),.slice x34.1.1 2 x34.1.2,I 2,I 4]) (hl:=rfl))<|s_y y_mv<|s_pure (fun w' hw=>Open_y w' sP x34.1.1 x34.1.2 (rdR (.tail _ (.tail _ (.tail _ (.tail _ (.tail _ (.head _)))))) w' hw) (Nat.le_trans (show 2 ≤ 1000000 by decide) (by decide)) 25 4 (pp 4 77:Nat) 10 sP_ok sC_ok)<|s_y y_mv<|s_y y_ext<|s_y y_ext<|s_alloc fun b14=>s_sta (b:=b14) (vs:=#[I 3,I 25,I 4,I (pp 4 77:Nat),I 10,.slice none 0 0,.slice none 0 0]) (cs:=#[I 0,I 0,I 0,I 0,I 0,.slice none 0 0,.slice none 0 0]) (h1:=one_allA rfl) (hl:=rfl) (hs1:=rfl) ?_
  refine s_y y_as<|s_nil<|q_then<|c_seq<|c_regL [.blk b14 (.cells #[I 3,I 25,I 4,I (pp 4 77:Nat),I 10,.slice none 0 0,.slice none 0 0] 30 (0,0)),.blk b8 (.cells #[I 0,I 0,I 0,I 0,I 0,.slice none 0 0,.slice none 0 0] 30 (0,0)),.blk b5 (.cells #[I 0,I 0,.slice none 0 0,I 0,I 0] 26 (0,0)),.row (some ⟨b39,0,none⟩) 1 3 1 1 [I 3],.blk b2 (.cells #[I 3,I (pp 4 (dscal k9 lbRec):Nat),.slice x34.1.1 2 x34.1.2,I 2,I 4] 26 (0,0)),.row x34.2.1 x34.2.2 46 2 2 (shc (sN (spl sco 2))),.row x34.1.1 x34.1.2 3 1 2 (is [5,6]),.row (some ⟨b32,0,none⟩) 2 3 1 2 [I 5,I 6],.blk b1 (.cells (bs k9).toArray 24 (0,0))]<|r_y 0 rfl (y_lda (b:=b2) (cs:=#[I 3,I (pp 4 (dscal k9 lbRec):Nat),.slice x34.1.1 2 x34.1.2,I 2,I 4]) (hl:=rfl))<|r_y 1 rfl (y_lda (b:=b14) (cs:=#[I 3,I 25,I 4,I (pp 4 77:Nat),I 10,.slice none 0 0,.slice none 0 0]) (hl:=rfl))<|r_y 2 rfl y_mv<|r_y 3 rfl (y_ixs (xs:=shc (sN (spl sco 2))) (i:=((0:Nat):Int)) (hr:=(rdR (.tail _ (.tail _ (.tail _ (.tail _ (.tail _ (.head _)))))))) (hl:=by rw [shc_length,sN_length,spl_length]; decide) (h1:=by decide))<|r_y 4 rfl (y_ldra (i:=(0) * 2) (cs:=[I (0 + 1:Nat),I (hor sco (0 + 1):Nat)]) (rdR (.tail _ (.tail _ (.tail _ (.tail _ (.tail _ (.head _))))))) rfl (fun j v h=>shc_atA (spl_at (i:=0) (by decide)) h))<|r_y 5 rfl y_mv<|r_y 6 rfl (y_blda (cs:=bs k1) (hf:=by kernel_rfl))<|r_w2 7 11 rfl rfl ?_ ?_ (hsub:=by repeat (first | exact List.nil_sublist _ | exact List.Sublist.refl _ | apply List.Sublist.cons_cons | apply List.Sublist.cons))
  · refine s_gives (fun w' hw=>Approve_y w' sP sC x34.1.1 none none x34.1.2 0 0 5 (pp 4 55:Nat) k1 (0 + 1) (hor sco (0 + 1)) 55 (hg.st hw) k1_l (rdR (.tail _ (.tail _ (.tail _ (.tail _ (.tail _ (.tail _ (.head _))))))) w' hw) (show 2 ≤ 1000000 by decide) (Rd.nil _ _) (Nat.le_refl _) (Rd.nil _ _) (show 0 ≤ 1000000 by decide) (show 0 ≤ 1000000 by decide) (blg_r5 sP_ok sC_ok) (by unfold R64; omega) sP_ok sA1_rt (by decide) (by decide) rfl) fun (x95:AX) _=>?_
    refine s_row (fun hka95 _=>s_row (fun hkb95 _=>?_) (hm:=.tail _ (.head _))) (hm:=.head _)
    refine r_K<|r_y 8 rfl y_mv<|r_y 9 rfl y_ext<|r_y 10 rfl y_ext<|r_W 11 rfl<|s_alloc fun b16=>r_K<|r_W 12 rfl<|s_sta (b:=b16) (vs:=#[I 3,I 25,I 4,I (pp 4 77:Nat),I 10,.slice x95.aa 1 x95.ac,.slice none 0 0]) (cs:=#[I 0,I 0,I 0,I 0,I 0,.slice none 0 0,.slice none 0 0]) (h1:=one_allA rfl) (hl:=rfl) (hs1:=rfl) ?_
    refine r_K<|r_y 13 rfl y_as<|r_E<|q_then<|c_seq<|c_regL [.blk b16 (.cells #[I 3,I 25,I 4,I (pp 4 77:Nat),I 10,.slice x95.aa 1 x95.ac,.slice none 0 0] 30 (0,0)),.row x95.aa x95.ac 74 5 (sC.ap.length + 1) (apc (sC.ap ++ [nAp sC 5 k1 (0 + 1) (hor sco (0 + 1)) 55 x95.ba x95.bc])),.row x95.ba x95.bc 5 1 ((wtx sC 5 k1 (0 + 1) (hor sco (0 + 1))).length) (bs (wtx sC 5 k1 (0 + 1) (hor sco (0 + 1)))),.blk b14 (.cells #[I 3,I 25,I 4,I (pp 4 77:Nat),I 10,.slice none 0 0,.slice none 0 0] 30 (0,0)),.blk b8 (.cells #[I 0,I 0,I 0,I 0,I 0,.slice none 0 0,.slice none 0 0] 30 (0,0)),.blk b5 (.cells #[I 0,I 0,.slice none 0 0,I 0,I 0] 26 (0,0)),.row (some ⟨b39,0,none⟩) 1 3 1 1 [I 3],.blk b2 (.cells #[I 3,I (pp 4 (dscal k9 lbRec):Nat),.slice x34.1.1 2 x34.1.2,I 2,I 4] 26 (0,0)),.row x34.2.1 x34.2.2 46 2 2 (shc (sN (spl sco 2))),.row x34.1.1 x34.1.2 3 1 2 (is [5,6]),.row (some ⟨b32,0,none⟩) 2 3 1 2 [I 5,I 6],.blk b1 (.cells (bs k9).toArray 24 (0,0))]<|r_y 0 rfl (y_lda (b:=b2) (cs:=#[I 3,I (pp 4 (dscal k9 lbRec):Nat),.slice x34.1.1 2 x34.1.2,I 2,I 4]) (hl:=rfl))<|r_y 1 rfl (y_lda (b:=b16) (cs:=#[I 3,I 25,I 4,I (pp 4 77:Nat),I 10,.slice x95.aa 1 x95.ac,.slice none 0 0]) (hl:=rfl))<|r_y 2 rfl y_mv<|r_y 3 rfl (y_ixs (xs:=shc (sN (spl sco 2))) (i:=((1:Nat):Int)) (hr:=(rdR (.tail _ (.tail _ (.tail _ (.tail _ (.tail _ (.tail _ (.tail _ (.tail _ (.head _))))))))))) (hl:=by rw [shc_length,sN_length,spl_length]; decide) (h1:=by decide))<|r_y 4 rfl (y_ldra (i:=(1) * 2) (cs:=[I (1 + 1:Nat),I (hor sco (1 + 1):Nat)]) (rdR (.tail _ (.tail _ (.tail _ (.tail _ (.tail _ (.tail _ (.tail _ (.tail _ (.head _)))))))))) rfl (fun j v h=>shc_atA (spl_at (i:=1) (by decide)) h))<|r_y 5 rfl y_mv<|r_y 6 rfl (y_blda (cs:=bs k2) (hf:=by kernel_rfl))<|r_w2 7 11 rfl rfl ?_ ?_ (hsub:=by repeat (first | exact List.nil_sublist _ | exact List.Sublist.refl _ | apply List.Sublist.cons_cons | apply List.Sublist.cons))
    · refine s_gives (fun w' hw=>Approve_y w' sP (sC1 x95.ba x95.bc) x34.1.1 x95.aa none x34.1.2 x95.ac 0 6 (pp 4 55:Nat) k2 (1 + 1) (hor sco (1 + 1)) 55 (hg.st hw) k2_l (rdR (.tail _ (.tail _ (.tail _ (.tail _ (.tail _ (.tail _ (.tail _ (.tail _ (.tail _ (.head _)))))))))) w' hw) (show 2 ≤ 1000000 by decide) (rdR (.tail _ (.head _)) w' hw) hka95 (Rd.nil _ _) (show 1 ≤ 1000000 by decide) (show 0 ≤ 1000000 by decide) (blg_r5 sP_ok (sC1_ok x95.ba x95.bc)) (by unfold R64; omega) sP_ok (sA2_rt x95.ba x95.bc) (by decide) (by decide) rfl) fun (x106:AX) _=>?_
      refine s_row (fun hka106 _=>s_row (fun hkb106 _=>?_) (hm:=.tail _ (.head _))) (hm:=.head _)
      refine r_K<|r_y 8 rfl y_mv<|r_y 9 rfl y_ext<|r_y 10 rfl y_ext<|r_W 11 rfl<|s_alloc fun b18=>r_K<|r_W 12 rfl<|s_sta (b:=b18) (vs:=#[I 3,I 25,I 4,I (pp 4 77:Nat),I 10,.slice x106.aa 2 x106.ac,.slice none 0 0]) (cs:=#[I 0,I 0,I 0,I 0,I 0,.slice none 0 0,.slice none 0 0]) (h1:=one_allA rfl) (hl:=rfl) (hs1:=rfl) ?_
      refine r_K<|r_y 13 rfl y_as<|r_E<|q_then<|c_seq<|c_reg<|s_y (y_lda (b:=b2) (cs:=#[I 3,I (pp 4 (dscal k9 lbRec):Nat),.slice x34.1.1 2 x34.1.2,I 2,I 4]) (hl:=rfl))<|s_y (y_lda (b:=b18) (cs:=#[I 3,I 25,I 4,I (pp 4 77:Nat),I 10,.slice x106.aa 2 x106.ac,.slice none 0 0]) (hl:=rfl))<|s_pure (fun w' hw=>(by have h9:=Finish_yes w' sP (sC2 x95.ba x106.ba x95.bc x106.bc) 14 1 x34.1.1 x106.aa none x34.1.2 x106.ac 0 ⟨(rdR (.tail _ (.tail _ (.tail _ (.tail _ (.tail _ (.tail _ (.tail _ (.tail _ (.tail _ (.tail _ (.tail _ (.tail _ (.head _))))))))))))) w' hw),(rdR (.tail _ (.head _)) w' hw),(Rd.nil _ _),(show 2 ≤ 1000000 by decide),(show 2 ≤ 1000000 by decide),(show 0 ≤ 1000000 by decide),hka106,(blg_r5 sP_ok (sC2_ok x95.ba x106.ba x95.bc x106.bc)),(cap_snoc (cap_snoc (fun _ h=>by cases h) hkb95) hkb106),(ApOk.snoc (ApOk.snoc (ApOk.nil' w') (rdR (.tail _ (.tail _ (.tail _ (.tail _ (.tail _ (.head _)))))) w' hw) (Nat.le_trans (Nat.le_of_eq (wtx_length _ _ _ _ _)) (by decide))) (rdR (.tail _ (.tail _ (.head _))) w' hw) (Nat.le_trans (Nat.le_of_eq (wtx_length _ _ _ _ _)) (by decide))),(hg.st hw)⟩ 77 (sC2_fin x95.ba x106.ba x95.bc x106.bc).1; rw [(sC2_fin x95.ba x106.ba x95.bc x106.bc).2] at h9; exact h9))<|s_y y_mv<|s_y y_ext<|s_y y_ext<|s_alloc fun b20=>s_sta (b:=b20) (vs:=#[I 3,I (((sC2 x95.ba x106.ba x95.bc x106.bc)).d),I (((sC2 x95.ba x106.ba x95.bc x106.bc)).v),I (((sC2 x95.ba x106.ba x95.bc x106.bc)).l),I 1,I (-1),I (sgR sR (cmsg [3,((sC2 x95.ba x106.ba x95.bc x106.bc)).d,((sC2 x95.ba x106.ba x95.bc x106.bc)).v,((sC2 x95.ba x106.ba x95.bc x106.bc)).l,1,-1]):Nat),I (sgS sR (cmsg [3,((sC2 x95.ba x106.ba x95.bc x106.bc)).d,((sC2 x95.ba x106.ba x95.bc x106.bc)).v,((sC2 x95.ba x106.ba x95.bc x106.bc)).l,1,-1]):Nat)]) (cs:=#[I 0,I 0,I 0,I 0,I 0,I 0,I 0,I 0]) (h1:=by intro u hu; simp at hu; rcases hu with rfl | rfl | rfl | rfl | rfl | rfl | rfl | rfl <;> rfl) (hl:=(show (8:Nat) = 8 from rfl)) (hs1:=rfl) ?_
      refine s_y y_as<|s_nil<|q_then<|c_seq<|c_reg<|s_y y_mv<|s_y y_mv<|s_pure (fun w' hw=>(by have h9:=l_secret_ok w' x34.2.1 x34.2.2 (sN (spl sco 2)) (rdR (.tail _ (.tail _ (.tail _ (.tail _ (.tail _ (.tail _ (.tail _ (.tail _ (.tail _ (.tail _ (.tail _ (.tail _ (.head _))))))))))))) w' hw) (by rw [sN_length,spl_length]; decide); rw [(join_spl (cs:=sco) (m:=2) (by decide) (by decide) (by decide)).2,sco_0] at h9; exact h9))<|s_pure (fun w' hw=>Certify3_yes w' 25 4 (pp 4 77:Nat) 1 sR ⟨by decide,by decide,chk_four,chk_pub _⟩ (hg.st hw).1 sR_b.1 sR_b.2)<|s_y y_mv<|s_y y_ext<|s_y y_ext<|s_alloc fun b22=>s_sta (b:=b22) (vs:=#[I 3,I 25,I 4,I (pp 4 77:Nat),I 1,I (-1),I (sgR sR (cmsg [3,25,4,(pp 4 77:Nat),1,-1]):Nat),I (sgS sR (cmsg [3,25,4,(pp 4 77:Nat),1,-1]):Nat)]) (cs:=#[I 0,I 0,I 0,I 0,I 0,I 0,I 0,I 0]) (h1:=by intro u hu; simp at hu; rcases hu with rfl | rfl | rfl | rfl | rfl | rfl | rfl | rfl <;> rfl) (hl:=(show (8:Nat) = 8 from rfl)) (hs1:=rfl) ?_
      refine s_y y_as<|s_nil<|q_then<|c_seq<|c_reg<|s_y (y_lda (b:=b2) (cs:=#[I 3,I (pp 4 (dscal k9 lbRec):Nat),.slice x34.1.1 2 x34.1.2,I 2,I 4]) (hl:=rfl))<|s_y (y_lda (b:=b18) (cs:=#[I 3,I 25,I 4,I (pp 4 77:Nat),I 10,.slice x106.aa 2 x106.ac,.slice none 0 0]) (hl:=rfl))<|s_pure (fun w' hw=>(by have h9:=Finish_st w' sP (sC2 x95.ba x106.ba x95.bc x106.bc) 13 1 x34.1.1 x106.aa none x34.1.2 x106.ac 0 (rdR (.tail _ (.tail _ (.tail _ (.tail _ (.tail _ (.tail _ (.tail _ (.tail _ (.tail _ (.tail _ (.tail _ (.tail _ (.tail _ (.tail _ (.head _))))))))))))))) w' hw) (rdR (.tail _ (.tail _ (.tail _ (.head _)))) w' hw) (Rd.nil _ _) (show 2 ≤ 1000000 by decide) (show 2 ≤ 1000000 by decide) (show 0 ≤ 1000000 by decide) 77 (by rw [sC2_early]; decide); rw [sC2_early] at h9; exact h9))<|s_y y_mv<|s_y y_ext<|s_y y_ext<|s_alloc fun b24=>s_sta (b:=b24) (vs:=#[I 0,I 0,I 0,I 0,I 0,I 0,I 0,I 0]) (cs:=#[I 0,I 0,I 0,I 0,I 0,I 0,I 0,I 0]) (h1:=one_allA rfl) (hl:=(show (8:Nat) = 8 from rfl)) (hs1:=rfl) ?_
      refine s_y y_as<|s_nil<|q_then<|c_seq<|c_seq<|c_reg<|s_y y_mv<|s_nf (y_neq (p:=0) (q:=0)) (by omega)<|s_y y_mv<|s_y y_mv<|s_nf (y_neq (p:=0) (q:=0)) (by omega)<|s_y y_pk<|s_y y_mv<|s_y y_mv<|s_nf (y_neq (p:=0) (q:=0)) (by omega)<|s_y y_pk<|s_y y_mv<|s_y y_mv<|s_nf (y_neq (p:=0) (q:=0)) (by omega)<|s_y y_pk<|s_y y_mv<|s_y y_mv<|s_nf (y_neq (p:=0) (q:=0)) (by omega)<|s_y y_pk<|s_y y_mv<|s_y y_mv<|s_nf (y_neq (p:=391) (q:=391)) (by trivial)<|s_y y_pk<|s_y y_mv<|s_y (y_lda (b:=b20) (cs:=#[I 3,I (((sC2 x95.ba x106.ba x95.bc x106.bc)).d),I (((sC2 x95.ba x106.ba x95.bc x106.bc)).v),I (((sC2 x95.ba x106.ba x95.bc x106.bc)).l),I 1,I (-1),I (sgR sR (cmsg [3,((sC2 x95.ba x106.ba x95.bc x106.bc)).d,((sC2 x95.ba x106.ba x95.bc x106.bc)).v,((sC2 x95.ba x106.ba x95.bc x106.bc)).l,1,-1]):Nat),I (sgS sR (cmsg [3,((sC2 x95.ba x106.ba x95.bc x106.bc)).d,((sC2 x95.ba x106.ba x95.bc x106.bc)).v,((sC2 x95.ba x106.ba x95.bc x106.bc)).l,1,-1]):Nat)]) (hl:=rfl))<|s_y (y_lda (b:=b22) (cs:=#[I 3,I 25,I 4,I (pp 4 77:Nat),I 1,I (-1),I (sgR sR (cmsg [3,25,4,(pp 4 77:Nat),1,-1]):Nat),I (sgS sR (cmsg [3,25,4,(pp 4 77:Nat),1,-1]):Nat)]) (hl:=rfl))<|s_y y_neqCt<|s_y y_pk<|s_nil<|q_then<|c_f<|c_skip<|q_then<|c_seq<|c_reg<|s_y (y_lda (b:=b18) (cs:=#[I 3,I 25,I 4,I (pp 4 77:Nat),I 10,.slice x106.aa 2 x106.ac,.slice none 0 0]) (hl:=rfl))<|s_y y_mv<|s_y (y_blst (cs:=[I 26,I (pp 4 55:Nat),I 4,I 1,.bool false]))<|s_bslr (cs:=[I 26,I (pp 4 55:Nat),I 4,I 1,.bool false]) fun b159=>s_gives (fun w' hw=>Object_y w' (sC2 x95.ba x106.ba x95.bc x106.bc) x106.aa none (some ⟨b159,0,none⟩) x106.ac 0 1 [⟨26,(pp 4 55:Nat),4,1,false⟩] 26 13 55 (hg.st hw) (rdR (.head _) w' hw) (by decide) (Rd.nil _ _) (Nat.le_refl _) (show 0 ≤ 1000000 by decide) 0 _ _ _ (ls26 26 (by decide)) rfl (sC2_ob x95.ba x106.ba x95.bc x106.bc) (by decide) (by decide) rfl (blg_r5 sP_ok (sC2_ok x95.ba x106.ba x95.bc x106.bc)) (by unfold R64; omega) (by unfold R64; omega)) fun (x160:Option Addr × Nat) _=>?_
      refine s_row (fun hkv160 _=>?_) (hm:=.head _)
      refine s_y y_mv<|s_y y_ext<|s_y y_ext<|s_alloc fun b26=>s_sta (b:=b26) (vs:=#[I 3,I 25,I 4,I (pp 4 77:Nat),I 10,.slice x106.aa 2 x106.ac,.slice x160.1 1 x160.2]) (cs:=#[I 0,I 0,I 0,I 0,I 0,.slice none 0 0,.slice none 0 0]) (h1:=one_allA rfl) (hl:=rfl) (hs1:=rfl) ?_
      refine s_y y_as<|s_nil<|q_then<|c_seq<|c_reg<|s_y (y_lda (b:=b18) (cs:=#[I 3,I 25,I 4,I (pp 4 77:Nat),I 10,.slice x106.aa 2 x106.ac,.slice none 0 0]) (hl:=rfl))<|s_y y_mv<|s_y (y_blst (cs:=[I 40,I (pp 4 55:Nat),I 4,I 1,.bool false]))<|s_bslr (cs:=[I 40,I (pp 4 55:Nat),I 4,I 1,.bool false]) fun b167=>s_pure (fun w' hw=>Object_o2b w' (sC2 x95.ba x106.ba x95.bc x106.bc) x106.aa none (some ⟨b167,0,none⟩) x106.ac 0 1 [⟨40,(pp 4 55:Nat),4,1,false⟩] 40 13 55 (hg.st hw) (rdR (.head _) w' hw) (by decide) (Rd.nil _ _) (show 0 ≤ 1000000 by decide) 0 _ _ _ (ls26 40 (by decide)) rfl (sC2_no x95.ba x106.ba x95.bc x106.bc))<|s_y y_mv<|s_y y_ext<|s_y y_ext<|s_alloc fun b28=>s_sta (b:=b28) (vs:=#[I 0,I 0,I 0,I 0,I 0,.slice none 0 0,.slice none 0 0]) (cs:=#[I 0,I 0,I 0,I 0,I 0,.slice none 0 0,.slice none 0 0]) (h1:=one_allA rfl) (hl:=rfl) (hs1:=rfl) ?_
      refine s_y y_as<|s_nil<|q_then<|c_seq<|c_reg<|s_y y_mv<|s_kt (y_eql (p:=0) (q:=0)) (by omega)<|s_y y_mv<|s_y y_mv<|s_kt (y_eql (p:=390) (q:=390)) (by omega)<|s_y y_pk<|s_y y_mv<|s_y (y_lda (b:=b2) (cs:=#[I 3,I (pp 4 (dscal k9 lbRec):Nat),.slice x34.1.1 2 x34.1.2,I 2,I 4]) (hl:=rfl))<|s_y (y_lda (b:=b26) (cs:=#[I 3,I 25,I 4,I (pp 4 77:Nat),I 10,.slice x106.aa 2 x106.ac,.slice x160.1 1 x160.2]) (hl:=rfl))<|s_pure (fun w' hw=>(by have h9:=State_ok w' sP (sC3 x95.ba x106.ba x95.bc x106.bc) 99 x34.1.1 x106.aa x160.1 x34.1.2 x106.ac x160.2 (rdR (.tail _ (.tail _ (.tail _ (.tail _ (.tail _ (.tail _ (.tail _ (.tail _ (.tail _ (.tail _ (.tail _ (.tail _ (.tail _ (.tail _ (.tail _ (.tail _ (.tail _ (.tail _ (.tail _ (.tail _ (.head _))))))))))))))))))))) w' hw) (rdR (.tail _ (.tail _ (.tail _ (.tail _ (.tail _ (.tail _ (.tail _ (.tail _ (.tail _ (.head _)))))))))) w' hw) (rdR (.tail _ (.tail _ (.tail _ (.head _)))) w' hw) (show 2 ≤ 1000000 by decide) (show 2 ≤ 1000000 by decide) (show 1 ≤ 1000000 by decide); rw [sC3_st] at h9; exact h9))<|s_kt (y_eql (p:=392) (q:=392)) (by trivial)<|s_y y_pk<|s_y y_mv<|s_y (y_lda (b:=b2) (cs:=#[I 3,I (pp 4 (dscal k9 lbRec):Nat),.slice x34.1.1 2 x34.1.2,I 2,I 4]) (hl:=rfl))<|s_y (y_bcas (cs:=[I 0,I 0,I 0,I 0,I 0,.slice none 0 0,.slice none 0 0]))<|s_pure (fun w' hw=>(by have h9:=State_ok w' sP zC 1 x34.1.1 none none x34.1.2 0 0 (rdR (.tail _ (.tail _ (.tail _ (.tail _ (.tail _ (.tail _ (.tail _ (.tail _ (.tail _ (.tail _ (.tail _ (.tail _ (.tail _ (.tail _ (.tail _ (.tail _ (.tail _ (.tail _ (.tail _ (.tail _ (.head _))))))))))))))))))))) w' hw) (Rd.nil _ _) (Rd.nil _ _) (show 2 ≤ 1000000 by decide) (show 0 ≤ 1000000 by decide) (show 0 ≤ 1000000 by decide); rw [zC_st] at h9; exact h9))<|s_kt (y_eql (p:=390) (q:=390)) (by trivial)<|s_y y_pk<|s_y y_mv<|s_y (y_lda (b:=b2) (cs:=#[I 3,I (pp 4 (dscal k9 lbRec):Nat),.slice x34.1.1 2 x34.1.2,I 2,I 4]) (hl:=rfl))<|s_y (y_lda (b:=b14) (cs:=#[I 3,I 25,I 4,I (pp 4 77:Nat),I 10,.slice none 0 0,.slice none 0 0]) (hl:=rfl))<|s_pure (fun w' hw=>(by have h9:=State_ok w' sP sC 10 x34.1.1 none none x34.1.2 0 0 (rdR (.tail _ (.tail _ (.tail _ (.tail _ (.tail _ (.tail _ (.tail _ (.tail _ (.tail _ (.tail _ (.tail _ (.tail _ (.tail _ (.tail _ (.tail _ (.tail _ (.tail _ (.tail _ (.tail _ (.tail _ (.head _))))))))))))))))))))) w' hw) (Rd.nil _ _) (Rd.nil _ _) (show 2 ≤ 1000000 by decide) (show 0 ≤ 1000000 by decide) (show 0 ≤ 1000000 by decide); rw [sC_early] at h9; exact h9))<|s_kt (y_eql (p:=391) (q:=391)) (by trivial)<|s_y y_pk<|s_y y_as<|s_nil<|q_then<|c_ret<|?_
      exact ret1 Tryz.results9 rv_t fun w' hw=>⟨rfl,hw.sub (List.nil_sublist _)⟩
    · refine s_alloc fun b18=>r_K<|r_W 7 rfl<|s_gives (fun w' hw=>Approve_y w' sP (sC1 x95.ba x95.bc) x34.1.1 x95.aa none x34.1.2 x95.ac 0 6 (pp 4 55:Nat) k2 (1 + 1) (hor sco (1 + 1)) 55 (hg.st hw) k2_l (rdR (.tail _ (.tail _ (.tail _ (.tail _ (.tail _ (.tail _ (.tail _ (.tail _ (.tail _ (.tail _ (.head _))))))))))) w' hw) (show 2 ≤ 1000000 by decide) (rdR (.tail _ (.tail _ (.head _))) w' hw) hka95 (Rd.nil _ _) (show 1 ≤ 1000000 by decide) (show 0 ≤ 1000000 by decide) (blg_r5 sP_ok (sC1_ok x95.ba x95.bc)) (by unfold R64; omega) sP_ok (sA2_rt x95.ba x95.bc) (by decide) (by decide) rfl) fun (x106:AX) _=>?_
      refine s_row (fun hka106 _=>s_row (fun hkb106 _=>?_) (hm:=.tail _ (.head _))) (hm:=.head _)
      refine r_K<|r_y 8 rfl y_mv<|r_y 9 rfl y_ext<|r_y 10 rfl y_ext<|r_W 12 rfl<|s_sta (b:=b18) (vs:=#[I 3,I 25,I 4,I (pp 4 77:Nat),I 10,.slice x106.aa 2 x106.ac,.slice none 0 0]) (cs:=#[I 0,I 0,I 0,I 0,I 0,.slice none 0 0,.slice none 0 0]) (h1:=one_allA rfl) (hl:=rfl) (hs1:=rfl) ?_
      refine r_K<|r_y 13 rfl y_as<|r_E<|q_then<|c_seq<|c_reg<|s_y (y_lda (b:=b2) (cs:=#[I 3,I (pp 4 (dscal k9 lbRec):Nat),.slice x34.1.1 2 x34.1.2,I 2,I 4]) (hl:=rfl))<|s_y (y_lda (b:=b18) (cs:=#[I 3,I 25,I 4,I (pp 4 77:Nat),I 10,.slice x106.aa 2 x106.ac,.slice none 0 0]) (hl:=rfl))<|s_pure (fun w' hw=>(by have h9:=Finish_yes w' sP (sC2 x95.ba x106.ba x95.bc x106.bc) 14 1 x34.1.1 x106.aa none x34.1.2 x106.ac 0 ⟨(rdR (.tail _ (.tail _ (.tail _ (.tail _ (.tail _ (.tail _ (.tail _ (.tail _ (.tail _ (.tail _ (.tail _ (.tail _ (.head _))))))))))))) w' hw),(rdR (.head _) w' hw),(Rd.nil _ _),(show 2 ≤ 1000000 by decide),(show 2 ≤ 1000000 by decide),(show 0 ≤ 1000000 by decide),hka106,(blg_r5 sP_ok (sC2_ok x95.ba x106.ba x95.bc x106.bc)),(cap_snoc (cap_snoc (fun _ h=>by cases h) hkb95) hkb106),(ApOk.snoc (ApOk.snoc (ApOk.nil' w') (rdR (.tail _ (.tail _ (.tail _ (.tail _ (.tail _ (.head _)))))) w' hw) (Nat.le_trans (Nat.le_of_eq (wtx_length _ _ _ _ _)) (by decide))) (rdR (.tail _ (.head _)) w' hw) (Nat.le_trans (Nat.le_of_eq (wtx_length _ _ _ _ _)) (by decide))),(hg.st hw)⟩ 77 (sC2_fin x95.ba x106.ba x95.bc x106.bc).1; rw [(sC2_fin x95.ba x106.ba x95.bc x106.bc).2] at h9; exact h9))<|s_y y_mv<|s_y y_ext<|s_y y_ext<|s_alloc fun b20=>s_sta (b:=b20) (vs:=#[I 3,I (((sC2 x95.ba x106.ba x95.bc x106.bc)).d),I (((sC2 x95.ba x106.ba x95.bc x106.bc)).v),I (((sC2 x95.ba x106.ba x95.bc x106.bc)).l),I 1,I (-1),I (sgR sR (cmsg [3,((sC2 x95.ba x106.ba x95.bc x106.bc)).d,((sC2 x95.ba x106.ba x95.bc x106.bc)).v,((sC2 x95.ba x106.ba x95.bc x106.bc)).l,1,-1]):Nat),I (sgS sR (cmsg [3,((sC2 x95.ba x106.ba x95.bc x106.bc)).d,((sC2 x95.ba x106.ba x95.bc x106.bc)).v,((sC2 x95.ba x106.ba x95.bc x106.bc)).l,1,-1]):Nat)]) (cs:=#[I 0,I 0,I 0,I 0,I 0,I 0,I 0,I 0]) (h1:=by intro u hu; simp at hu; rcases hu with rfl | rfl | rfl | rfl | rfl | rfl | rfl | rfl <;> rfl) (hl:=(show (8:Nat) = 8 from rfl)) (hs1:=rfl) ?_
      refine s_y y_as<|s_nil<|q_then<|c_seq<|c_reg<|s_y y_mv<|s_y y_mv<|s_pure (fun w' hw=>(by have h9:=l_secret_ok w' x34.2.1 x34.2.2 (sN (spl sco 2)) (rdR (.tail _ (.tail _ (.tail _ (.tail _ (.tail _ (.tail _ (.tail _ (.tail _ (.tail _ (.tail _ (.tail _ (.tail _ (.head _))))))))))))) w' hw) (by rw [sN_length,spl_length]; decide); rw [(join_spl (cs:=sco) (m:=2) (by decide) (by decide) (by decide)).2,sco_0] at h9; exact h9))<|s_pure (fun w' hw=>Certify3_yes w' 25 4 (pp 4 77:Nat) 1 sR ⟨by decide,by decide,chk_four,chk_pub _⟩ (hg.st hw).1 sR_b.1 sR_b.2)<|s_y y_mv<|s_y y_ext<|s_y y_ext<|s_alloc fun b22=>s_sta (b:=b22) (vs:=#[I 3,I 25,I 4,I (pp 4 77:Nat),I 1,I (-1),I (sgR sR (cmsg [3,25,4,(pp 4 77:Nat),1,-1]):Nat),I (sgS sR (cmsg [3,25,4,(pp 4 77:Nat),1,-1]):Nat)]) (cs:=#[I 0,I 0,I 0,I 0,I 0,I 0,I 0,I 0]) (h1:=by intro u hu; simp at hu; rcases hu with rfl | rfl | rfl | rfl | rfl | rfl | rfl | rfl <;> rfl) (hl:=(show (8:Nat) = 8 from rfl)) (hs1:=rfl) ?_
      refine s_y y_as<|s_nil<|q_then<|c_seq<|c_reg<|s_y (y_lda (b:=b2) (cs:=#[I 3,I (pp 4 (dscal k9 lbRec):Nat),.slice x34.1.1 2 x34.1.2,I 2,I 4]) (hl:=rfl))<|s_y (y_lda (b:=b18) (cs:=#[I 3,I 25,I 4,I (pp 4 77:Nat),I 10,.slice x106.aa 2 x106.ac,.slice none 0 0]) (hl:=rfl))<|s_pure (fun w' hw=>(by have h9:=Finish_st w' sP (sC2 x95.ba x106.ba x95.bc x106.bc) 13 1 x34.1.1 x106.aa none x34.1.2 x106.ac 0 (rdR (.tail _ (.tail _ (.tail _ (.tail _ (.tail _ (.tail _ (.tail _ (.tail _ (.tail _ (.tail _ (.tail _ (.tail _ (.tail _ (.tail _ (.head _))))))))))))))) w' hw) (rdR (.tail _ (.tail _ (.head _))) w' hw) (Rd.nil _ _) (show 2 ≤ 1000000 by decide) (show 2 ≤ 1000000 by decide) (show 0 ≤ 1000000 by decide) 77 (by rw [sC2_early]; decide); rw [sC2_early] at h9; exact h9))<|s_y y_mv<|s_y y_ext<|s_y y_ext<|s_alloc fun b24=>s_sta (b:=b24) (vs:=#[I 0,I 0,I 0,I 0,I 0,I 0,I 0,I 0]) (cs:=#[I 0,I 0,I 0,I 0,I 0,I 0,I 0,I 0]) (h1:=one_allA rfl) (hl:=(show (8:Nat) = 8 from rfl)) (hs1:=rfl) ?_
      refine s_y y_as<|s_nil<|q_then<|c_seq<|c_seq<|c_reg<|s_y y_mv<|s_nf (y_neq (p:=0) (q:=0)) (by omega)<|s_y y_mv<|s_y y_mv<|s_nf (y_neq (p:=0) (q:=0)) (by omega)<|s_y y_pk<|s_y y_mv<|s_y y_mv<|s_nf (y_neq (p:=0) (q:=0)) (by omega)<|s_y y_pk<|s_y y_mv<|s_y y_mv<|s_nf (y_neq (p:=0) (q:=0)) (by omega)<|s_y y_pk<|s_y y_mv<|s_y y_mv<|s_nf (y_neq (p:=0) (q:=0)) (by omega)<|s_y y_pk<|s_y y_mv<|s_y y_mv<|s_nf (y_neq (p:=391) (q:=391)) (by trivial)<|s_y y_pk<|s_y y_mv<|s_y (y_lda (b:=b20) (cs:=#[I 3,I (((sC2 x95.ba x106.ba x95.bc x106.bc)).d),I (((sC2 x95.ba x106.ba x95.bc x106.bc)).v),I (((sC2 x95.ba x106.ba x95.bc x106.bc)).l),I 1,I (-1),I (sgR sR (cmsg [3,((sC2 x95.ba x106.ba x95.bc x106.bc)).d,((sC2 x95.ba x106.ba x95.bc x106.bc)).v,((sC2 x95.ba x106.ba x95.bc x106.bc)).l,1,-1]):Nat),I (sgS sR (cmsg [3,((sC2 x95.ba x106.ba x95.bc x106.bc)).d,((sC2 x95.ba x106.ba x95.bc x106.bc)).v,((sC2 x95.ba x106.ba x95.bc x106.bc)).l,1,-1]):Nat)]) (hl:=rfl))<|s_y (y_lda (b:=b22) (cs:=#[I 3,I 25,I 4,I (pp 4 77:Nat),I 1,I (-1),I (sgR sR (cmsg [3,25,4,(pp 4 77:Nat),1,-1]):Nat),I (sgS sR (cmsg [3,25,4,(pp 4 77:Nat),1,-1]):Nat)]) (hl:=rfl))<|s_y y_neqCt<|s_y y_pk<|s_nil<|q_then<|c_f<|c_skip<|q_then<|c_seq<|c_reg<|s_y (y_lda (b:=b18) (cs:=#[I 3,I 25,I 4,I (pp 4 77:Nat),I 10,.slice x106.aa 2 x106.ac,.slice none 0 0]) (hl:=rfl))<|s_y y_mv<|s_y (y_blst (cs:=[I 26,I (pp 4 55:Nat),I 4,I 1,.bool false]))<|s_bslr (cs:=[I 26,I (pp 4 55:Nat),I 4,I 1,.bool false]) fun b159=>s_gives (fun w' hw=>Object_y w' (sC2 x95.ba x106.ba x95.bc x106.bc) x106.aa none (some ⟨b159,0,none⟩) x106.ac 0 1 [⟨26,(pp 4 55:Nat),4,1,false⟩] 26 13 55 (hg.st hw) (rdR (.head _) w' hw) (by decide) (Rd.nil _ _) (Nat.le_refl _) (show 0 ≤ 1000000 by decide) 0 _ _ _ (ls26 26 (by decide)) rfl (sC2_ob x95.ba x106.ba x95.bc x106.bc) (by decide) (by decide) rfl (blg_r5 sP_ok (sC2_ok x95.ba x106.ba x95.bc x106.bc)) (by unfold R64; omega) (by unfold R64; omega)) fun (x160:Option Addr × Nat) _=>?_
      refine s_row (fun hkv160 _=>?_) (hm:=.head _)
      refine s_y y_mv<|s_y y_ext<|s_y y_ext<|s_alloc fun b26=>s_sta (b:=b26) (vs:=#[I 3,I 25,I 4,I (pp 4 77:Nat),I 10,.slice x106.aa 2 x106.ac,.slice x160.1 1 x160.2]) (cs:=#[I 0,I 0,I 0,I 0,I 0,.slice none 0 0,.slice none 0 0]) (h1:=one_allA rfl) (hl:=rfl) (hs1:=rfl) ?_
      refine s_y y_as<|s_nil<|q_then<|c_seq<|c_reg<|s_y (y_lda (b:=b18) (cs:=#[I 3,I 25,I 4,I (pp 4 77:Nat),I 10,.slice x106.aa 2 x106.ac,.slice none 0 0]) (hl:=rfl))<|s_y y_mv<|s_y (y_blst (cs:=[I 40,I (pp 4 55:Nat),I 4,I 1,.bool false]))<|s_bslr (cs:=[I 40,I (pp 4 55:Nat),I 4,I 1,.bool false]) fun b167=>s_pure (fun w' hw=>Object_o2b w' (sC2 x95.ba x106.ba x95.bc x106.bc) x106.aa none (some ⟨b167,0,none⟩) x106.ac 0 1 [⟨40,(pp 4 55:Nat),4,1,false⟩] 40 13 55 (hg.st hw) (rdR (.head _) w' hw) (by decide) (Rd.nil _ _) (show 0 ≤ 1000000 by decide) 0 _ _ _ (ls26 40 (by decide)) rfl (sC2_no x95.ba x106.ba x95.bc x106.bc))<|s_y y_mv<|s_y y_ext<|s_y y_ext<|s_alloc fun b28=>s_sta (b:=b28) (vs:=#[I 0,I 0,I 0,I 0,I 0,.slice none 0 0,.slice none 0 0]) (cs:=#[I 0,I 0,I 0,I 0,I 0,.slice none 0 0,.slice none 0 0]) (h1:=one_allA rfl) (hl:=rfl) (hs1:=rfl) ?_
      refine s_y y_as<|s_nil<|q_then<|c_seq<|c_reg<|s_y y_mv<|s_kt (y_eql (p:=0) (q:=0)) (by omega)<|s_y y_mv<|s_y y_mv<|s_kt (y_eql (p:=390) (q:=390)) (by omega)<|s_y y_pk<|s_y y_mv<|s_y (y_lda (b:=b2) (cs:=#[I 3,I (pp 4 (dscal k9 lbRec):Nat),.slice x34.1.1 2 x34.1.2,I 2,I 4]) (hl:=rfl))<|s_y (y_lda (b:=b26) (cs:=#[I 3,I 25,I 4,I (pp 4 77:Nat),I 10,.slice x106.aa 2 x106.ac,.slice x160.1 1 x160.2]) (hl:=rfl))<|s_pure (fun w' hw=>(by have h9:=State_ok w' sP (sC3 x95.ba x106.ba x95.bc x106.bc) 99 x34.1.1 x106.aa x160.1 x34.1.2 x106.ac x160.2 (rdR (.tail _ (.tail _ (.tail _ (.tail _ (.tail _ (.tail _ (.tail _ (.tail _ (.tail _ (.tail _ (.tail _ (.tail _ (.tail _ (.tail _ (.tail _ (.tail _ (.tail _ (.tail _ (.tail _ (.tail _ (.head _))))))))))))))))))))) w' hw) (rdR (.tail _ (.tail _ (.tail _ (.tail _ (.tail _ (.tail _ (.tail _ (.tail _ (.head _))))))))) w' hw) (rdR (.tail _ (.tail _ (.tail _ (.head _)))) w' hw) (show 2 ≤ 1000000 by decide) (show 2 ≤ 1000000 by decide) (show 1 ≤ 1000000 by decide); rw [sC3_st] at h9; exact h9))<|s_kt (y_eql (p:=392) (q:=392)) (by trivial)<|s_y y_pk<|s_y y_mv<|s_y (y_lda (b:=b2) (cs:=#[I 3,I (pp 4 (dscal k9 lbRec):Nat),.slice x34.1.1 2 x34.1.2,I 2,I 4]) (hl:=rfl))<|s_y (y_bcas (cs:=[I 0,I 0,I 0,I 0,I 0,.slice none 0 0,.slice none 0 0]))<|s_pure (fun w' hw=>(by have h9:=State_ok w' sP zC 1 x34.1.1 none none x34.1.2 0 0 (rdR (.tail _ (.tail _ (.tail _ (.tail _ (.tail _ (.tail _ (.tail _ (.tail _ (.tail _ (.tail _ (.tail _ (.tail _ (.tail _ (.tail _ (.tail _ (.tail _ (.tail _ (.tail _ (.tail _ (.tail _ (.head _))))))))))))))))))))) w' hw) (Rd.nil _ _) (Rd.nil _ _) (show 2 ≤ 1000000 by decide) (show 0 ≤ 1000000 by decide) (show 0 ≤ 1000000 by decide); rw [zC_st] at h9; exact h9))<|s_kt (y_eql (p:=390) (q:=390)) (by trivial)<|s_y y_pk<|s_y y_mv<|s_y (y_lda (b:=b2) (cs:=#[I 3,I (pp 4 (dscal k9 lbRec):Nat),.slice x34.1.1 2 x34.1.2,I 2,I 4]) (hl:=rfl))<|s_y (y_lda (b:=b14) (cs:=#[I 3,I 25,I 4,I (pp 4 77:Nat),I 10,.slice none 0 0,.slice none 0 0]) (hl:=rfl))<|s_pure (fun w' hw=>(by have h9:=State_ok w' sP sC 10 x34.1.1 none none x34.1.2 0 0 (rdR (.tail _ (.tail _ (.tail _ (.tail _ (.tail _ (.tail _ (.tail _ (.tail _ (.tail _ (.tail _ (.tail _ (.tail _ (.tail _ (.tail _ (.tail _ (.tail _ (.tail _ (.tail _ (.tail _ (.tail _ (.head _))))))))))))))))))))) w' hw) (Rd.nil _ _) (Rd.nil _ _) (show 2 ≤ 1000000 by decide) (show 0 ≤ 1000000 by decide) (show 0 ≤ 1000000 by decide); rw [sC_early] at h9; exact h9))<|s_kt (y_eql (p:=391) (q:=391)) (by trivial)<|s_y y_pk<|s_y y_as<|s_nil<|q_then<|c_ret<|?_
      exact ret1 Tryz.results9 rv_t fun w' hw=>⟨rfl,hw.sub (List.nil_sublist _)⟩
  · refine s_alloc fun b16=>r_K<|r_W 7 rfl<|s_gives (fun w' hw=>Approve_y w' sP sC x34.1.1 none none x34.1.2 0 0 5 (pp 4 55:Nat) k1 (0 + 1) (hor sco (0 + 1)) 55 (hg.st hw) k1_l (rdR (.tail _ (.tail _ (.tail _ (.tail _ (.tail _ (.tail _ (.tail _ (.head _)))))))) w' hw) (show 2 ≤ 1000000 by decide) (Rd.nil _ _) (Nat.le_refl _) (Rd.nil _ _) (show 0 ≤ 1000000 by decide) (show 0 ≤ 1000000 by decide) (blg_r5 sP_ok sC_ok) (by unfold R64; omega) sP_ok sA1_rt (by decide) (by decide) rfl) fun (x95:AX) _=>?_
    refine s_row (fun hka95 _=>s_row (fun hkb95 _=>?_) (hm:=.tail _ (.head _))) (hm:=.head _)
    refine r_K<|r_y 8 rfl y_mv<|r_y 9 rfl y_ext<|r_y 10 rfl y_ext<|r_W 12 rfl<|s_sta (b:=b16) (vs:=#[I 3,I 25,I 4,I (pp 4 77:Nat),I 10,.slice x95.aa 1 x95.ac,.slice none 0 0]) (cs:=#[I 0,I 0,I 0,I 0,I 0,.slice none 0 0,.slice none 0 0]) (h1:=one_allA rfl) (hl:=rfl) (hs1:=rfl) ?_
    refine r_K<|r_y 13 rfl y_as<|r_E<|q_then<|c_seq<|c_regL [.row x95.aa x95.ac 74 5 (sC.ap.length + 1) (apc (sC.ap ++ [nAp sC 5 k1 (0 + 1) (hor sco (0 + 1)) 55 x95.ba x95.bc])),.row x95.ba x95.bc 5 1 ((wtx sC 5 k1 (0 + 1) (hor sco (0 + 1))).length) (bs (wtx sC 5 k1 (0 + 1) (hor sco (0 + 1)))),.blk b16 (.cells #[I 3,I 25,I 4,I (pp 4 77:Nat),I 10,.slice x95.aa 1 x95.ac,.slice none 0 0] 30 (0,0)),.blk b14 (.cells #[I 3,I 25,I 4,I (pp 4 77:Nat),I 10,.slice none 0 0,.slice none 0 0] 30 (0,0)),.blk b8 (.cells #[I 0,I 0,I 0,I 0,I 0,.slice none 0 0,.slice none 0 0] 30 (0,0)),.blk b5 (.cells #[I 0,I 0,.slice none 0 0,I 0,I 0] 26 (0,0)),.row (some ⟨b39,0,none⟩) 1 3 1 1 [I 3],.blk b2 (.cells #[I 3,I (pp 4 (dscal k9 lbRec):Nat),.slice x34.1.1 2 x34.1.2,I 2,I 4] 26 (0,0)),.row x34.2.1 x34.2.2 46 2 2 (shc (sN (spl sco 2))),.row x34.1.1 x34.1.2 3 1 2 (is [5,6]),.row (some ⟨b32,0,none⟩) 2 3 1 2 [I 5,I 6],.blk b1 (.cells (bs k9).toArray 24 (0,0))]<|r_y 0 rfl (y_lda (b:=b2) (cs:=#[I 3,I (pp 4 (dscal k9 lbRec):Nat),.slice x34.1.1 2 x34.1.2,I 2,I 4]) (hl:=rfl))<|r_y 1 rfl (y_lda (b:=b16) (cs:=#[I 3,I 25,I 4,I (pp 4 77:Nat),I 10,.slice x95.aa 1 x95.ac,.slice none 0 0]) (hl:=rfl))<|r_y 2 rfl y_mv<|r_y 3 rfl (y_ixs (xs:=shc (sN (spl sco 2))) (i:=((1:Nat):Int)) (hr:=(rdR (.tail _ (.tail _ (.tail _ (.tail _ (.tail _ (.tail _ (.tail _ (.tail _ (.head _))))))))))) (hl:=by rw [shc_length,sN_length,spl_length]; decide) (h1:=by decide))<|r_y 4 rfl (y_ldra (i:=(1) * 2) (cs:=[I (1 + 1:Nat),I (hor sco (1 + 1):Nat)]) (rdR (.tail _ (.tail _ (.tail _ (.tail _ (.tail _ (.tail _ (.tail _ (.tail _ (.head _)))))))))) rfl (fun j v h=>shc_atA (spl_at (i:=1) (by decide)) h))<|r_y 5 rfl y_mv<|r_y 6 rfl (y_blda (cs:=bs k2) (hf:=by kernel_rfl))<|r_w2 7 11 rfl rfl ?_ ?_ (hsub:=by repeat (first | exact List.nil_sublist _ | exact List.Sublist.refl _ | apply List.Sublist.cons_cons | apply List.Sublist.cons))
    · refine s_gives (fun w' hw=>Approve_y w' sP (sC1 x95.ba x95.bc) x34.1.1 x95.aa none x34.1.2 x95.ac 0 6 (pp 4 55:Nat) k2 (1 + 1) (hor sco (1 + 1)) 55 (hg.st hw) k2_l (rdR (.tail _ (.tail _ (.tail _ (.tail _ (.tail _ (.tail _ (.tail _ (.tail _ (.tail _ (.head _)))))))))) w' hw) (show 2 ≤ 1000000 by decide) (rdR (.head _) w' hw) hka95 (Rd.nil _ _) (show 1 ≤ 1000000 by decide) (show 0 ≤ 1000000 by decide) (blg_r5 sP_ok (sC1_ok x95.ba x95.bc)) (by unfold R64; omega) sP_ok (sA2_rt x95.ba x95.bc) (by decide) (by decide) rfl) fun (x106:AX) _=>?_
      refine s_row (fun hka106 _=>s_row (fun hkb106 _=>?_) (hm:=.tail _ (.head _))) (hm:=.head _)
      refine r_K<|r_y 8 rfl y_mv<|r_y 9 rfl y_ext<|r_y 10 rfl y_ext<|r_W 11 rfl<|s_alloc fun b18=>r_K<|r_W 12 rfl<|s_sta (b:=b18) (vs:=#[I 3,I 25,I 4,I (pp 4 77:Nat),I 10,.slice x106.aa 2 x106.ac,.slice none 0 0]) (cs:=#[I 0,I 0,I 0,I 0,I 0,.slice none 0 0,.slice none 0 0]) (h1:=one_allA rfl) (hl:=rfl) (hs1:=rfl) ?_
      refine r_K<|r_y 13 rfl y_as<|r_E<|q_then<|c_seq<|c_reg<|s_y (y_lda (b:=b2) (cs:=#[I 3,I (pp 4 (dscal k9 lbRec):Nat),.slice x34.1.1 2 x34.1.2,I 2,I 4]) (hl:=rfl))<|s_y (y_lda (b:=b18) (cs:=#[I 3,I 25,I 4,I (pp 4 77:Nat),I 10,.slice x106.aa 2 x106.ac,.slice none 0 0]) (hl:=rfl))<|s_pure (fun w' hw=>(by have h9:=Finish_yes w' sP (sC2 x95.ba x106.ba x95.bc x106.bc) 14 1 x34.1.1 x106.aa none x34.1.2 x106.ac 0 ⟨(rdR (.tail _ (.tail _ (.tail _ (.tail _ (.tail _ (.tail _ (.tail _ (.tail _ (.tail _ (.tail _ (.tail _ (.tail _ (.head _))))))))))))) w' hw),(rdR (.tail _ (.head _)) w' hw),(Rd.nil _ _),(show 2 ≤ 1000000 by decide),(show 2 ≤ 1000000 by decide),(show 0 ≤ 1000000 by decide),hka106,(blg_r5 sP_ok (sC2_ok x95.ba x106.ba x95.bc x106.bc)),(cap_snoc (cap_snoc (fun _ h=>by cases h) hkb95) hkb106),(ApOk.snoc (ApOk.snoc (ApOk.nil' w') (rdR (.tail _ (.tail _ (.tail _ (.tail _ (.head _))))) w' hw) (Nat.le_trans (Nat.le_of_eq (wtx_length _ _ _ _ _)) (by decide))) (rdR (.tail _ (.tail _ (.head _))) w' hw) (Nat.le_trans (Nat.le_of_eq (wtx_length _ _ _ _ _)) (by decide))),(hg.st hw)⟩ 77 (sC2_fin x95.ba x106.ba x95.bc x106.bc).1; rw [(sC2_fin x95.ba x106.ba x95.bc x106.bc).2] at h9; exact h9))<|s_y y_mv<|s_y y_ext<|s_y y_ext<|s_alloc fun b20=>s_sta (b:=b20) (vs:=#[I 3,I (((sC2 x95.ba x106.ba x95.bc x106.bc)).d),I (((sC2 x95.ba x106.ba x95.bc x106.bc)).v),I (((sC2 x95.ba x106.ba x95.bc x106.bc)).l),I 1,I (-1),I (sgR sR (cmsg [3,((sC2 x95.ba x106.ba x95.bc x106.bc)).d,((sC2 x95.ba x106.ba x95.bc x106.bc)).v,((sC2 x95.ba x106.ba x95.bc x106.bc)).l,1,-1]):Nat),I (sgS sR (cmsg [3,((sC2 x95.ba x106.ba x95.bc x106.bc)).d,((sC2 x95.ba x106.ba x95.bc x106.bc)).v,((sC2 x95.ba x106.ba x95.bc x106.bc)).l,1,-1]):Nat)]) (cs:=#[I 0,I 0,I 0,I 0,I 0,I 0,I 0,I 0]) (h1:=by intro u hu; simp at hu; rcases hu with rfl | rfl | rfl | rfl | rfl | rfl | rfl | rfl <;> rfl) (hl:=(show (8:Nat) = 8 from rfl)) (hs1:=rfl) ?_
      refine s_y y_as<|s_nil<|q_then<|c_seq<|c_reg<|s_y y_mv<|s_y y_mv<|s_pure (fun w' hw=>(by have h9:=l_secret_ok w' x34.2.1 x34.2.2 (sN (spl sco 2)) (rdR (.tail _ (.tail _ (.tail _ (.tail _ (.tail _ (.tail _ (.tail _ (.tail _ (.tail _ (.tail _ (.tail _ (.tail _ (.head _))))))))))))) w' hw) (by rw [sN_length,spl_length]; decide); rw [(join_spl (cs:=sco) (m:=2) (by decide) (by decide) (by decide)).2,sco_0] at h9; exact h9))<|s_pure (fun w' hw=>Certify3_yes w' 25 4 (pp 4 77:Nat) 1 sR ⟨by decide,by decide,chk_four,chk_pub _⟩ (hg.st hw).1 sR_b.1 sR_b.2)<|s_y y_mv<|s_y y_ext<|s_y y_ext<|s_alloc fun b22=>s_sta (b:=b22) (vs:=#[I 3,I 25,I 4,I (pp 4 77:Nat),I 1,I (-1),I (sgR sR (cmsg [3,25,4,(pp 4 77:Nat),1,-1]):Nat),I (sgS sR (cmsg [3,25,4,(pp 4 77:Nat),1,-1]):Nat)]) (cs:=#[I 0,I 0,I 0,I 0,I 0,I 0,I 0,I 0]) (h1:=by intro u hu; simp at hu; rcases hu with rfl | rfl | rfl | rfl | rfl | rfl | rfl | rfl <;> rfl) (hl:=(show (8:Nat) = 8 from rfl)) (hs1:=rfl) ?_
      refine s_y y_as<|s_nil<|q_then<|c_seq<|c_reg<|s_y (y_lda (b:=b2) (cs:=#[I 3,I (pp 4 (dscal k9 lbRec):Nat),.slice x34.1.1 2 x34.1.2,I 2,I 4]) (hl:=rfl))<|s_y (y_lda (b:=b18) (cs:=#[I 3,I 25,I 4,I (pp 4 77:Nat),I 10,.slice x106.aa 2 x106.ac,.slice none 0 0]) (hl:=rfl))<|s_pure (fun w' hw=>(by have h9:=Finish_st w' sP (sC2 x95.ba x106.ba x95.bc x106.bc) 13 1 x34.1.1 x106.aa none x34.1.2 x106.ac 0 (rdR (.tail _ (.tail _ (.tail _ (.tail _ (.tail _ (.tail _ (.tail _ (.tail _ (.tail _ (.tail _ (.tail _ (.tail _ (.tail _ (.tail _ (.head _))))))))))))))) w' hw) (rdR (.tail _ (.tail _ (.tail _ (.head _)))) w' hw) (Rd.nil _ _) (show 2 ≤ 1000000 by decide) (show 2 ≤ 1000000 by decide) (show 0 ≤ 1000000 by decide) 77 (by rw [sC2_early]; decide); rw [sC2_early] at h9; exact h9))<|s_y y_mv<|s_y y_ext<|s_y y_ext<|s_alloc fun b24=>s_sta (b:=b24) (vs:=#[I 0,I 0,I 0,I 0,I 0,I 0,I 0,I 0]) (cs:=#[I 0,I 0,I 0,I 0,I 0,I 0,I 0,I 0]) (h1:=one_allA rfl) (hl:=(show (8:Nat) = 8 from rfl)) (hs1:=rfl) ?_
      refine s_y y_as<|s_nil<|q_then<|c_seq<|c_seq<|c_reg<|s_y y_mv<|s_nf (y_neq (p:=0) (q:=0)) (by omega)<|s_y y_mv<|s_y y_mv<|s_nf (y_neq (p:=0) (q:=0)) (by omega)<|s_y y_pk<|s_y y_mv<|s_y y_mv<|s_nf (y_neq (p:=0) (q:=0)) (by omega)<|s_y y_pk<|s_y y_mv<|s_y y_mv<|s_nf (y_neq (p:=0) (q:=0)) (by omega)<|s_y y_pk<|s_y y_mv<|s_y y_mv<|s_nf (y_neq (p:=0) (q:=0)) (by omega)<|s_y y_pk<|s_y y_mv<|s_y y_mv<|s_nf (y_neq (p:=391) (q:=391)) (by trivial)<|s_y y_pk<|s_y y_mv<|s_y (y_lda (b:=b20) (cs:=#[I 3,I (((sC2 x95.ba x106.ba x95.bc x106.bc)).d),I (((sC2 x95.ba x106.ba x95.bc x106.bc)).v),I (((sC2 x95.ba x106.ba x95.bc x106.bc)).l),I 1,I (-1),I (sgR sR (cmsg [3,((sC2 x95.ba x106.ba x95.bc x106.bc)).d,((sC2 x95.ba x106.ba x95.bc x106.bc)).v,((sC2 x95.ba x106.ba x95.bc x106.bc)).l,1,-1]):Nat),I (sgS sR (cmsg [3,((sC2 x95.ba x106.ba x95.bc x106.bc)).d,((sC2 x95.ba x106.ba x95.bc x106.bc)).v,((sC2 x95.ba x106.ba x95.bc x106.bc)).l,1,-1]):Nat)]) (hl:=rfl))<|s_y (y_lda (b:=b22) (cs:=#[I 3,I 25,I 4,I (pp 4 77:Nat),I 1,I (-1),I (sgR sR (cmsg [3,25,4,(pp 4 77:Nat),1,-1]):Nat),I (sgS sR (cmsg [3,25,4,(pp 4 77:Nat),1,-1]):Nat)]) (hl:=rfl))<|s_y y_neqCt<|s_y y_pk<|s_nil<|q_then<|c_f<|c_skip<|q_then<|c_seq<|c_reg<|s_y (y_lda (b:=b18) (cs:=#[I 3,I 25,I 4,I (pp 4 77:Nat),I 10,.slice x106.aa 2 x106.ac,.slice none 0 0]) (hl:=rfl))<|s_y y_mv<|s_y (y_blst (cs:=[I 26,I (pp 4 55:Nat),I 4,I 1,.bool false]))<|s_bslr (cs:=[I 26,I (pp 4 55:Nat),I 4,I 1,.bool false]) fun b159=>s_gives (fun w' hw=>Object_y w' (sC2 x95.ba x106.ba x95.bc x106.bc) x106.aa none (some ⟨b159,0,none⟩) x106.ac 0 1 [⟨26,(pp 4 55:Nat),4,1,false⟩] 26 13 55 (hg.st hw) (rdR (.head _) w' hw) (by decide) (Rd.nil _ _) (Nat.le_refl _) (show 0 ≤ 1000000 by decide) 0 _ _ _ (ls26 26 (by decide)) rfl (sC2_ob x95.ba x106.ba x95.bc x106.bc) (by decide) (by decide) rfl (blg_r5 sP_ok (sC2_ok x95.ba x106.ba x95.bc x106.bc)) (by unfold R64; omega) (by unfold R64; omega)) fun (x160:Option Addr × Nat) _=>?_
      refine s_row (fun hkv160 _=>?_) (hm:=.head _)
      refine s_y y_mv<|s_y y_ext<|s_y y_ext<|s_alloc fun b26=>s_sta (b:=b26) (vs:=#[I 3,I 25,I 4,I (pp 4 77:Nat),I 10,.slice x106.aa 2 x106.ac,.slice x160.1 1 x160.2]) (cs:=#[I 0,I 0,I 0,I 0,I 0,.slice none 0 0,.slice none 0 0]) (h1:=one_allA rfl) (hl:=rfl) (hs1:=rfl) ?_
      refine s_y y_as<|s_nil<|q_then<|c_seq<|c_reg<|s_y (y_lda (b:=b18) (cs:=#[I 3,I 25,I 4,I (pp 4 77:Nat),I 10,.slice x106.aa 2 x106.ac,.slice none 0 0]) (hl:=rfl))<|s_y y_mv<|s_y (y_blst (cs:=[I 40,I (pp 4 55:Nat),I 4,I 1,.bool false]))<|s_bslr (cs:=[I 40,I (pp 4 55:Nat),I 4,I 1,.bool false]) fun b167=>s_pure (fun w' hw=>Object_o2b w' (sC2 x95.ba x106.ba x95.bc x106.bc) x106.aa none (some ⟨b167,0,none⟩) x106.ac 0 1 [⟨40,(pp 4 55:Nat),4,1,false⟩] 40 13 55 (hg.st hw) (rdR (.head _) w' hw) (by decide) (Rd.nil _ _) (show 0 ≤ 1000000 by decide) 0 _ _ _ (ls26 40 (by decide)) rfl (sC2_no x95.ba x106.ba x95.bc x106.bc))<|s_y y_mv<|s_y y_ext<|s_y y_ext<|s_alloc fun b28=>s_sta (b:=b28) (vs:=#[I 0,I 0,I 0,I 0,I 0,.slice none 0 0,.slice none 0 0]) (cs:=#[I 0,I 0,I 0,I 0,I 0,.slice none 0 0,.slice none 0 0]) (h1:=one_allA rfl) (hl:=rfl) (hs1:=rfl) ?_
      refine s_y y_as<|s_nil<|q_then<|c_seq<|c_reg<|s_y y_mv<|s_kt (y_eql (p:=0) (q:=0)) (by omega)<|s_y y_mv<|s_y y_mv<|s_kt (y_eql (p:=390) (q:=390)) (by omega)<|s_y y_pk<|s_y y_mv<|s_y (y_lda (b:=b2) (cs:=#[I 3,I (pp 4 (dscal k9 lbRec):Nat),.slice x34.1.1 2 x34.1.2,I 2,I 4]) (hl:=rfl))<|s_y (y_lda (b:=b26) (cs:=#[I 3,I 25,I 4,I (pp 4 77:Nat),I 10,.slice x106.aa 2 x106.ac,.slice x160.1 1 x160.2]) (hl:=rfl))<|s_pure (fun w' hw=>(by have h9:=State_ok w' sP (sC3 x95.ba x106.ba x95.bc x106.bc) 99 x34.1.1 x106.aa x160.1 x34.1.2 x106.ac x160.2 (rdR (.tail _ (.tail _ (.tail _ (.tail _ (.tail _ (.tail _ (.tail _ (.tail _ (.tail _ (.tail _ (.tail _ (.tail _ (.tail _ (.tail _ (.tail _ (.tail _ (.tail _ (.tail _ (.tail _ (.tail _ (.head _))))))))))))))))))))) w' hw) (rdR (.tail _ (.tail _ (.tail _ (.tail _ (.tail _ (.tail _ (.tail _ (.tail _ (.tail _ (.head _)))))))))) w' hw) (rdR (.tail _ (.tail _ (.tail _ (.head _)))) w' hw) (show 2 ≤ 1000000 by decide) (show 2 ≤ 1000000 by decide) (show 1 ≤ 1000000 by decide); rw [sC3_st] at h9; exact h9))<|s_kt (y_eql (p:=392) (q:=392)) (by trivial)<|s_y y_pk<|s_y y_mv<|s_y (y_lda (b:=b2) (cs:=#[I 3,I (pp 4 (dscal k9 lbRec):Nat),.slice x34.1.1 2 x34.1.2,I 2,I 4]) (hl:=rfl))<|s_y (y_bcas (cs:=[I 0,I 0,I 0,I 0,I 0,.slice none 0 0,.slice none 0 0]))<|s_pure (fun w' hw=>(by have h9:=State_ok w' sP zC 1 x34.1.1 none none x34.1.2 0 0 (rdR (.tail _ (.tail _ (.tail _ (.tail _ (.tail _ (.tail _ (.tail _ (.tail _ (.tail _ (.tail _ (.tail _ (.tail _ (.tail _ (.tail _ (.tail _ (.tail _ (.tail _ (.tail _ (.tail _ (.tail _ (.head _))))))))))))))))))))) w' hw) (Rd.nil _ _) (Rd.nil _ _) (show 2 ≤ 1000000 by decide) (show 0 ≤ 1000000 by decide) (show 0 ≤ 1000000 by decide); rw [zC_st] at h9; exact h9))<|s_kt (y_eql (p:=390) (q:=390)) (by trivial)<|s_y y_pk<|s_y y_mv<|s_y (y_lda (b:=b2) (cs:=#[I 3,I (pp 4 (dscal k9 lbRec):Nat),.slice x34.1.1 2 x34.1.2,I 2,I 4]) (hl:=rfl))<|s_y (y_lda (b:=b14) (cs:=#[I 3,I 25,I 4,I (pp 4 77:Nat),I 10,.slice none 0 0,.slice none 0 0]) (hl:=rfl))<|s_pure (fun w' hw=>(by have h9:=State_ok w' sP sC 10 x34.1.1 none none x34.1.2 0 0 (rdR (.tail _ (.tail _ (.tail _ (.tail _ (.tail _ (.tail _ (.tail _ (.tail _ (.tail _ (.tail _ (.tail _ (.tail _ (.tail _ (.tail _ (.tail _ (.tail _ (.tail _ (.tail _ (.tail _ (.tail _ (.head _))))))))))))))))))))) w' hw) (Rd.nil _ _) (Rd.nil _ _) (show 2 ≤ 1000000 by decide) (show 0 ≤ 1000000 by decide) (show 0 ≤ 1000000 by decide); rw [sC_early] at h9; exact h9))<|s_kt (y_eql (p:=391) (q:=391)) (by trivial)<|s_y y_pk<|s_y y_as<|s_nil<|q_then<|c_ret<|?_
      exact ret1 Tryz.results9 rv_t fun w' hw=>⟨rfl,hw.sub (List.nil_sublist _)⟩
    · refine s_alloc fun b18=>r_K<|r_W 7 rfl<|s_gives (fun w' hw=>Approve_y w' sP (sC1 x95.ba x95.bc) x34.1.1 x95.aa none x34.1.2 x95.ac 0 6 (pp 4 55:Nat) k2 (1 + 1) (hor sco (1 + 1)) 55 (hg.st hw) k2_l (rdR (.tail _ (.tail _ (.tail _ (.tail _ (.tail _ (.tail _ (.tail _ (.tail _ (.tail _ (.tail _ (.head _))))))))))) w' hw) (show 2 ≤ 1000000 by decide) (rdR (.tail _ (.head _)) w' hw) hka95 (Rd.nil _ _) (show 1 ≤ 1000000 by decide) (show 0 ≤ 1000000 by decide) (blg_r5 sP_ok (sC1_ok x95.ba x95.bc)) (by unfold R64; omega) sP_ok (sA2_rt x95.ba x95.bc) (by decide) (by decide) rfl) fun (x106:AX) _=>?_
      refine s_row (fun hka106 _=>s_row (fun hkb106 _=>?_) (hm:=.tail _ (.head _))) (hm:=.head _)
      refine r_K<|r_y 8 rfl y_mv<|r_y 9 rfl y_ext<|r_y 10 rfl y_ext<|r_W 12 rfl<|s_sta (b:=b18) (vs:=#[I 3,I 25,I 4,I (pp 4 77:Nat),I 10,.slice x106.aa 2 x106.ac,.slice none 0 0]) (cs:=#[I 0,I 0,I 0,I 0,I 0,.slice none 0 0,.slice none 0 0]) (h1:=one_allA rfl) (hl:=rfl) (hs1:=rfl) ?_
      refine r_K<|r_y 13 rfl y_as<|r_E<|q_then<|c_seq<|c_reg<|s_y (y_lda (b:=b2) (cs:=#[I 3,I (pp 4 (dscal k9 lbRec):Nat),.slice x34.1.1 2 x34.1.2,I 2,I 4]) (hl:=rfl))<|s_y (y_lda (b:=b18) (cs:=#[I 3,I 25,I 4,I (pp 4 77:Nat),I 10,.slice x106.aa 2 x106.ac,.slice none 0 0]) (hl:=rfl))<|s_pure (fun w' hw=>(by have h9:=Finish_yes w' sP (sC2 x95.ba x106.ba x95.bc x106.bc) 14 1 x34.1.1 x106.aa none x34.1.2 x106.ac 0 ⟨(rdR (.tail _ (.tail _ (.tail _ (.tail _ (.tail _ (.tail _ (.tail _ (.tail _ (.tail _ (.tail _ (.tail _ (.tail _ (.head _))))))))))))) w' hw),(rdR (.head _) w' hw),(Rd.nil _ _),(show 2 ≤ 1000000 by decide),(show 2 ≤ 1000000 by decide),(show 0 ≤ 1000000 by decide),hka106,(blg_r5 sP_ok (sC2_ok x95.ba x106.ba x95.bc x106.bc)),(cap_snoc (cap_snoc (fun _ h=>by cases h) hkb95) hkb106),(ApOk.snoc (ApOk.snoc (ApOk.nil' w') (rdR (.tail _ (.tail _ (.tail _ (.tail _ (.head _))))) w' hw) (Nat.le_trans (Nat.le_of_eq (wtx_length _ _ _ _ _)) (by decide))) (rdR (.tail _ (.head _)) w' hw) (Nat.le_trans (Nat.le_of_eq (wtx_length _ _ _ _ _)) (by decide))),(hg.st hw)⟩ 77 (sC2_fin x95.ba x106.ba x95.bc x106.bc).1; rw [(sC2_fin x95.ba x106.ba x95.bc x106.bc).2] at h9; exact h9))<|s_y y_mv<|s_y y_ext<|s_y y_ext<|s_alloc fun b20=>s_sta (b:=b20) (vs:=#[I 3,I (((sC2 x95.ba x106.ba x95.bc x106.bc)).d),I (((sC2 x95.ba x106.ba x95.bc x106.bc)).v),I (((sC2 x95.ba x106.ba x95.bc x106.bc)).l),I 1,I (-1),I (sgR sR (cmsg [3,((sC2 x95.ba x106.ba x95.bc x106.bc)).d,((sC2 x95.ba x106.ba x95.bc x106.bc)).v,((sC2 x95.ba x106.ba x95.bc x106.bc)).l,1,-1]):Nat),I (sgS sR (cmsg [3,((sC2 x95.ba x106.ba x95.bc x106.bc)).d,((sC2 x95.ba x106.ba x95.bc x106.bc)).v,((sC2 x95.ba x106.ba x95.bc x106.bc)).l,1,-1]):Nat)]) (cs:=#[I 0,I 0,I 0,I 0,I 0,I 0,I 0,I 0]) (h1:=by intro u hu; simp at hu; rcases hu with rfl | rfl | rfl | rfl | rfl | rfl | rfl | rfl <;> rfl) (hl:=(show (8:Nat) = 8 from rfl)) (hs1:=rfl) ?_
      refine s_y y_as<|s_nil<|q_then<|c_seq<|c_reg<|s_y y_mv<|s_y y_mv<|s_pure (fun w' hw=>(by have h9:=l_secret_ok w' x34.2.1 x34.2.2 (sN (spl sco 2)) (rdR (.tail _ (.tail _ (.tail _ (.tail _ (.tail _ (.tail _ (.tail _ (.tail _ (.tail _ (.tail _ (.tail _ (.tail _ (.head _))))))))))))) w' hw) (by rw [sN_length,spl_length]; decide); rw [(join_spl (cs:=sco) (m:=2) (by decide) (by decide) (by decide)).2,sco_0] at h9; exact h9))<|s_pure (fun w' hw=>Certify3_yes w' 25 4 (pp 4 77:Nat) 1 sR ⟨by decide,by decide,chk_four,chk_pub _⟩ (hg.st hw).1 sR_b.1 sR_b.2)<|s_y y_mv<|s_y y_ext<|s_y y_ext<|s_alloc fun b22=>s_sta (b:=b22) (vs:=#[I 3,I 25,I 4,I (pp 4 77:Nat),I 1,I (-1),I (sgR sR (cmsg [3,25,4,(pp 4 77:Nat),1,-1]):Nat),I (sgS sR (cmsg [3,25,4,(pp 4 77:Nat),1,-1]):Nat)]) (cs:=#[I 0,I 0,I 0,I 0,I 0,I 0,I 0,I 0]) (h1:=by intro u hu; simp at hu; rcases hu with rfl | rfl | rfl | rfl | rfl | rfl | rfl | rfl <;> rfl) (hl:=(show (8:Nat) = 8 from rfl)) (hs1:=rfl) ?_
      refine s_y y_as<|s_nil<|q_then<|c_seq<|c_reg<|s_y (y_lda (b:=b2) (cs:=#[I 3,I (pp 4 (dscal k9 lbRec):Nat),.slice x34.1.1 2 x34.1.2,I 2,I 4]) (hl:=rfl))<|s_y (y_lda (b:=b18) (cs:=#[I 3,I 25,I 4,I (pp 4 77:Nat),I 10,.slice x106.aa 2 x106.ac,.slice none 0 0]) (hl:=rfl))<|s_pure (fun w' hw=>(by have h9:=Finish_st w' sP (sC2 x95.ba x106.ba x95.bc x106.bc) 13 1 x34.1.1 x106.aa none x34.1.2 x106.ac 0 (rdR (.tail _ (.tail _ (.tail _ (.tail _ (.tail _ (.tail _ (.tail _ (.tail _ (.tail _ (.tail _ (.tail _ (.tail _ (.tail _ (.tail _ (.head _))))))))))))))) w' hw) (rdR (.tail _ (.tail _ (.head _))) w' hw) (Rd.nil _ _) (show 2 ≤ 1000000 by decide) (show 2 ≤ 1000000 by decide) (show 0 ≤ 1000000 by decide) 77 (by rw [sC2_early]; decide); rw [sC2_early] at h9; exact h9))<|s_y y_mv<|s_y y_ext<|s_y y_ext<|s_alloc fun b24=>s_sta (b:=b24) (vs:=#[I 0,I 0,I 0,I 0,I 0,I 0,I 0,I 0]) (cs:=#[I 0,I 0,I 0,I 0,I 0,I 0,I 0,I 0]) (h1:=one_allA rfl) (hl:=(show (8:Nat) = 8 from rfl)) (hs1:=rfl) ?_
      refine s_y y_as<|s_nil<|q_then<|c_seq<|c_seq<|c_reg<|s_y y_mv<|s_nf (y_neq (p:=0) (q:=0)) (by omega)<|s_y y_mv<|s_y y_mv<|s_nf (y_neq (p:=0) (q:=0)) (by omega)<|s_y y_pk<|s_y y_mv<|s_y y_mv<|s_nf (y_neq (p:=0) (q:=0)) (by omega)<|s_y y_pk<|s_y y_mv<|s_y y_mv<|s_nf (y_neq (p:=0) (q:=0)) (by omega)<|s_y y_pk<|s_y y_mv<|s_y y_mv<|s_nf (y_neq (p:=0) (q:=0)) (by omega)<|s_y y_pk<|s_y y_mv<|s_y y_mv<|s_nf (y_neq (p:=391) (q:=391)) (by trivial)<|s_y y_pk<|s_y y_mv<|s_y (y_lda (b:=b20) (cs:=#[I 3,I (((sC2 x95.ba x106.ba x95.bc x106.bc)).d),I (((sC2 x95.ba x106.ba x95.bc x106.bc)).v),I (((sC2 x95.ba x106.ba x95.bc x106.bc)).l),I 1,I (-1),I (sgR sR (cmsg [3,((sC2 x95.ba x106.ba x95.bc x106.bc)).d,((sC2 x95.ba x106.ba x95.bc x106.bc)).v,((sC2 x95.ba x106.ba x95.bc x106.bc)).l,1,-1]):Nat),I (sgS sR (cmsg [3,((sC2 x95.ba x106.ba x95.bc x106.bc)).d,((sC2 x95.ba x106.ba x95.bc x106.bc)).v,((sC2 x95.ba x106.ba x95.bc x106.bc)).l,1,-1]):Nat)]) (hl:=rfl))<|s_y (y_lda (b:=b22) (cs:=#[I 3,I 25,I 4,I (pp 4 77:Nat),I 1,I (-1),I (sgR sR (cmsg [3,25,4,(pp 4 77:Nat),1,-1]):Nat),I (sgS sR (cmsg [3,25,4,(pp 4 77:Nat),1,-1]):Nat)]) (hl:=rfl))<|s_y y_neqCt<|s_y y_pk<|s_nil<|q_then<|c_f<|c_skip<|q_then<|c_seq<|c_reg<|s_y (y_lda (b:=b18) (cs:=#[I 3,I 25,I 4,I (pp 4 77:Nat),I 10,.slice x106.aa 2 x106.ac,.slice none 0 0]) (hl:=rfl))<|s_y y_mv<|s_y (y_blst (cs:=[I 26,I (pp 4 55:Nat),I 4,I 1,.bool false]))<|s_bslr (cs:=[I 26,I (pp 4 55:Nat),I 4,I 1,.bool false]) fun b159=>s_gives (fun w' hw=>Object_y w' (sC2 x95.ba x106.ba x95.bc x106.bc) x106.aa none (some ⟨b159,0,none⟩) x106.ac 0 1 [⟨26,(pp 4 55:Nat),4,1,false⟩] 26 13 55 (hg.st hw) (rdR (.head _) w' hw) (by decide) (Rd.nil _ _) (Nat.le_refl _) (show 0 ≤ 1000000 by decide) 0 _ _ _ (ls26 26 (by decide)) rfl (sC2_ob x95.ba x106.ba x95.bc x106.bc) (by decide) (by decide) rfl (blg_r5 sP_ok (sC2_ok x95.ba x106.ba x95.bc x106.bc)) (by unfold R64; omega) (by unfold R64; omega)) fun (x160:Option Addr × Nat) _=>?_
      refine s_row (fun hkv160 _=>?_) (hm:=.head _)
      refine s_y y_mv<|s_y y_ext<|s_y y_ext<|s_alloc fun b26=>s_sta (b:=b26) (vs:=#[I 3,I 25,I 4,I (pp 4 77:Nat),I 10,.slice x106.aa 2 x106.ac,.slice x160.1 1 x160.2]) (cs:=#[I 0,I 0,I 0,I 0,I 0,.slice none 0 0,.slice none 0 0]) (h1:=one_allA rfl) (hl:=rfl) (hs1:=rfl) ?_
      refine s_y y_as<|s_nil<|q_then<|c_seq<|c_reg<|s_y (y_lda (b:=b18) (cs:=#[I 3,I 25,I 4,I (pp 4 77:Nat),I 10,.slice x106.aa 2 x106.ac,.slice none 0 0]) (hl:=rfl))<|s_y y_mv<|s_y (y_blst (cs:=[I 40,I (pp 4 55:Nat),I 4,I 1,.bool false]))<|s_bslr (cs:=[I 40,I (pp 4 55:Nat),I 4,I 1,.bool false]) fun b167=>s_pure (fun w' hw=>Object_o2b w' (sC2 x95.ba x106.ba x95.bc x106.bc) x106.aa none (some ⟨b167,0,none⟩) x106.ac 0 1 [⟨40,(pp 4 55:Nat),4,1,false⟩] 40 13 55 (hg.st hw) (rdR (.head _) w' hw) (by decide) (Rd.nil _ _) (show 0 ≤ 1000000 by decide) 0 _ _ _ (ls26 40 (by decide)) rfl (sC2_no x95.ba x106.ba x95.bc x106.bc))<|s_y y_mv<|s_y y_ext<|s_y y_ext<|s_alloc fun b28=>s_sta (b:=b28) (vs:=#[I 0,I 0,I 0,I 0,I 0,.slice none 0 0,.slice none 0 0]) (cs:=#[I 0,I 0,I 0,I 0,I 0,.slice none 0 0,.slice none 0 0]) (h1:=one_allA rfl) (hl:=rfl) (hs1:=rfl) ?_
      refine s_y y_as<|s_nil<|q_then<|c_seq<|c_reg<|s_y y_mv<|s_kt (y_eql (p:=0) (q:=0)) (by omega)<|s_y y_mv<|s_y y_mv<|s_kt (y_eql (p:=390) (q:=390)) (by omega)<|s_y y_pk<|s_y y_mv<|s_y (y_lda (b:=b2) (cs:=#[I 3,I (pp 4 (dscal k9 lbRec):Nat),.slice x34.1.1 2 x34.1.2,I 2,I 4]) (hl:=rfl))<|s_y (y_lda (b:=b26) (cs:=#[I 3,I 25,I 4,I (pp 4 77:Nat),I 10,.slice x106.aa 2 x106.ac,.slice x160.1 1 x160.2]) (hl:=rfl))<|s_pure (fun w' hw=>(by have h9:=State_ok w' sP (sC3 x95.ba x106.ba x95.bc x106.bc) 99 x34.1.1 x106.aa x160.1 x34.1.2 x106.ac x160.2 (rdR (.tail _ (.tail _ (.tail _ (.tail _ (.tail _ (.tail _ (.tail _ (.tail _ (.tail _ (.tail _ (.tail _ (.tail _ (.tail _ (.tail _ (.tail _ (.tail _ (.tail _ (.tail _ (.tail _ (.tail _ (.head _))))))))))))))))))))) w' hw) (rdR (.tail _ (.tail _ (.tail _ (.tail _ (.tail _ (.tail _ (.tail _ (.tail _ (.head _))))))))) w' hw) (rdR (.tail _ (.tail _ (.tail _ (.head _)))) w' hw) (show 2 ≤ 1000000 by decide) (show 2 ≤ 1000000 by decide) (show 1 ≤ 1000000 by decide); rw [sC3_st] at h9; exact h9))<|s_kt (y_eql (p:=392) (q:=392)) (by trivial)<|s_y y_pk<|s_y y_mv<|s_y (y_lda (b:=b2) (cs:=#[I 3,I (pp 4 (dscal k9 lbRec):Nat),.slice x34.1.1 2 x34.1.2,I 2,I 4]) (hl:=rfl))<|s_y (y_bcas (cs:=[I 0,I 0,I 0,I 0,I 0,.slice none 0 0,.slice none 0 0]))<|s_pure (fun w' hw=>(by have h9:=State_ok w' sP zC 1 x34.1.1 none none x34.1.2 0 0 (rdR (.tail _ (.tail _ (.tail _ (.tail _ (.tail _ (.tail _ (.tail _ (.tail _ (.tail _ (.tail _ (.tail _ (.tail _ (.tail _ (.tail _ (.tail _ (.tail _ (.tail _ (.tail _ (.tail _ (.tail _ (.head _))))))))))))))))))))) w' hw) (Rd.nil _ _) (Rd.nil _ _) (show 2 ≤ 1000000 by decide) (show 0 ≤ 1000000 by decide) (show 0 ≤ 1000000 by decide); rw [zC_st] at h9; exact h9))<|s_kt (y_eql (p:=390) (q:=390)) (by trivial)<|s_y y_pk<|s_y y_mv<|s_y (y_lda (b:=b2) (cs:=#[I 3,I (pp 4 (dscal k9 lbRec):Nat),.slice x34.1.1 2 x34.1.2,I 2,I 4]) (hl:=rfl))<|s_y (y_lda (b:=b14) (cs:=#[I 3,I 25,I 4,I (pp 4 77:Nat),I 10,.slice none 0 0,.slice none 0 0]) (hl:=rfl))<|s_pure (fun w' hw=>(by have h9:=State_ok w' sP sC 10 x34.1.1 none none x34.1.2 0 0 (rdR (.tail _ (.tail _ (.tail _ (.tail _ (.tail _ (.tail _ (.tail _ (.tail _ (.tail _ (.tail _ (.tail _ (.tail _ (.tail _ (.tail _ (.tail _ (.tail _ (.tail _ (.tail _ (.tail _ (.tail _ (.head _))))))))))))))))))))) w' hw) (Rd.nil _ _) (Rd.nil _ _) (show 2 ≤ 1000000 by decide) (show 0 ≤ 1000000 by decide) (show 0 ≤ 1000000 by decide); rw [sC_early] at h9; exact h9))<|s_kt (y_eql (p:=391) (q:=391)) (by trivial)<|s_y y_pk<|s_y y_as<|s_nil<|q_then<|c_ret<|?_
      exact ret1 Tryz.results9 rv_t fun w' hw=>⟨rfl,hw.sub (List.nil_sublist _)⟩
end Go.Proofs.YtojohglifijnnaaGreatDoor
end
section
namespace Rst
open Go Eng
end Rst
namespace Go.Proofs.YtojohglifijnnaaGreatDoor
open Go Eng Gf Sha Sig Wr Cod Cha Rst
set_option maxRecDepth 100000
set_option linter.all false
end Go.Proofs.YtojohglifijnnaaGreatDoor
end
section
namespace Go.Proofs.YtojohglifijnnaaGreatDoor
open Go Eng Gf Sha Sig Wr Cod Cha Rst
set_option maxRecDepth 100000
set_option linter.all false
end Go.Proofs.YtojohglifijnnaaGreatDoor
end
section
namespace Rst
open Go Eng Gf Sha Sig Wr Cod Cha Go.Proofs.YtojohglifijnnaaGreatDoor
/-- what is known of a person and a case among the arguments -/
structure ArgP (w:World) (p:Pn) (ga:Option Addr) (gc:Nat):Prop where
  r:Rd w ga (is p.gs)
  c:p.gs.length ≤ gc
structure ArgC (w:World) (c:Cs) (aa va:Option Addr) (ac vc:Nat):Prop where
  ra:Rd w aa (apc c.ap)
  ac':c.ap.length ≤ ac
  am:ac ≤ 9223372036854775807
  rv:Rd w va (vtc c.vt)
  vc':c.vt.length ≤ vc
  b:∀ z ∈ c.ap,Rd w z.a (bs z.q) ∧ z.q.length ≤ z.c
  r5:R5 c
theorem ArgC.ok {w:World} {p:Pn} {c:Cs} {aa va:Option Addr} {ac vc:Nat} (h:ArgC w c aa va ac vc) (hf:Few p c):ApOk w c.ap:=fun z hz=>⟨(h.b z hz).1,Nat.le_trans (hf.a z hz) (by decide)⟩
theorem ArgC.cp {w:World} {c:Cs} {aa va:Option Addr} {ac vc:Nat} (h:ArgC w c aa va ac vc):∀ z ∈ c.ap,z.q.length ≤ z.c:=fun z hz=>(h.b z hz).2
end Rst
namespace Go.Proofs.YtojohglifijnnaaGreatDoor
open Go Eng Gf Sha Sig Wr Cod Cha Rst
set_option linter.all false
section
variable (w:World) (hg:LC w) (p:Pn) (c:Cs) (ga aa va:Option Addr) (gc ac vc:Nat) (hP:ArgP w p ga gc) (hC:ArgC w c aa va ac vc)
include hg hP hC
end
end Go.Proofs.YtojohglifijnnaaGreatDoor
end
section
namespace Eng
open Go Go.RowKit Go.ChangeShapes Go.WideShapes Go.ChangeAt
theorem St.kept {W w:World} (h:St W [] w []) (may:MemPlace → Prop):W.keptBut w may:=by
  refine ⟨h.os,h.output,fun i hi=>?_⟩
  rw [h.old i hi (by simp)]
  cases ho:W.heap[i]? with
  | none=>rfl
  | some o=>cases o <;> simp
theorem trodAll_below {H:Type} {enc:TypeId × Value → H} {P:Program} (hl:laidOutB P = true) {W w:World} (hb:Below W.heap.size W w) :
    ∀ {ts:List TypeId} {vs:List Value} {ds:List (DataW H)} {ps:List MemPlace},(ts.all fun t=>P.readableRec t && decide (t < P.types.size)) = true → (∀ x ∈ ps,x.block < W.heap.size) →
      DataW.TrodAll enc P W 0 (fun _=>true) true ts vs ds ps → DataW.TrodAll enc P w 0 (fun b=>decide (b < W.heap.size)) true ts vs ds ps
  | [],[],[],_,_,_,h=>h
  | t :: ts,v :: vs,d :: ds,ps,ht,hlt,h=>by
    obtain ⟨p,q,h1,h2,rfl⟩:=h
    simp only [List.all_cons,Bool.and_eq_true,decide_eq_true_eq] at ht
    exact ⟨p,q,Below.trod hl ht.1.1 ht.1.2 h1 hb (fun x hx=>hlt x (List.mem_append_left _ hx)),trodAll_below hl hb (by simpa using ht.2) (fun x hx=>hlt x (List.mem_append_right _ hx)) h2,rfl⟩
  | [],_ :: _,_,_,_,_,h=>h.elim
  | _ :: _,[],_,_,_,_,h=>h.elim
  | [],[],_ :: _,_,_,_,h=>h.elim
  | _ :: _,_ :: _,[],_,_,_,h=>h.elim
theorem post_true {H:Type} {enc:TypeId × Value → H} {P:Program} {f:Func} {s:ChangeSpec} {W w:World} {args:Array Value} {ds gs:List (DataW H)} {before:List MemPlace} {tb:TypeId}
    (hl:laidOutB P = true) (ht:(f.params.toList.all fun t=>P.readableRec t && decide (t < P.types.size)) = true) (hr:f.resultTypes = #[tb]) (hb:P.underlying tb = some .bool) (hv:s.vars = [])
    (hfn:s.fn H (ds ++ gs) = { results:=[.lit (.bool true)],args:=ds })
    (hW:DataW.Whole enc P f.params.toList s.vars false W args.toList ds gs before) (hs:St W [] w []):s.post enc P f false true false false W args (.bool true) w:=by
  have hlt:∀ x ∈ before,x.block < W.heap.size:=fun x hx=>hW.lt x hx
  have hW':=hW
  obtain ⟨p,q,hA,hV,rfl,hfz,hnd⟩:=hW
  rw [hv] at hV
  obtain ⟨rfl,rfl⟩:=trodVars_none hV
  refine ⟨ds,[],p ++ [],[],p,[],hW',?_,?_,?_,hs.kept _,fun h=>by cases h⟩
  · rw [hfn,hr]
    exact trodAll_cons_mk (shut_bool hb _) trodAll_mk0
  · rw [hfn]
    exact trodAll_below hl hs.below ht (fun x hx=>hlt x (List.mem_append_left _ hx)) hA
  · rw [hfn,hv]
    exact rfl
theorem law_lifted {H:Type} {enc:TypeId × Value → H} {C:Checked} {os:Os} {f:FuncId} {fn:Func} {s:ChangeSpec} {X:World → Array Value → Prop} {tb:TypeId}
    (hX:∀ (w w':World) (args:Array Value),w.heap = w'.heap → X w args → X w' args)
    (own:ownKnob C.prog.godebug = none) (started:os.Started) (noInit:C.prog.inits.idxOf? f = none) (hfn:C.prog.funcs[f]? = some fn)
    (witness:∃ (w:World) (tape:Tape) (i:Input),w.os = os ∧ (w.forCall tape i).Shaped C.prog ∧ i.vars = [] ∧ Input.okWide C.prog (w.forCall tape i) .any w.heap.size f i ∧
      ((s.pre enc C.prog fn [] false (w.forCall tape i).memory i.args ∧ X (w.forCall tape i).memory i.args) ∧ sizedMet enc C.prog fn (OpenSpec.ofChange s) false (w.forCall tape i).memory i.args) ∧ ({}:Assume).holds C.prog (lone (Frame.enter C.prog f i.args .normal) [] (w.forCall tape i)))
    (hl:laidOutB C.prog = true) (ht:(fn.params.toList.all fun t=>C.prog.readableRec t && decide (t < C.prog.types.size)) = true) (hr:fn.resultTypes = #[tb]) (hb:C.prog.underlying tb = some .bool) (hv:s.vars = [])
    (hsp:∀ ds:List (DataW H),ds.length = fn.params.size → s.fn H ds = { results:=[.lit (.bool true)],args:=ds })
    (walk:∀ (W:World) (base:Nat) (args:Array Value) (ds:List (DataW H)) (p:List MemPlace),
      (∀ (j:Nat) t v,fn.params[j]? = some t → args[j]? = some v → Value.okWide C.prog W .any base t v) →
      DataW.TrodAll enc C.prog W 0 (fun _=>true) true fn.params.toList args.toList ds p →
      (DataW.weightsEach C.prog fn.params.toList ds).all (· ≤ reachBytes) = true → X W args →
      Calls C.prog f args W fun e w=>e = .returned (.bool true) ∧ St W [] w []) :
    ReturnsInHanded {} C os f .any (fun w args=>(s.pre enc C.prog fn [] false w args ∧ X w args) ∧ sizedMet enc C.prog fn (OpenSpec.ofChange s) false w args) (s.post enc C.prog fn false true false false):=by
  refine returnsInHanded_of_change_and (C:=C) (X:=X) hX own started noInit hfn witness ?_
  intro W base args ds gs before hval hW _ hsz hx _
  have hW':=hW
  obtain ⟨p,q,hA,hV,hpq,hfz,hnd⟩:=hW
  have hV':=hV
  rw [hv] at hV'
  obtain ⟨rfl,rfl⟩:=trodVars_none hV'
  have hvt:s.plain.varTypes C.prog = []:=by unfold DataSpec.varTypes ChangeSpec.plain; rw [hv]; rfl
  rw [hvt,List.append_nil,List.append_nil] at hsz
  refine (walk W base args ds p hval hA hsz hx).mono fun e w ⟨he,hs⟩=>⟨_,he,?_⟩
  have hlen:ds.length = fn.params.size:=by
    have key:∀ {ts:List TypeId} {vs:List Value} {ds:List (DataW H)} {ps:List MemPlace},DataW.TrodAll enc C.prog W 0 (fun _=>true) true ts vs ds ps → ds.length = ts.length:=by
      intro ts
      induction ts with
      | nil=>intro vs ds ps h; cases vs <;> cases ds <;> first | rfl | exact h.elim
      | cons t ts ih =>
        intro vs ds ps h
        cases vs with
        | nil=>exact h.elim
        | cons v vs =>
          cases ds with
          | nil=>exact h.elim
          | cons d ds =>
            obtain ⟨_,_,_,h2,_⟩:=h
            simp [ih h2]
    have:=key hA
    simpa using this
  exact post_true hl ht hr hb hv (by rw [List.append_nil]; exact hsp ds hlen) hW' hs
theorem var_heap {P:Program} {w:World} {n:String} {g:Nat} {cs:Array Value} (hg:P.globalNamed n = some g) (h:w.var? P n = some cs):∃ t fz,w.heap[g]? = some (.cells cs t fz):=by
  simp only [World.var?,hg,Option.bind_some] at h
  split at h
  · rename_i c t fz hh
    cases h
    exact ⟨t,fz,hh⟩
  · cases h
end Eng
namespace Eng
open Go Go.RowKit Go.ChangeShapes Go.WideShapes Go.ChangeAt
section
variable {H:Type} {enc:TypeId × Value → H} {P:Program} {W:World} {r:Reach} {b0 t e:Nat} {v:Value} {d:DataW H} {ps:List MemPlace}
theorem op_int (ht:P.underlying t = some (.int .i64)) (hval:Value.okWide P W r b0 t v) (hd:DataW.Trod enc P W 0 (fun _=>true) true t v d ps):∃ a,v = I a ∧ R64 a:=by
  obtain ⟨a0,rfl,rfl,rfl,w0⟩:=open_int ht hval hd
  exact ⟨a0,rfl,bounds_i64 w0⟩
theorem op_byte (ht:P.underlying t = some (.int .u8)) (hval:Value.okWide P W r b0 t v) (hd:DataW.Trod enc P W 0 (fun _=>true) true t v d ps):∃ y:UInt8,v = B y:=by
  obtain ⟨a0,rfl,rfl,rfl,w0⟩:=open_int ht hval hd
  have h:=bounds_u8 w0
  exact ⟨UInt8.ofNat a0.toNat,by rw [B,UInt8.toNat_ofNat']; congr 1; omega⟩
end
end Eng
namespace Eng
open Go Go.RowKit Go.ChangeShapes Go.WideShapes Go.ChangeAt
section
variable {H:Type} {enc:TypeId × Value → H} {P:Program} {W:World} {r:Reach} {b0 t e:Nat} {v:Value} {d:DataW H} {ps:List MemPlace}
def byteOf:Option Value → UInt8
  | some (Value.int .u8 z)=>UInt8.ofNat z.toNat
  | _=>0
theorem byteOf_b (z:UInt8):byteOf (some (B z)) = z:=by
  show UInt8.ofNat ((z.toNat:Int)).toNat = z
  rw [Int.toNat_natCast,UInt8.ofNat_toNat]
theorem op_key {m:Nat} (ht:P.underlying t = some (.array m e)) (he:P.underlying e = some (.int .u8)) (hce:P.cellsOf e = 1) (hct:P.cellsOf t = m)
    (hval:Value.okWide P W r b0 t v) (hd:DataW.Trod enc P W 0 (fun _=>true) true t v d ps):∃ q:List UInt8,v = .agg (bs q).toArray ∧ q.length = m:=by
  have h0:∃ cs,v = .agg cs ∧ cs.size = P.cellsOf t:=by
    simp only [Value.okWide,ht] at hval
    obtain ⟨cs,h1,h2,_⟩:=hval
    exact ⟨cs,h1,h2⟩
  obtain ⟨cs,rfl,hsz⟩:=h0
  rw [hct] at hsz
  obtain ⟨fuel,hf⟩:=hd
  obtain ⟨xs,n,_,_,_,hn,hel⟩:=DataW.trod_array ht hf
  have key:∀ i,i < m → ∃ z:UInt8,cs[i]? = some (B z):=fun i hi=>by
    have h1:=hel i hi
    have h2:i < xs.length:=by omega
    rw [List.getElem?_eq_getElem h2,hce,Nat.mul_one] at h1
    obtain ⟨z,e1,_,e3⟩:=DataW.trod_int he h1
    have h3:=bounds_u8 e3
    refine ⟨UInt8.ofNat z.toNat,?_⟩
    have h4:((cs.toList.drop i).take 1)[0]? = some (.int .u8 z):=by
      have:(Value.agg cs).cells.toList = cs.toList:=rfl
      rw [← this,e1]; rfl
    rw [List.getElem?_take,if_pos (by decide),List.getElem?_drop,Nat.add_zero,Array.getElem?_toList] at h4
    rw [h4,B,UInt8.toNat_ofNat']
    congr 2
    omega
  refine ⟨(List.range m).map fun i=>byteOf cs[i]?,?_,by simp⟩
  congr 1
  apply Array.ext'
  apply List.ext_getElem?
  intro i
  rw [Array.getElem?_toList]
  rcases Nat.lt_or_ge i m with hi | hi
  · obtain ⟨z,hz⟩:=key i hi
    rw [hz]
    simp only [bs,List.getElem?_map,List.getElem?_range hi,Option.map_some,hz,byteOf_b]
  · rw [Array.getElem?_eq_none (by omega)]
    simp [bs,hi]
theorem op_ints (ht:P.underlying t = some (.slice e)) (he:P.underlying e = some (.int .i64)) (hc:P.cellsOf e = 1)
    (hval:Value.okWide P W r b0 t v) (hd:DataW.Trod enc P W 0 (fun _=>true) true t v d ps):∃ a c q,v = .slice a (List.length q) c ∧ Rd W a (is q) ∧ (∀ n ∈ q,R64 n) ∧ q.length ≤ maxLen:=by
  obtain ⟨a0,len,cap,rfl⟩:=okWide_slice ht hval
  obtain ⟨fuel,hf⟩:=hd
  rcases open_ints ht he hc hf with ⟨hcs,hx⟩ | ⟨a,len',cap',zs,hcs,_,hl,hm,hz,hx,hcell,hwz⟩
  · simp only [Value.cells,List.cons.injEq,Value.slice.injEq,and_true] at hcs
    obtain ⟨rfl,rfl,rfl⟩:=hcs
    exact ⟨none,0,[],rfl,Rd.nil _ _,by simp,by simp⟩
  · simp only [Value.cells,List.cons.injEq,Value.slice.injEq,and_true] at hcs
    obtain ⟨rfl,rfl,rfl⟩:=hcs
    simp only [if_true] at hz
    have hlen:(zs.take len).length = len:=by simp [hz,hl]
    refine ⟨some a,cap,zs.take len,by rw [hlen],?_,fun n hn=>bounds_i64 (hwz n (List.mem_of_mem_take hn)),by omega⟩
    rcases Nat.eq_zero_or_pos len with h0 | h0
    · subst h0; exact Rd.nil _ _
    · obtain ⟨b,off,rfl,hc2⟩:=ints_at hcell (by omega)
      have key:∃ cs t fz,W.heap[b]? = some (.cells cs t fz):=by
        have h1:=hc2 0 (by omega)
        unfold World.cell? at h1
        cases hh:W.heap[b]? with
        | none=>simp [hh] at h1
        | some o =>
          cases o with
          | cells cs t fz=>exact ⟨cs,t,fz,rfl⟩
          | _=>simp [hh] at h1
      obtain ⟨cs,t,fz,hh⟩:=key
      refine .inr ⟨b,off,cs,t,fz,rfl,hh,fun i v hv=>?_⟩
      simp only [is,List.getElem?_map,Option.map_eq_some_iff] at hv
      obtain ⟨z,hz1,rfl⟩:=hv
      rw [List.getElem?_take] at hz1
      split at hz1
      · rename_i hi
        have h1:=hc2 i (by omega)
        rw [cell_of_row W b (off + i) cs t fz hh] at h1
        rw [h1,List.getD_eq_getElem?_getD,hz1,Option.getD_some]
      · cases hz1
end
theorem rd_listedW {P:Program} {w:World} {nm:String} {g t e n fuel:Nat} {cs:Array Value} {l:List UInt32} {p:List MemPlace} (hg:P.globalNamed nm = some g) (hv:w.var? P nm = some cs)
    (ht:P.underlying t = some (.array n e)) (he:P.underlying e = some (.int .u32)) (hce:P.cellsOf e = 1)
    (hd:DataW.trod (fun _=>()) P w 0 (fun _=>true) false fuel t cs.toList = some (.agg (l.map fun z=>.lit (.int .u32 z.toNat)),p)):Rd w (some ⟨g,0,none⟩) (ws l):=by
  obtain ⟨tt,fz,hh⟩:=var_heap hg hv
  obtain ⟨xs,m,rfl,hx,hlen,hn,hel⟩:=DataW.trod_array ht hd
  refine .inr ⟨g,0,cs,tt,fz,rfl,hh,fun i v hiv=>?_⟩
  simp only [Prod.mk.injEq,DataW.agg.injEq] at hx
  obtain ⟨z,hz,rfl⟩:∃ z,l[i]? = some z ∧ W32 z = v:=by simpa [ws,List.getElem?_map] using hiv
  have hi:i < n:=by
    have h1:i < l.length:=(List.getElem?_eq_some_iff.1 hz).1
    have h2:l.length = xs.length:=by have:=congrArg List.length hx.1; simpa using this
    omega
  have h1:=hel i hi
  have h2:(xs.map (·.1))[i]? = some (.lit (.int .u32 z.toNat)):=by rw [← hx.1]; simp [hz]
  rw [List.getElem?_map] at h2
  cases hxi:xs[i]? with
  | none=>rw [hxi] at h2; cases h2
  | some y =>
    rw [hxi] at h2 h1
    obtain ⟨z',e1,e2,_⟩:=DataW.trod_int he h1
    have:z' = (z.toNat:Int):=by
      rw [e2] at h2
      simpa using h2
    subst this
    rw [hce,Nat.mul_one] at e1
    have h3:(cs.toList.drop i)[0]? = some (W32 z):=by
      have:((cs.toList.drop i).take 1)[0]? = some (W32 z):=by rw [e1]; rfl
      simpa [List.getElem?_take] using this
    rw [List.getElem?_drop] at h3
    simpa using h3
end Eng
namespace Eng
open Go Go.RowKit Go.ChangeShapes Go.WideShapes Go.ChangeAt
theorem mapM_len {α β:Type} {f:α → Option β}:∀ {l:List α} {r:List β},l.mapM f = some r → r.length = l.length
  | [],r,h=>by simp at h; subst h; rfl
  | a :: l,r,h=>by
    rw [List.mapM_cons] at h
    cases h1:f a with
    | none=>simp [h1] at h
    | some b =>
      cases h2:l.mapM f with
      | none=>simp [h1,h2] at h
      | some r2=>simp [h1,h2] at h; subst h; simp [mapM_len h2]
theorem mapM_at {α β:Type} {f:α → Option β}:∀ {l:List α} {r:List β},l.mapM f = some r → ∀ (i:Nat) (a:α),l[i]? = some a → f a = r[i]?
  | [],r,h,i,a,ha=>by simp at ha
  | b :: l,r,h,i,a,ha=>by
    rw [List.mapM_cons] at h
    cases h1:f b with
    | none=>simp [h1] at h
    | some c =>
      cases h2:l.mapM f with
      | none=>simp [h1,h2] at h
      | some r2 =>
        simp [h1,h2] at h
        subst h
        cases i with
        | zero=>simp at ha; subst ha; simpa using h1
        | succ i=>simp at ha; simpa using mapM_at h2 i a ha
theorem cells_at {w:World} {base:Nat} {a:Addr} {n:Nat} {cs:List Value} (h:w.cells? base a n = some cs):cs.length = n ∧ ∀ i v,cs[i]? = some v → w.cell? (a.add i) = some v:=by
  unfold World.cells? at h
  split at h
  · have hl:=mapM_len h
    rw [List.length_range] at hl
    refine ⟨hl,fun i v hv=>?_⟩
    have hi:i < n:=by rw [← hl]; exact (List.getElem?_eq_some_iff.1 hv).1
    rw [← hv]
    exact mapM_at h i i (List.getElem?_range hi)
  · cases h
theorem flat_at {α:Type} {s:Nat}:∀ {L:List (List α)},(∀ y ∈ L,y.length = s) → ∀ (j:Nat) (v:α),L.flatten[j]? = some v → ∃ i k,i < L.length ∧ j = i * s + k ∧ (L.getD i [])[k]? = some v
  | [],_,j,v,h=>by simp at h
  | y :: L,hL,j,v,h=>by
    have hy:=hL y (.head _)
    rw [List.flatten_cons] at h
    rcases Nat.lt_or_ge j y.length with h1 | h1
    · rw [List.getElem?_append_left h1] at h
      exact ⟨0,j,by simp,by omega,by simpa using h⟩
    · rw [List.getElem?_append_right h1] at h
      obtain ⟨i,k,h2,h3,h4⟩:=flat_at (fun z hz=>hL z (.tail _ hz)) _ v h
      refine ⟨i + 1,k,by simp; omega,?_,by simpa using h4⟩
      rw [Nat.add_mul]; omega
theorem map_of {α β:Type} {f:β → α} {p:β → Prop}:∀ {L:List α},(∀ x ∈ L,∃ q,x = f q ∧ p q) → ∃ qs:List β,L = qs.map f ∧ ∀ q ∈ qs,p q
  | [],_=>⟨[],rfl,fun _ h=>by cases h⟩
  | x :: L,h=>by
    obtain ⟨q,rfl,hq⟩:=h x (.head _)
    obtain ⟨qs,rfl,hqs⟩:=map_of fun y hy=>h y (.tail _ hy)
    exact ⟨q :: qs,rfl,fun z hz=>(List.mem_cons.1 hz).elim (fun h=>by rw [h]; exact hq) (hqs z)⟩
section
variable {H:Type} {enc:TypeId × Value → H} {P:Program} {W:World} {b0:Nat} {t e fuel:Nat} {cs:List Value} {x:DataW H × List MemPlace}
theorem td_int (ht:P.underlying t = some (.int .i64)) (h:DataW.trod enc P W b0 (fun _=>true) true fuel t cs = some x):∃ n,cs = [I n] ∧ R64 n:=by
  obtain ⟨n,h1,_,h3⟩:=DataW.trod_int ht h
  exact ⟨n,h1,bounds_i64 h3⟩
theorem td_bool (ht:P.underlying t = some .bool) (h:DataW.trod enc P W b0 (fun _=>true) true fuel t cs = some x):∃ b,cs = [.bool b]:=by
  cases fuel with
  | zero=>simp [DataW.trod] at h
  | succ n =>
    unfold DataW.trod at h
    rw [ht] at h
    split at h <;> simp_all
theorem td_u8 (ht:P.underlying t = some (.int .u8)) (h:DataW.trod enc P W b0 (fun _=>true) true fuel t cs = some x):∃ z:UInt8,cs = [B z]:=by
  obtain ⟨n,h1,_,h3⟩:=DataW.trod_int ht h
  have h4:=bounds_u8 h3
  refine ⟨UInt8.ofNat n.toNat,?_⟩
  rw [h1,B,UInt8.toNat_ofNat']
  congr 2; omega
theorem td_slice (ht:P.underlying t = some (.slice e)) (h:DataW.trod enc P W b0 (fun _=>true) true fuel t cs = some x) :
    ∃ a L c,cs = [.slice a (List.length L) c] ∧ Rd W a (List.flatten L) ∧ L.length ≤ c ∧ c ≤ maxLen ∧ ∀ y ∈ L,y.length = P.cellsOf e ∧ ∃ n z,DataW.trod enc P W b0 (fun _=>true) true n e y = some z:=by
  rcases Go.Deep.open_slice ht h with ⟨rfl,_⟩ | ⟨a,len,cap,m,n,D,Pl,rfl,hb,hl,hm,hmm,_,hx⟩
  · exact ⟨none,[],0,rfl,Rd.nil _ _,by simp,by simp,fun y hy=>by cases hy⟩
  simp only [if_true] at hmm
  rw [hmm] at hx
  let L:List (List Value):=(List.range len).map fun i=>(W.cells? b0 (a.add (i * P.cellsOf e)) (P.cellsOf e)).getD []
  have hLl:L.length = len:=by simp [L]
  have hLi:∀ i,i < len → ∃ cs',L.getD i [] = cs' ∧ W.cells? b0 (a.add (i * P.cellsOf e)) (P.cellsOf e) = some cs' ∧ ∃ z,DataW.trod enc P W b0 (fun _=>true) true n e cs' = some z:=fun i hi=>by
    obtain ⟨cs',h1,h2⟩:=hx i (by omega)
    refine ⟨cs',?_,h1,_,h2⟩
    simp only [L]
    rw [List.getD_eq_getElem?_getD,List.getElem?_map,List.getElem?_range hi,Option.map_some,h1]; rfl
  have hLe:∀ y ∈ L,y.length = P.cellsOf e ∧ ∃ n z,DataW.trod enc P W b0 (fun _=>true) true n e y = some z:=fun y hy=>by
    obtain ⟨i,hi,rfl⟩:=List.getElem_of_mem hy
    obtain ⟨cs',h1,h2,h3⟩:=hLi i (by omega)
    rw [List.getD_eq_getElem?_getD,List.getElem?_eq_getElem hi,Option.getD_some] at h1
    rw [h1]
    exact ⟨(cells_at h2).1,n,h3⟩
  refine ⟨some a,L,cap,by rw [hLl],?_,by omega,hm,hLe⟩
  have hcell:∀ j v,L.flatten[j]? = some v → W.cell? (a.add j) = some v:=fun j v hv=>by
    obtain ⟨i,k,hi,rfl,hk⟩:=flat_at (fun y hy=>(hLe y hy).1) j v hv
    obtain ⟨cs',h1,h2,_⟩:=hLi i (by omega)
    rw [h1] at hk
    have:=(cells_at h2).2 k v hk
    rwa [Go.Deep.add_add] at this
  rcases Nat.eq_zero_or_pos L.flatten.length with h0 | h0
  · rw [List.eq_nil_of_length_eq_zero h0]; exact Rd.nil _ _
  obtain ⟨v0,hv0⟩:∃ v,L.flatten[0]? = some v:=⟨L.flatten[0],List.getElem?_eq_getElem h0⟩
  have hc0:=hcell 0 v0 hv0
  obtain ⟨b,off,spot⟩:=a
  have hspot:spot = none:=by simpa [Addr.add] using World.cell?_spot hc0
  subst hspot
  have key:∃ cs t fz,W.heap[b]? = some (.cells cs t fz):=by
    rw [addr_add] at hc0
    unfold World.cell? at hc0
    cases hh:W.heap[b]? with
    | none=>simp [hh] at hc0
    | some o =>
      cases o with
      | cells cs t fz=>exact ⟨cs,t,fz,rfl⟩
      | _=>simp [hh] at hc0
  obtain ⟨cs,t,fz,hh⟩:=key
  refine .inr ⟨b,off,cs,t,fz,rfl,hh,fun i v hv=>?_⟩
  have h1:=hcell i v hv
  rw [addr_add,cell_of_row W b (off + i) cs t fz hh] at h1
  exact h1
end
section
variable {H:Type} {enc:TypeId × Value → H} {P:Program} {W:World} {r:Reach} {b0 t e:Nat} {v:Value} {d:DataW H} {ps:List MemPlace}
end
end Eng
end
section
namespace Go.Proofs.YtojohglifijnnaaGreatDoor
open Go Eng Sha Cha Rst Go.ChangeShapes Go.WideShapes Go.ChangeAt Go.RowKit
theorem own39:ownKnob Tryz.prog.godebug = none:=by kernel_rfl
theorem gStart : Tryz.prog.globalNamed "chartroom/digest.start" = some 0 := by kernel_rfl
theorem tStart:(Tryz.prog.globals[0]?).map (·.type) = some 213:=by kernel_rfl
theorem gNums : Tryz.prog.globalNamed "chartroom/digest.numbers" = some 2 := by kernel_rfl
theorem tNums:(Tryz.prog.globals[2]?).map (·.type) = some 243:=by kernel_rfl
theorem gCons : Tryz.prog.globalNamed "chartroom/cipher.constants" = some 5 := by kernel_rfl
theorem tCons:(Tryz.prog.globals[5]?).map (·.type) = some 263:=by kernel_rfl
abbrev laid39 : List (String × DataW Unit) := [("chartroom/digest.start", Rows.laid_chartroom_digest_start), ("chartroom/digest.numbers", Rows.laid_chartroom_digest_numbers), ("bytes.ErrTooLarge", Rows.laid_bytes_ErrTooLarge), ("chartroom/cipher.constants", Rows.laid_chartroom_cipher_constants)]
theorem eStart:(Rows.laid_chartroom_digest_start:DataW Unit) = .agg (init.l.map fun z=>.lit (.int .u32 z.toNat)):=by kernel_rfl
theorem eNums:(Rows.laid_chartroom_digest_numbers:DataW Unit) = .agg (K.map fun z=>.lit (.int .u32 z.toNat)):=by kernel_rfl
theorem eCons:(Rows.laid_chartroom_cipher_constants:DataW Unit) = .agg (cst.map fun z=>.lit (.int .u32 z.toNat)):=by kernel_rfl
theorem door39 (os:Os) (args:Array Value):laidMetH Tryz.prog laid39 ((World.doorLaid Tryz.prog 400 os).forCall (fun _ _=>0) ⟨#[],args,[]⟩).memory :=
  laidMetH_of_parts3 (fuel:=8) (laidMet_of_run' 8 (by kernel_rfl) (by kernel_rfl)) (by kernel_rfl) (by kernel_rfl)
theorem lc_of_laid {W:World} (h:laidMetH Tryz.prog laid39 W):LC W:=by
  rw [MakeChecks.laidMetH_plain _ _ _ (by kernel_rfl)] at h
  obtain ⟨ps,⟨g0,t0,cs0,f0,p0,q0,hg0,ht0,hv0,hd0,⟨g1,t1,cs1,f1,p1,q1,hg1,ht1,hv1,hd1,⟨g2,t2,cs2,f2,p2,q2,hg2,ht2,hv2,hd2,⟨g3,t3,cs3,f3,p3,q3,hg3,ht3,hv3,hd3,_⟩,_⟩,_⟩,_⟩,_⟩:=h
  obtain rfl:=Option.some.inj (gStart.symm.trans hg0)
  obtain rfl:=Option.some.inj (tStart.symm.trans ht0)
  obtain rfl:=Option.some.inj (gNums.symm.trans hg1)
  obtain rfl:=Option.some.inj (tNums.symm.trans ht1)
  obtain rfl:=Option.some.inj (gCons.symm.trans hg3)
  obtain rfl:=Option.some.inj (tCons.symm.trans ht3)
  rw [eStart] at hd0
  rw [eNums] at hd1
  rw [eCons] at hd3
  exact ⟨⟨rd_listedW gStart hv0 Tryz.underlying213 Tryz.underlying212 (by kernel_rfl) hd0,rd_listedW gNums hv1 Tryz.underlying243 Tryz.underlying212 (by kernel_rfl) hd1⟩,rd_listedW gCons hv3 Tryz.underlying263 Tryz.underlying212 (by kernel_rfl) hd3⟩
section
variable {H:Type} {enc:TypeId × Value → H} {P:Program} {W:World} {r:Reach} {b0 t e fuel:Nat} {v:Value} {d:DataW H} {ps:List MemPlace} {cs:List Value} {x:DataW H × List MemPlace}
theorem td_bytes0 (ht:P.underlying t = some (.slice e)) (he:P.underlying e = some (.int .u8)) 
    (h:DataW.trod enc P W 0 (fun _=>true) true fuel t cs = some x):∃ a c q,cs = [.slice a (List.length q) c] ∧ Rd W a (bs q) ∧ q.length ≤ c:=by
  obtain ⟨a,L,c,h1,h2,h3,h4,h5⟩:=td_slice ht h
  obtain ⟨q,rfl,_⟩:=map_of (f:=fun z:UInt8=>[B z]) (p:=fun _=>True) fun y hy=>by
    obtain ⟨_,n,z,hz⟩:=h5 y hy
    obtain ⟨b,hb⟩:=td_u8 he hz
    exact ⟨b,hb,trivial⟩
  have ef:∀ l:List UInt8,(l.map fun z:UInt8=>[B z]).flatten = bs l:=fun l=>by
    induction l with
    | nil=>rfl
    | cons b l ih=>rw [List.map_cons,List.flatten_cons,ih]; rfl
  rw [ef] at h2
  rw [List.length_map] at h1 h3
  exact ⟨a,c,q,h1,h2,h3⟩
theorem op_st {fs:Array Field} (ht:P.underlying t = some (.struct fs)) (hval:Value.okWide P W r b0 t v) (hd:DataW.Trod enc P W 0 (fun _=>true) true t v d ps) :
    ∃ (L:List Value) (fuel:Nat),v = .agg L.toArray ∧ DataW.trod enc P W 0 (fun _=>true) true fuel t L = some (d,ps):=by
  have h0:∃ cs,v = .agg cs:=by
    simp only [Value.okWide,ht] at hval
    obtain ⟨cs,h1,_⟩:=hval
    exact ⟨cs,h1⟩
  obtain ⟨cs,rfl⟩:=h0
  obtain ⟨fuel,hf⟩:=hd
  exact ⟨cs.toList,fuel,by simp,hf⟩
theorem dcut {L s:List Value} {a n:Nat} (b:Nat) (h:(L.drop a).take n = s) (hb:a + n = b):L.drop a = s ++ L.drop b:=by
  rw [← h,← hb,← List.drop_drop]; exact (List.take_append_drop n _).symm
set_option maxRecDepth 100000
theorem td_sig (h:DataW.trod enc Tryz.prog W 0 (fun _=>true) true fuel 59 cs = some x):∃ a b:Int,cs = [I a,I b] ∧ R64 a ∧ R64 b:=by
  obtain ⟨xs,n,_,_,hl,hn,hel⟩:=DataW.trod_struct Tryz.underlying59 h
  have hn':xs.length = 2:=hn
  rw [show (Tryz.prog).cellsOf 59 = 2 by kernel_rfl] at hl
  have h0:=hel 0 _ rfl
  have h1:=hel 1 _ rfl
  rw [List.getElem?_eq_getElem (by omega)] at h0 h1
  obtain ⟨a,e0,ha⟩:=td_int Tryz.underlying3 h0
  obtain ⟨b,e1,hb⟩:=td_int Tryz.underlying3 h1
  have c0:=dcut (L:=cs) (s:=[I a]) (a:=0) (n:=1) 1 e0 rfl
  have c1:=dcut (L:=cs) (s:=[I b]) (a:=1) (n:=1) 2 e1 rfl
  refine ⟨a,b,?_,ha,hb⟩
  rw [← List.drop_zero (l:=cs),c0,c1,List.drop_eq_nil_of_le (show cs.length ≤ 2 by omega)]; rfl
theorem td_ints0 (h:DataW.trod enc Tryz.prog W 0 (fun _=>true) true fuel 22 cs = some x):∃ a c q,cs = [.slice a (List.length q) c] ∧ Rd W a (is q) ∧ q.length ≤ c:=by
  obtain ⟨a,L,c,h1,h2,h3,h4,h5⟩:=td_slice Tryz.underlying22 h
  obtain ⟨q,rfl,hq⟩:=map_of (f:=fun z:Int=>[I z]) (p:=fun _=>True) fun y hy=>by
    obtain ⟨_,n,z,hz⟩:=h5 y hy
    obtain ⟨b,hb,_⟩:=td_int Tryz.underlying3 hz
    exact ⟨b,hb,trivial⟩
  have ef:∀ l:List Int,(l.map fun z:Int=>[I z]).flatten = is l:=fun l=>by
    induction l with
    | nil=>rfl
    | cons b l ih=>rw [List.map_cons,List.flatten_cons,ih]; rfl
  rw [ef] at h2
  rw [List.length_map] at h1 h3
  exact ⟨a,c,q,h1,h2,h3⟩
theorem td_wrap (h:DataW.trod enc Tryz.prog W 0 (fun _=>true) true fuel 72 cs = some x):∃ u a c q,cs = [I u,.slice a (List.length q) c] ∧ Rd W a (bs q) ∧ q.length ≤ c:=by
  obtain ⟨xs,n,_,_,hl,hn,hel⟩:=DataW.trod_struct Tryz.underlying72 h
  have hn':xs.length = 2:=hn
  rw [show (Tryz.prog).cellsOf 72 = 2 by kernel_rfl] at hl
  have h0:=hel 0 _ rfl
  have h1:=hel 1 _ rfl
  rw [List.getElem?_eq_getElem (by omega)] at h0 h1
  obtain ⟨v0,e0,r0⟩:=td_int Tryz.underlying3 h0
  obtain ⟨a1,c1,q1,e1,r1,l1⟩:=td_bytes0 Tryz.underlying42 Tryz.underlying5 h1
  have k0:=dcut (L:=cs) (s:=[I v0]) (a:=0) (n:=1) 1 e0 rfl
  have k1:=dcut (L:=cs) (s:=[.slice a1 q1.length c1]) (a:=1) (n:=1) 2 e1 rfl
  refine ⟨v0,a1,c1,q1,?_,r1,l1⟩
  rw [← List.drop_zero (l:=cs),k0,k1,List.drop_eq_nil_of_le (show cs.length ≤ 2 by omega)]; rfl
theorem td_ap (h:DataW.trod enc Tryz.prog W 0 (fun _=>true) true fuel 74 cs = some x):∃ z:Ap,cs = z.cell ∧ (Rd W z.a (bs z.q) ∧ z.q.length ≤ z.c):=by
  obtain ⟨xs,n,_,_,hl,hn,hel⟩:=DataW.trod_struct Tryz.underlying74 h
  have hn':xs.length = 3:=hn
  rw [show (Tryz.prog).cellsOf 74 = 5 by kernel_rfl] at hl
  have h0:=hel 0 _ rfl
  have h1:=hel 1 _ rfl
  have h2:=hel 2 _ rfl
  rw [List.getElem?_eq_getElem (by omega)] at h0 h1 h2
  obtain ⟨v0,e0,r0⟩:=td_int Tryz.underlying3 h0
  obtain ⟨v1,a1,c1,q1,e1,r1,l1⟩:=td_wrap h1
  obtain ⟨v2,u2,e2,r2,s2⟩:=td_sig h2
  have k0:=dcut (L:=cs) (s:=[I v0]) (a:=0) (n:=1) 1 e0 rfl
  have k1:=dcut (L:=cs) (s:=[I v1,.slice a1 q1.length c1]) (a:=1) (n:=2) 3 e1 rfl
  have k2:=dcut (L:=cs) (s:=[I v2,I u2]) (a:=3) (n:=2) 5 e2 rfl
  refine ⟨⟨v0,v1,a1,c1,q1,v2,u2⟩,?_,r1,l1⟩
  rw [← List.drop_zero (l:=cs),k0,k1,k2,List.drop_eq_nil_of_le (show cs.length ≤ 5 by omega)]; rfl
theorem td_vt (h:DataW.trod enc Tryz.prog W 0 (fun _=>true) true fuel 80 cs = some x):∃ z:Vt,cs = z.cell ∧ True:=by
  obtain ⟨xs,n,_,_,hl,hn,hel⟩:=DataW.trod_struct Tryz.underlying80 h
  have hn':xs.length = 3:=hn
  rw [show (Tryz.prog).cellsOf 80 = 4 by kernel_rfl] at hl
  have h0:=hel 0 _ rfl
  have h1:=hel 1 _ rfl
  have h2:=hel 2 _ rfl
  rw [List.getElem?_eq_getElem (by omega)] at h0 h1 h2
  obtain ⟨v0,e0,r0⟩:=td_int Tryz.underlying3 h0
  obtain ⟨v1,e1,r1⟩:=td_int Tryz.underlying3 h1
  obtain ⟨v2,u2,e2,r2,s2⟩:=td_sig h2
  have k0:=dcut (L:=cs) (s:=[I v0]) (a:=0) (n:=1) 1 e0 rfl
  have k1:=dcut (L:=cs) (s:=[I v1]) (a:=1) (n:=1) 2 e1 rfl
  have k2:=dcut (L:=cs) (s:=[I v2,I u2]) (a:=2) (n:=2) 4 e2 rfl
  refine ⟨⟨v0,v1,v2,u2⟩,?_,trivial⟩
  rw [← List.drop_zero (l:=cs),k0,k1,k2,List.drop_eq_nil_of_le (show cs.length ≤ 4 by omega)]; rfl
theorem td_ls (h:DataW.trod enc Tryz.prog W 0 (fun _=>true) true fuel 67 cs = some x):∃ z:Ls,cs = z.cell ∧ (R64 z.d ∧ R64 z.v ∧ R64 z.l ∧ R64 z.ver):=by
  obtain ⟨xs,n,_,_,hl,hn,hel⟩:=DataW.trod_struct Tryz.underlying67 h
  have hn':xs.length = 5:=hn
  rw [show (Tryz.prog).cellsOf 67 = 5 by kernel_rfl] at hl
  have h0:=hel 0 _ rfl
  have h1:=hel 1 _ rfl
  have h2:=hel 2 _ rfl
  have h3:=hel 3 _ rfl
  have h4:=hel 4 _ rfl
  rw [List.getElem?_eq_getElem (by omega)] at h0 h1 h2 h3 h4
  obtain ⟨v0,e0,r0⟩:=td_int Tryz.underlying3 h0
  obtain ⟨v1,e1,r1⟩:=td_int Tryz.underlying3 h1
  obtain ⟨v2,e2,r2⟩:=td_int Tryz.underlying3 h2
  obtain ⟨v3,e3,r3⟩:=td_int Tryz.underlying3 h3
  obtain ⟨v4,e4⟩:=td_bool Tryz.underlying4 h4
  have k0:=dcut (L:=cs) (s:=[I v0]) (a:=0) (n:=1) 1 e0 rfl
  have k1:=dcut (L:=cs) (s:=[I v1]) (a:=1) (n:=1) 2 e1 rfl
  have k2:=dcut (L:=cs) (s:=[I v2]) (a:=2) (n:=1) 3 e2 rfl
  have k3:=dcut (L:=cs) (s:=[I v3]) (a:=3) (n:=1) 4 e3 rfl
  have k4:=dcut (L:=cs) (s:=[.bool v4]) (a:=4) (n:=1) 5 e4 rfl
  refine ⟨⟨v0,v1,v2,v3,v4⟩,?_,r0,r1,r2,r3⟩
  rw [← List.drop_zero (l:=cs),k0,k1,k2,k3,k4,List.drop_eq_nil_of_le (show cs.length ≤ 5 by omega)]; rfl
theorem td_aps (h:DataW.trod enc Tryz.prog W 0 (fun _=>true) true fuel 27 cs = some x):∃ a c q,cs = [.slice a (List.length q) c] ∧ Rd W a (apc q) ∧ q.length ≤ c ∧ c ≤ 9223372036854775807 ∧ ∀ z ∈ q,Rd W z.a (bs z.q) ∧ z.q.length ≤ z.c:=by
  obtain ⟨a,L,c,h1,h2,h3,h4,h5⟩:=td_slice Tryz.underlying27 h
  obtain ⟨q,rfl,hq⟩:=map_of (f:=Ap.cell) (p:=fun z=>Rd W z.a (bs z.q) ∧ z.q.length ≤ z.c) fun y hy=>by
    obtain ⟨_,n,z,hz⟩:=h5 y hy
    exact td_ap hz
  rw [List.length_map] at h1 h3
  refine ⟨a,c,q,h1,by rw [apc,List.flatMap_def]; exact h2,h3,h4,hq⟩
theorem td_vts (h:DataW.trod enc Tryz.prog W 0 (fun _=>true) true fuel 28 cs = some x):∃ a c q,cs = [.slice a (List.length q) c] ∧ Rd W a (vtc q) ∧ q.length ≤ c:=by
  obtain ⟨a,L,c,h1,h2,h3,h4,h5⟩:=td_slice Tryz.underlying28 h
  obtain ⟨q,rfl,hq⟩:=map_of (f:=Vt.cell) (p:=fun _=>True) fun y hy=>by
    obtain ⟨_,n,z,hz⟩:=h5 y hy
    exact td_vt hz
  rw [List.length_map] at h1 h3
  refine ⟨a,c,q,h1,by rw [vtc,List.flatMap_def]; exact h2,h3⟩
theorem td_lss (h:DataW.trod enc Tryz.prog W 0 (fun _=>true) true fuel 51 cs = some x):∃ a c q,cs = [.slice a (List.length q) c] ∧ Rd W a (lsc q) ∧ ∀ z ∈ q,(R64 z.d ∧ R64 z.v ∧ R64 z.l ∧ R64 z.ver):=by
  obtain ⟨a,L,c,h1,h2,h3,h4,h5⟩:=td_slice Tryz.underlying51 h
  obtain ⟨q,rfl,hq⟩:=map_of (f:=Ls.cell) (p:=fun z=>(R64 z.d ∧ R64 z.v ∧ R64 z.l ∧ R64 z.ver)) fun y hy=>by
    obtain ⟨_,n,z,hz⟩:=h5 y hy
    exact td_ls hz
  rw [List.length_map] at h1 h3
  refine ⟨a,c,q,h1,by rw [lsc,List.flatMap_def]; exact h2,hq⟩
theorem td_per (h:DataW.trod enc Tryz.prog W 0 (fun _=>true) true fuel 26 cs = some x):∃ (p:Pn) (a:Option Addr) (c:Nat),cs = [I p.id,I p.rk,.slice a p.gs.length c,I p.need,I p.cool] ∧ ArgP W p a c:=by
  obtain ⟨xs,n,_,_,hl,hn,hel⟩:=DataW.trod_struct Tryz.underlying26 h
  have hn':xs.length = 5:=hn
  rw [show (Tryz.prog).cellsOf 26 = 5 by kernel_rfl] at hl
  have h0:=hel 0 _ rfl
  have h1:=hel 1 _ rfl
  have h2:=hel 2 _ rfl
  have h3:=hel 3 _ rfl
  have h4:=hel 4 _ rfl
  rw [List.getElem?_eq_getElem (by omega)] at h0 h1 h2 h3 h4
  obtain ⟨v0,e0,r0⟩:=td_int Tryz.underlying3 h0
  obtain ⟨v1,e1,r1⟩:=td_int Tryz.underlying3 h1
  obtain ⟨a2,c2,q2,e2,r2,l2⟩:=td_ints0 h2
  obtain ⟨v3,e3,r3⟩:=td_int Tryz.underlying3 h3
  obtain ⟨v4,e4,r4⟩:=td_int Tryz.underlying3 h4
  have k0:=dcut (L:=cs) (s:=[I v0]) (a:=0) (n:=1) 1 e0 rfl
  have k1:=dcut (L:=cs) (s:=[I v1]) (a:=1) (n:=1) 2 e1 rfl
  have k2:=dcut (L:=cs) (s:=[.slice a2 q2.length c2]) (a:=2) (n:=1) 3 e2 rfl
  have k3:=dcut (L:=cs) (s:=[I v3]) (a:=3) (n:=1) 4 e3 rfl
  have k4:=dcut (L:=cs) (s:=[I v4]) (a:=4) (n:=1) 5 e4 rfl
  refine ⟨⟨v0,v1,q2,v3,v4⟩,a2,c2,?_,r2,l2⟩
  rw [← List.drop_zero (l:=cs),k0,k1,k2,k3,k4,List.drop_eq_nil_of_le (show cs.length ≤ 5 by omega)]; rfl
theorem td_cas (h:DataW.trod enc Tryz.prog W 0 (fun _=>true) true fuel 30 cs = some x):∃ (c:Cs) (aa va:Option Addr) (ac vc:Nat),cs = [I c.p,I c.d,I c.v,I c.l,I c.st,.slice aa c.ap.length ac,.slice va c.vt.length vc] ∧ ArgC W c aa va ac vc:=by
  obtain ⟨xs,n,_,_,hl,hn,hel⟩:=DataW.trod_struct Tryz.underlying30 h
  have hn':xs.length = 7:=hn
  rw [show (Tryz.prog).cellsOf 30 = 7 by kernel_rfl] at hl
  have h0:=hel 0 _ rfl
  have h1:=hel 1 _ rfl
  have h2:=hel 2 _ rfl
  have h3:=hel 3 _ rfl
  have h4:=hel 4 _ rfl
  have h5:=hel 5 _ rfl
  have h6:=hel 6 _ rfl
  rw [List.getElem?_eq_getElem (by omega)] at h0 h1 h2 h3 h4 h5 h6
  obtain ⟨v0,e0,r0⟩:=td_int Tryz.underlying3 h0
  obtain ⟨v1,e1,r1⟩:=td_int Tryz.underlying3 h1
  obtain ⟨v2,e2,r2⟩:=td_int Tryz.underlying3 h2
  obtain ⟨v3,e3,r3⟩:=td_int Tryz.underlying3 h3
  obtain ⟨v4,e4,r4⟩:=td_int Tryz.underlying3 h4
  obtain ⟨a5,c5,q5,e5,r5,l5,m5,b5⟩:=td_aps h5
  obtain ⟨a6,c6,q6,e6,r6,l6⟩:=td_vts h6
  have k0:=dcut (L:=cs) (s:=[I v0]) (a:=0) (n:=1) 1 e0 rfl
  have k1:=dcut (L:=cs) (s:=[I v1]) (a:=1) (n:=1) 2 e1 rfl
  have k2:=dcut (L:=cs) (s:=[I v2]) (a:=2) (n:=1) 3 e2 rfl
  have k3:=dcut (L:=cs) (s:=[I v3]) (a:=3) (n:=1) 4 e3 rfl
  have k4:=dcut (L:=cs) (s:=[I v4]) (a:=4) (n:=1) 5 e4 rfl
  have k5:=dcut (L:=cs) (s:=[.slice a5 q5.length c5]) (a:=5) (n:=1) 6 e5 rfl
  have k6:=dcut (L:=cs) (s:=[.slice a6 q6.length c6]) (a:=6) (n:=1) 7 e6 rfl
  refine ⟨⟨v0,v1,v2,v3,v4,q5,q6⟩,a5,a6,c5,c6,?_,r5,l5,m5,r6,l6,b5,r0,r1,r2,r3,r4⟩
  rw [← List.drop_zero (l:=cs),k0,k1,k2,k3,k4,k5,k6,List.drop_eq_nil_of_le (show cs.length ≤ 7 by omega)]; rfl
theorem td_shr (h:DataW.trod enc Tryz.prog W 0 (fun _=>true) true fuel 46 cs = some x):∃ a b:Int,cs = [I a,I b]:=by
  obtain ⟨xs,n,_,_,hl,hn,hel⟩:=DataW.trod_struct Tryz.underlying46 h
  have hn':xs.length = 2:=hn
  rw [show (Tryz.prog).cellsOf 46 = 2 by kernel_rfl] at hl
  have h0:=hel 0 _ rfl
  have h1:=hel 1 _ rfl
  rw [List.getElem?_eq_getElem (by omega)] at h0 h1
  obtain ⟨v0,e0,r0⟩:=td_int Tryz.underlying3 h0
  obtain ⟨v1,e1,r1⟩:=td_int Tryz.underlying3 h1
  have k0:=dcut (L:=cs) (s:=[I v0]) (a:=0) (n:=1) 1 e0 rfl
  have k1:=dcut (L:=cs) (s:=[I v1]) (a:=1) (n:=1) 2 e1 rfl
  refine ⟨v0,v1,?_⟩
  rw [← List.drop_zero (l:=cs),k0,k1,List.drop_eq_nil_of_le (show cs.length ≤ 2 by omega)]; rfl
theorem op_person (hval:Value.okWide Tryz.prog W r b0 26 v) (hd:DataW.Trod enc Tryz.prog W 0 (fun _=>true) true 26 v d ps) :
    ∃ (p:Pn) (a:Option Addr) (c:Nat),v = .agg #[I p.id,I p.rk,.slice a p.gs.length c,I p.need,I p.cool] ∧ ArgP W p a c:=by
  obtain ⟨L,fuel,rfl,hf⟩:=op_st Tryz.underlying26 hval hd
  obtain ⟨p,a,c,rfl,h⟩:=td_per hf
  exact ⟨p,a,c,rfl,h⟩
theorem op_case (hval:Value.okWide Tryz.prog W r b0 30 v) (hd:DataW.Trod enc Tryz.prog W 0 (fun _=>true) true 30 v d ps) :
    ∃ (c:Cs) (aa va:Option Addr) (ac vc:Nat),v = .agg #[I c.p,I c.d,I c.v,I c.l,I c.st,.slice aa c.ap.length ac,.slice va c.vt.length vc] ∧ ArgC W c aa va ac vc:=by
  obtain ⟨L,fuel,rfl,hf⟩:=op_st Tryz.underlying30 hval hd
  obtain ⟨c,aa,va,ac,vc,rfl,h⟩:=td_cas hf
  exact ⟨c,aa,va,ac,vc,rfl,h⟩
theorem op_share (hval:Value.okWide Tryz.prog W r b0 46 v) (hd:DataW.Trod enc Tryz.prog W 0 (fun _=>true) true 46 v d ps) :
    ∃ a b:Int,v = .agg #[I a,I b]:=by
  obtain ⟨L,fuel,rfl,hf⟩:=op_st Tryz.underlying46 hval hd
  obtain ⟨a,b,rfl⟩:=td_shr hf
  exact ⟨a,b,rfl⟩
theorem op_listing (hval:Value.okWide Tryz.prog W r b0 67 v) (hd:DataW.Trod enc Tryz.prog W 0 (fun _=>true) true 67 v d ps) :
    ∃ z:Ls,v = .agg #[I z.d,I z.v,I z.l,I z.ver,.bool z.gone] ∧ (R64 z.d ∧ R64 z.v ∧ R64 z.l ∧ R64 z.ver):=by
  obtain ⟨L,fuel,rfl,hf⟩:=op_st Tryz.underlying67 hval hd
  obtain ⟨z,rfl,h⟩:=td_ls hf
  exact ⟨z,rfl,h⟩
theorem op_lists (hval:Value.okWide Tryz.prog W r b0 51 v) (hd:DataW.Trod enc Tryz.prog W 0 (fun _=>true) true 51 v d ps) :
    ∃ a c q,v = .slice a (List.length q) c ∧ Rd W a (lsc q) ∧ ∀ z ∈ q,(R64 z.d ∧ R64 z.v ∧ R64 z.l ∧ R64 z.ver):=by
  obtain ⟨a0,len,cap,rfl⟩:=okWide_slice Tryz.underlying51 hval
  obtain ⟨fuel,hf⟩:=hd
  obtain ⟨a,c,q,h1,h2,h3⟩:=td_lss hf
  simp only [Value.cells,List.cons.injEq,Value.slice.injEq,and_true] at h1
  obtain ⟨rfl,rfl,rfl⟩:=h1
  exact ⟨a0,cap,q,rfl,h2,h3⟩
theorem op_bool (ht:P.underlying t = some .bool) (hval:Value.okWide P W r b0 t v) (hd:DataW.Trod enc P W 0 (fun _=>true) true t v d ps):∃ b,v = .bool b:=by
  simp only [Value.okWide,ht] at hval
  simp only [Cell.okWide,Cell.ok,ht] at hval
  first | exact hval | (cases v <;> simp_all)
end
end Go.Proofs.YtojohglifijnnaaGreatDoor
end
section
namespace Rst
open Go Eng Gf Sha Sig Wr Cod Cha Go.Proofs.YtojohglifijnnaaGreatDoor
theorem Rd.pre {w:World} {a:Option Addr} {xs ys:List Value} (h:Rd w a (xs ++ ys)):Rd w a xs:=by
  rcases h with h | ⟨b,off,cs,t,fz,h1,h2,h3⟩
  · exact .inl (List.append_eq_nil_iff.1 h).1
  · exact .inr ⟨b,off,cs,t,fz,h1,h2,fun j v hj=>h3 j v (by rw [List.getElem?_append_left (List.getElem?_eq_some_iff.1 hj).1]; exact hj)⟩
end Rst
namespace Go.Proofs.YtojohglifijnnaaGreatDoor
open Go Eng Gf Sha Sig Wr Cod Cha Rst
set_option maxRecDepth 100000
set_option linter.all false
end Go.Proofs.YtojohglifijnnaaGreatDoor
end
section
namespace Eng
open Go
section
variable {P:Program} {n:Nat} {D:List Deferred} {W:World} {Bo:List Nat} {F:List (Nat × Value)} {l:SH} {d:Option Tmp} {ty:TypeId} {ps:String} {af:Array Edge} {g:Option (Nat × Bool)} {x y:Operand} {ta tb:TypeId}
theorem y_andm (m:Nat) {p q:Int} (hx:evO F x = some (I p):=by rfl) (hy:evO F y = some (I q):=by rfl) (hq:q = 2 ^ m - 1) (hm:m ≤ 62):Y P n D W Bo ⟨d,.binOp .and ta x y tb,ty,ps,af,g⟩ F l (I (p % 2 ^ m)) :=
  .mk (by simp) fun a w ha _=>by
    refine exec_bin P w w _ _ _ _ _ _ _ _ _ _ _ _ ⟨by simp,by simp⟩ ?_
    rw [ha.eval hx,ha.eval hy]
    simp only [binOp,ne_eq,not_true_eq_false,if_false,Op.intBits,Sem.run_pure]
    obtain ⟨N,hN⟩:∃ N:Nat,N = 2 ^ m:=⟨_,rfl⟩
    have hpos:0 < N:=by rw [hN]; exact Nat.pow_pos (by decide)
    have hle:N ≤ 4611686018427387904:=by rw [hN]; exact Nat.pow_le_pow_right (show 0 < 2 by decide) hm
    have hdv:N ∣ 18446744073709551616:=by rw [hN]; exact Nat.pow_dvd_pow 2 (show m ≤ 64 by omega)
    have hI:(2:Int) ^ m = (N:Int):=by rw [hN]; exact (Int.natCast_pow 2 m).symm
    have e1:(BitVec.ofInt IntKind.i64.bits q).toNat = N - 1:=by
      rw [hq,hI,show ((N:Int) - 1) = ((N - 1:Nat):Int) by omega]
      exact bitsn (k:=.i64) (by simp only [IntKind.bits]; omega)
    have e2:(BitVec.ofInt IntKind.i64.bits p).toNat = (p % 18446744073709551616).toNat:=by rw [BitVec.toNat_ofInt]; rfl
    rw [BitVec.toNat_and,e1,e2,hN,Nat.and_two_pow_sub_one_eq_mod,← hN,hI]
    have h1:(((p % 18446744073709551616).toNat % N:Nat):Int) = p % N:=by
      rw [Int.natCast_emod,Int.toNat_of_nonneg (Int.emod_nonneg _ (by decide))]
      exact Int.emod_emod_of_dvd _ (Int.natCast_dvd_natCast.2 hdv)
    rw [h1]
    have h4:0 ≤ p % (N:Int):=Int.emod_nonneg _ (by omega)
    have h5:p % (N:Int) < N:=Int.emod_lt_of_pos _ (by omega)
    rw [wrap_i64 (by unfold R64; omega)]
end
end Eng
namespace Rst
open Go Eng Gf Sha Sig Wr Cod Cha Go.Proofs.YtojohglifijnnaaGreatDoor
end Rst
namespace Go.Proofs.YtojohglifijnnaaGreatDoor
open Go Eng Gf Sha Sig Wr Cod Cha Rst
set_option maxRecDepth 100000
set_option linter.all false
end Go.Proofs.YtojohglifijnnaaGreatDoor
end
section
namespace Rst
open Go Eng Gf Sha Sig Wr Cod Cha Go.Proofs.YtojohglifijnnaaGreatDoor
def apl (c:Cs) (L:List Ap):Cs:=⟨c.p,c.d,c.v,c.l,c.st,L,[]⟩
def bods (t:TypeId) (L:List Ap):SH:=L.foldl (fun r z=>.row z.a z.c t 1 z.q.length (bs z.q) :: r) []
theorem bods_snoc (t:TypeId) (L:List Ap) (z:Ap):bods t (L ++ [z]) = .row z.a z.c t 1 z.q.length (bs z.q) :: bods t L:=by
  unfold bods; rw [List.foldl_append]; rfl
theorem mem_bods {t:TypeId} {z:Ap}:∀ {L:List Ap},z ∈ L → Res.row z.a z.c t 1 z.q.length (bs z.q) ∈ bods t L:=by
  have h:∀ (L:List Ap) (r:SH),(∀ p ∈ r,p ∈ L.foldl (fun r z=>.row z.a z.c t 1 z.q.length (bs z.q) :: r) r) ∧ (z ∈ L → Res.row z.a z.c t 1 z.q.length (bs z.q) ∈ L.foldl (fun r z=>.row z.a z.c t 1 z.q.length (bs z.q) :: r) r):=by
    intro L
    induction L with
    | nil=>exact fun r=>⟨fun p h=>h,fun h=>by cases h⟩
    | cons y L ih =>
      intro r
      refine ⟨fun p hp=>(ih _).1 p (.tail _ hp),fun hz=>?_⟩
      rcases List.mem_cons.1 hz with rfl | hz
      · exact (ih _).1 _ (.head _)
      · exact (ih _).2 hz
  exact fun {L} hz=>(h L []).2 hz
/-- what holds of approvals that were made -/
structure AInv (p:Pn) (c:Cs) (cs:List Nat) (L:List Ap) (ac:Nat):Prop where
  g:∀ z ∈ L,∃ i,i < p.gs.length ∧ p.gs[i]? = some z.g ∧ ∀ x:Nat,((pp 4 x:Nat):Int) = c.l → GdAp x c (i + 1) (hor cs (i + 1)) z
  b:Blg p (apl c L)
  k:∀ z ∈ L,z.q.length ≤ z.c
  q:∀ z ∈ L,z.q.length ≤ 100000
  l:L.length ≤ ac
theorem AInv.nil {p:Pn} {c:Cs} {cs:List Nat} (h:Blg p (apl c [])):AInv p c cs [] 0:=⟨(fun _ h=>by cases h),h,(fun _ h=>by cases h),(fun _ h=>by cases h),Nat.le_refl _⟩
theorem AInv.snoc {p:Pn} {c:Cs} {cs:List Nat} {L:List Ap} {ac ac' kk x bc:Nat} {g:Int} {k:List UInt8} {ba:Option Addr} (h:AInv p c cs L ac) (hp:Prs p) (hi:p.gs[kk]? = some g) (hn:¬ g ∈ L.map Ap.g) (hl:L.length + 1 ≤ ac') (hb:(wtx (apl c L) g k (kk + 1) (hor cs (kk + 1))).length ≤ bc) :
    AInv p c cs (L ++ [nAp (apl c L) g k (kk + 1) (hor cs (kk + 1)) x ba bc]) ac' where
  g:=fun z hz=>by
    rcases List.mem_append.1 hz with hz | hz
    · exact h.g z hz
    · rw [List.mem_singleton] at hz; subst hz
      refine ⟨kk,(List.getElem?_eq_some_iff.1 hi).1,hi,fun x hx=>?_⟩
      exact gd_nap rfl hx.symm
  b:=blg_apd h.b (List.mem_of_getElem? hi) hn
  k:=cap_snoc h.k hb
  q:=fun z hz=>by
    rcases List.mem_append.1 hz with hz | hz
    · exact h.q z hz
    · rw [List.mem_singleton] at hz; subst hz
      exact Nat.le_trans (Nat.le_of_eq (wtx_length _ _ _ _ _)) (by decide)
  l:=by rw [List.length_append]; exact hl
end Rst
namespace Go.Proofs.YtojohglifijnnaaGreatDoor
open Go Eng Gf Sha Sig Wr Cod Cha Rst
set_option maxRecDepth 100000
set_option linter.all false
theorem approved_ok (w:World) (p:Pn) (c:Cs) (cs:List Nat) (ga sa qa:Option Addr) (gc sc qc:Nat) (qs:List Int) (x:Nat) (k:List UInt8) (hg:LC w) (hk:k.length = 32) (hrg:Rd w ga (is p.gs)) (hrs:Rd w sa (shc (sN (spl cs p.gs.length)))) (hrq:Rd w qa (is qs)) (hp:Prs p) (hb:Blg p (apl c [])) (hql:qs.length ≤ 8) (hx0:1 ≤ x) (hx1:x < 2305843009213688669):Gives Tryz.prog 27 [.agg #[I p.id,I p.rk,.slice ga p.gs.length gc,I p.need,I p.cool],.agg #[I c.p,I c.d,I c.v,I c.l,I c.st,.slice none 0 0,.slice none 0 0],.slice sa p.gs.length sc,.slice qa qs.length qc,I (x:Nat),.agg (bs k).toArray] w [] (fun y:List Ap × (Option Addr × Nat)=>.tuple #[.agg #[I c.p,I c.d,I c.v,I c.l,I c.st,.slice y.2.1 y.1.length y.2.2,.slice none 0 0],I ((y.1.length:Nat):Int)]) (fun y=>.row y.2.1 y.2.2 74 5 y.1.length (apc y.1) :: bods 5 y.1) (fun y=>AInv p c cs y.1 y.2.2 ∧ y.1.length ≤ 8):=by
  have hgl:p.gs.length ≤ 1000000:=by have:=hp.gl; omega
  refine enter Tryz.func27 Tryz.ntmps27 ?_
  refine c_seq<|c_reg<|s_box rfl fun b6=>s_box rfl fun b7=>s_box rfl fun b11=>s_alloc fun b12=>s_y y_as<|s_nil<|q_then<|c_seq<|c_reg<|s_y y_mv<|s_pure (fun w' hw=>sPublic_yes w' x hx0 hx1)<|s_y y_mv<|s_y y_ext<|s_y y_ext<|s_y y_as<|s_y y_as<|s_nil<|q_then<|c_seq<|c_reg<|s_y y_as<|s_nil<|q_then<|c_seq<|c_seq<|c_reg<|s_y y_as<|s_nil<|q_then<|c_block<|?_
  refine c_nilrow 74 5<|c_loop4 (fun (i:Nat) (L:List Ap) (y:Option Addr × Nat) (m:Nat)=>[(2,.slice sa p.gs.length sc),(3,.slice qa qs.length qc),(4,I (x:Nat)),(6,.pointer (some ⟨b6,0,none⟩)),(7,.pointer (some ⟨b7,0,none⟩)),(11,.pointer (some ⟨b11,0,none⟩)),(12,.pointer (some ⟨b12,0,none⟩)),(14,I (pp 4 x:Nat)),(16,I (m:Nat)),(17,I (i:Nat))]) (fun i L y m=>.row y.1 y.2 74 5 m (apc L) :: .blk b12 (.cells #[I 0,I 0,I 0,I 0,I 0,.slice none 0 0,.slice none 0 0] 30 (0,0)) :: .blk b11 (.cells (bs k).toArray 24 (0,0)) :: .blk b7 (.cells #[I c.p,I c.d,I c.v,I c.l,I c.st,.slice y.1 m y.2,.slice none 0 0] 30 (0,0)) :: .blk b6 (.cells #[I p.id,I p.rk,.slice ga p.gs.length gc,I p.need,I p.cool] 26 (0,0)) :: bods 5 L) (fun i L y m=>i ≤ qs.length ∧ L.length = m ∧ m ≤ i ∧ AInv p c cs L y.2) (fun i _ _ _=>qs.length - i) 0 [] (none,0) 0 ⟨Nat.zero_le _,rfl,Nat.le_refl _,.nil hb⟩ ⟨rfl,rfl,rfl,rfl,rfl,rfl,rfl,rfl,rfl,rfl,trivial⟩ (List.Sublist.refl _) ?_
  rintro i L y m ⟨hi,rfl,hm,hI⟩
  have hL8:L.length ≤ 1000000:=by omega
  by_cases hlt:i < qs.length
  · obtain ⟨q,hq⟩:∃ q,qs.getD i 0 = q:=⟨_,rfl⟩
    obtain ⟨kk,hkk⟩:∃ kk:Nat,q % 2 ^ 4 = (kk:Int):=⟨(q % 2 ^ 4).toNat,by omega⟩
    by_cases hkl:kk < p.gs.length
    · obtain ⟨g,hgi⟩:∃ g,p.gs[kk]? = some g:=⟨_,List.getElem?_eq_getElem hkl⟩
      have hgg:p.gs.getD kk 0 = g:=by rw [List.getD_eq_getElem?_getD,hgi]; rfl
      have hRg:R64 g:=by have:=(hp.gs g (List.mem_of_getElem? hgi)).2; unfold R64; omega
      by_cases hin:g ∈ L.map Ap.g
      · refine c_seq<|c_seq<|c_reg<|s_y y_mv<|s_y y_mv<|s_y y_len<|s_kt (y_lss (p:=(i:Nat)) (q:=qs.length)) (by omega)<|s_nil<|q_then<|c_t<|c_skip<|q_then<|c_seq<|c_block<|c_seq<|c_reg<|s_y y_mv<|s_y y_mv<|s_y (y_ixs1 (xs:=is qs) (i:=((i:Nat):Int)) (hr:=(rdW0 hrq)))<|s_y (y_ldi (i:=i) (q:=qs) (hr:=(rdW0 hrq)) (hi:=by omega))<|?_
        rw [hq]
        refine s_y (y_andm (m:=4) (p:=q) (q:=15) (hq:=rfl) (hm:=by decide))<|?_
        rw [hkk]
        refine s_y y_as<|s_nil<|q_then<|c_seq<|c_seq<|c_reg<|s_y y_mv<|s_y y_fa<|s_y (y_ld (b:=b6) (v:=.slice ga p.gs.length gc))<|s_y y_len<|s_kf (y_geq (p:=(kk:Nat)) (q:=p.gs.length)) (by omega)<|s_y y_mv<|s_y y_mv<|s_y y_mv<|s_y y_len<|s_kf (y_geq (p:=(kk:Nat)) (q:=p.gs.length)) (by omega)<|s_y y_pk<|s_nil<|q_then<|c_f<|c_skip<|q_then<|c_seq<|c_regL [.row y.1 y.2 74 5 L.length (apc L),.blk b12 (.cells #[I 0,I 0,I 0,I 0,I 0,.slice none 0 0,.slice none 0 0] 30 (0,0)),.blk b11 (.cells (bs k).toArray 24 (0,0)),.blk b7 (.cells #[I c.p,I c.d,I c.v,I c.l,I c.st,.slice y.1 L.length y.2,.slice none 0 0] 30 (0,0)),.blk b6 (.cells #[I p.id,I p.rk,.slice ga p.gs.length gc,I p.need,I p.cool] 26 (0,0))]<|r_y 0 rfl (y_lda (b:=b6) (cs:=#[I p.id,I p.rk,.slice ga p.gs.length gc,I p.need,I p.cool]) (hl:=rfl))<|r_y 1 rfl (y_lda (b:=b7) (cs:=#[I c.p,I c.d,I c.v,I c.l,I c.st,.slice y.1 L.length y.2,.slice none 0 0]) (hl:=rfl))<|r_y 2 rfl y_fa<|r_y 3 rfl (y_ld (b:=b6) (v:=.slice ga p.gs.length gc))<|r_y 4 rfl y_mv<|r_y 5 rfl (y_ixs1 (xs:=is p.gs) (i:=((kk:Nat):Int)) (hr:=(rdW0 hrg)))<|r_y 6 rfl (y_ldi (i:=kk) (q:=p.gs) (hr:=(rdW0 hrg)) (hi:=by omega))<|?_
        rw [hgg]
        refine r_y 7 rfl y_mv<|r_y 8 rfl y_mv<|r_y 9 rfl (y_ixs (xs:=shc (sN (spl cs p.gs.length))) (i:=((kk:Nat):Int)) (hr:=(rdW0 hrs)) (hl:=by rw [shc_length,sN_length,spl_length]; omega) (h1:=by omega))<|r_y 10 rfl (y_ldra (i:=(kk) * 2) (cs:=[I (kk + 1:Nat),I (hor cs (kk + 1):Nat)]) (rdW0 hrs) rfl (fun j v h=>shc_atA (spl_at (i:=kk) (by omega)) h))<|r_y 11 rfl y_mv<|r_y 12 rfl y_mv<|r_y 13 rfl (y_lda (b:=b11) (cs:=(bs k).toArray) (hl:=(hz32 hk)))<|r_w2 14 18 rfl rfl ?_ ?_ (hsub:=by repeat (first | exact List.nil_sublist _ | exact List.Sublist.refl _ | apply List.Sublist.cons_cons | apply List.Sublist.cons))
        · refine s_pure (fun w' hw=>Approve_n2 w' p (apl c L) ga y.1 none gc y.2 0 g (kk + 1:Nat) (hor cs (kk + 1):Nat) (pp 4 x:Nat) (x:Nat) k (hg.st hw) hk (hrg.st hw) hgl (rdR (.head _) w' hw) hI.l (Rd.nil _ _) hL8 (Nat.zero_le _) hp (fun h=>h.n hin))<|r_K<|r_y 15 rfl y_mv<|r_y 16 rfl y_ext<|r_y 17 rfl y_ext<|r_W 18 rfl<|s_alloc fun b19=>r_K<|r_W 19 rfl<|s_sta (b:=b19) (vs:=#[I 0,I 0,I 0,I 0,I 0,.slice none 0 0,.slice none 0 0]) (cs:=#[I 0,I 0,I 0,I 0,I 0,.slice none 0 0,.slice none 0 0]) (h1:=one_allA rfl) (hl:=rfl) (hs1:=rfl) ?_
          refine r_K<|r_y 20 rfl y_as<|r_E<|q_then<|c_seq<|c_reg<|s_y y_mv<|s_kf (y_eql (p:=390) (q:=0)) (by omega)<|s_nil<|q_then<|c_f<|c_skip<|q_nb<|q_then<|c_reg<|s_y y_mv<|s_y (y_add (p:=(i:Nat)) (q:=1))<|s_y y_as<|s_nil<|?_
          refine q_round4 (x:=i) (y:=L) (z:=y) (u:=L.length) (i + 1) L y L.length ⟨by omega,rfl,by omega,hI⟩ (by omega) ⟨rfl,rfl,rfl,rfl,rfl,rfl,rfl,rfl,rfl,rfl,trivial⟩ (by repeat (first | exact List.nil_sublist _ | exact List.Sublist.refl _ | apply List.Sublist.cons_cons | apply List.Sublist.cons))
        · refine s_alloc fun b19=>r_K<|r_W 14 rfl<|s_pure (fun w' hw=>Approve_n2 w' p (apl c L) ga y.1 none gc y.2 0 g (kk + 1:Nat) (hor cs (kk + 1):Nat) (pp 4 x:Nat) (x:Nat) k (hg.st hw) hk (hrg.st hw) hgl (rdR (.tail _ (.head _)) w' hw) hI.l (Rd.nil _ _) hL8 (Nat.zero_le _) hp (fun h=>h.n hin))<|r_K<|r_y 15 rfl y_mv<|r_y 16 rfl y_ext<|r_y 17 rfl y_ext<|r_W 19 rfl<|s_sta (b:=b19) (vs:=#[I 0,I 0,I 0,I 0,I 0,.slice none 0 0,.slice none 0 0]) (cs:=#[I 0,I 0,I 0,I 0,I 0,.slice none 0 0,.slice none 0 0]) (h1:=one_allA rfl) (hl:=rfl) (hs1:=rfl) ?_
          refine r_K<|r_y 20 rfl y_as<|r_E<|q_then<|c_seq<|c_reg<|s_y y_mv<|s_kf (y_eql (p:=390) (q:=0)) (by omega)<|s_nil<|q_then<|c_f<|c_skip<|q_nb<|q_then<|c_reg<|s_y y_mv<|s_y (y_add (p:=(i:Nat)) (q:=1))<|s_y y_as<|s_nil<|?_
          refine q_round4 (x:=i) (y:=L) (z:=y) (u:=L.length) (i + 1) L y L.length ⟨by omega,rfl,by omega,hI⟩ (by omega) ⟨rfl,rfl,rfl,rfl,rfl,rfl,rfl,rfl,rfl,rfl,trivial⟩ (by repeat (first | exact List.nil_sublist _ | exact List.Sublist.refl _ | apply List.Sublist.cons_cons | apply List.Sublist.cons))
      · refine c_seq<|c_seq<|c_reg<|s_y y_mv<|s_y y_mv<|s_y y_len<|s_kt (y_lss (p:=(i:Nat)) (q:=qs.length)) (by omega)<|s_nil<|q_then<|c_t<|c_skip<|q_then<|c_seq<|c_block<|c_seq<|c_reg<|s_y y_mv<|s_y y_mv<|s_y (y_ixs1 (xs:=is qs) (i:=((i:Nat):Int)) (hr:=(rdW0 hrq)))<|s_y (y_ldi (i:=i) (q:=qs) (hr:=(rdW0 hrq)) (hi:=by omega))<|?_
        rw [hq]
        refine s_y (y_andm (m:=4) (p:=q) (q:=15) (hq:=rfl) (hm:=by decide))<|?_
        rw [hkk]
        refine s_y y_as<|s_nil<|q_then<|c_seq<|c_seq<|c_reg<|s_y y_mv<|s_y y_fa<|s_y (y_ld (b:=b6) (v:=.slice ga p.gs.length gc))<|s_y y_len<|s_kf (y_geq (p:=(kk:Nat)) (q:=p.gs.length)) (by omega)<|s_y y_mv<|s_y y_mv<|s_y y_mv<|s_y y_len<|s_kf (y_geq (p:=(kk:Nat)) (q:=p.gs.length)) (by omega)<|s_y y_pk<|s_nil<|q_then<|c_f<|c_skip<|q_then<|c_seq<|c_regL [.row y.1 y.2 74 5 L.length (apc L),.blk b12 (.cells #[I 0,I 0,I 0,I 0,I 0,.slice none 0 0,.slice none 0 0] 30 (0,0)),.blk b11 (.cells (bs k).toArray 24 (0,0)),.blk b7 (.cells #[I c.p,I c.d,I c.v,I c.l,I c.st,.slice y.1 L.length y.2,.slice none 0 0] 30 (0,0)),.blk b6 (.cells #[I p.id,I p.rk,.slice ga p.gs.length gc,I p.need,I p.cool] 26 (0,0))]<|r_y 0 rfl (y_lda (b:=b6) (cs:=#[I p.id,I p.rk,.slice ga p.gs.length gc,I p.need,I p.cool]) (hl:=rfl))<|r_y 1 rfl (y_lda (b:=b7) (cs:=#[I c.p,I c.d,I c.v,I c.l,I c.st,.slice y.1 L.length y.2,.slice none 0 0]) (hl:=rfl))<|r_y 2 rfl y_fa<|r_y 3 rfl (y_ld (b:=b6) (v:=.slice ga p.gs.length gc))<|r_y 4 rfl y_mv<|r_y 5 rfl (y_ixs1 (xs:=is p.gs) (i:=((kk:Nat):Int)) (hr:=(rdW0 hrg)))<|r_y 6 rfl (y_ldi (i:=kk) (q:=p.gs) (hr:=(rdW0 hrg)) (hi:=by omega))<|?_
        rw [hgg]
        refine r_y 7 rfl y_mv<|r_y 8 rfl y_mv<|r_y 9 rfl (y_ixs (xs:=shc (sN (spl cs p.gs.length))) (i:=((kk:Nat):Int)) (hr:=(rdW0 hrs)) (hl:=by rw [shc_length,sN_length,spl_length]; omega) (h1:=by omega))<|r_y 10 rfl (y_ldra (i:=(kk) * 2) (cs:=[I (kk + 1:Nat),I (hor cs (kk + 1):Nat)]) (rdW0 hrs) rfl (fun j v h=>shc_atA (spl_at (i:=kk) (by omega)) h))<|r_y 11 rfl y_mv<|r_y 12 rfl y_mv<|r_y 13 rfl (y_lda (b:=b11) (cs:=(bs k).toArray) (hl:=(hz32 hk)))<|r_w2 14 18 rfl rfl ?_ ?_ (hsub:=by repeat (first | exact List.nil_sublist _ | exact List.Sublist.refl _ | apply List.Sublist.cons_cons | apply List.Sublist.cons))
        · refine s_gives (fun w' hw=>Approve_y w' p (apl c L) ga y.1 none gc y.2 0 g (pp 4 x:Nat) k (kk + 1) (hor cs (kk + 1)) x (hg.st hw) hk (hrg.st hw) hgl (rdR (.head _) w' hw) hI.l (Rd.nil _ _) hL8 (Nat.zero_le _) (blg_r5 hp hI.b) hRg hp (apRt_of hp hI.b hgi hin) hx0 hx1 rfl) fun (x63:AX) _=>?_
          refine s_row (fun hka _=>s_row (fun hkb _=>?_) (hm:=.tail _ (.head _))) (hm:=.head _)
          refine r_K<|r_y 15 rfl y_mv<|r_y 16 rfl y_ext<|r_y 17 rfl y_ext<|r_W 18 rfl<|s_alloc fun b19=>r_K<|r_W 19 rfl<|s_sta (b:=b19) (vs:=#[I c.p,I c.d,I c.v,I c.l,I c.st,.slice x63.aa (L.length + 1) x63.ac,.slice none 0 0]) (cs:=#[I 0,I 0,I 0,I 0,I 0,.slice none 0 0,.slice none 0 0]) (h1:=one_allA rfl) (hl:=rfl) (hs1:=rfl) ?_
          refine r_K<|r_y 20 rfl y_as<|r_E<|q_then<|c_seq<|c_reg<|s_y y_mv<|s_kt (y_eql (p:=0) (q:=0)) (by omega)<|s_nil<|q_then<|c_t<|c_seq<|c_reg<|s_y (y_lda (b:=b19) (cs:=#[I c.p,I c.d,I c.v,I c.l,I c.st,.slice x63.aa (L.length + 1) x63.ac,.slice none 0 0]) (hl:=rfl))<|s_sta (b:=b7) (vs:=#[I c.p,I c.d,I c.v,I c.l,I c.st,.slice x63.aa (L.length + 1) x63.ac,.slice none 0 0]) (cs:=#[I c.p,I c.d,I c.v,I c.l,I c.st,.slice y.1 L.length y.2,.slice none 0 0]) (h1:=one_allA rfl) (hl:=rfl) (hs1:=rfl) ?_
          refine s_nil<|q_then<|c_reg<|s_y y_mv<|s_y (y_add (p:=(L.length:Nat)) (q:=1))<|s_y y_as<|s_nil<|q_nb<|q_then<|c_reg<|s_y y_mv<|s_y (y_add (p:=(i:Nat)) (q:=1))<|s_y y_as<|s_nil<|?_
          refine q_sub (l':=.row x63.aa x63.ac 74 5 (L.length + 1) (apc (L ++ [nAp (apl c L) g k (kk + 1) (hor cs (kk + 1)) x x63.ba x63.bc])) :: .row x63.ba x63.bc 5 1 ((wtx (apl c L) g k (kk + 1) (hor cs (kk + 1))).length) (bs (wtx (apl c L) g k (kk + 1) (hor cs (kk + 1)))) :: .blk b12 (.cells #[I 0,I 0,I 0,I 0,I 0,.slice none 0 0,.slice none 0 0] 30 (0,0)) :: .blk b11 (.cells (bs k).toArray 24 (0,0)) :: .blk b7 (.cells #[I c.p,I c.d,I c.v,I c.l,I c.st,.slice x63.aa (L.length + 1) x63.ac,.slice none 0 0] 30 (0,0)) :: .blk b6 (.cells #[I p.id,I p.rk,.slice ga p.gs.length gc,I p.need,I p.cool] 26 (0,0)) :: bods 5 L) (by repeat (first | exact List.nil_sublist _ | exact List.Sublist.refl _ | apply List.Sublist.cons_cons | apply List.Sublist.cons)) ?_
          refine q_perm (l':=.row x63.aa x63.ac 74 5 (L.length + 1) (apc (L ++ [nAp (apl c L) g k (kk + 1) (hor cs (kk + 1)) x x63.ba x63.bc])) :: .blk b12 (.cells #[I 0,I 0,I 0,I 0,I 0,.slice none 0 0,.slice none 0 0] 30 (0,0)) :: .blk b11 (.cells (bs k).toArray 24 (0,0)) :: .blk b7 (.cells #[I c.p,I c.d,I c.v,I c.l,I c.st,.slice x63.aa (L.length + 1) x63.ac,.slice none 0 0] 30 (0,0)) :: .blk b6 (.cells #[I p.id,I p.rk,.slice ga p.gs.length gc,I p.need,I p.cool] 26 (0,0)) :: .row x63.ba x63.bc 5 1 ((wtx (apl c L) g k (kk + 1) (hor cs (kk + 1))).length) (bs (wtx (apl c L) g k (kk + 1) (hor cs (kk + 1)))) :: bods 5 L) (.cons _ (List.perm_middle (l₁:=([.blk b12 (.cells #[I 0,I 0,I 0,I 0,I 0,.slice none 0 0,.slice none 0 0] 30 (0,0)),.blk b11 (.cells (bs k).toArray 24 (0,0)),.blk b7 (.cells #[I c.p,I c.d,I c.v,I c.l,I c.st,.slice x63.aa (L.length + 1) x63.ac,.slice none 0 0] 30 (0,0)),.blk b6 (.cells #[I p.id,I p.rk,.slice ga p.gs.length gc,I p.need,I p.cool] 26 (0,0))]:SH)))) ?_
          refine q_round4 (x:=i) (y:=L) (z:=y) (u:=L.length) (i + 1) (L ++ [nAp (apl c L) g k (kk + 1) (hor cs (kk + 1)) x x63.ba x63.bc]) (x63.aa,x63.ac) (L.length + 1) ⟨by omega,List.length_append,by omega,hI.snoc hp hgi hin hka hkb⟩ (by omega) ⟨rfl,rfl,rfl,rfl,rfl,rfl,rfl,rfl,rfl,rfl,trivial⟩ (show List.Sublist (.row x63.aa x63.ac 74 5 (L.length + 1) (apc (L ++ [nAp (apl c L) g k (kk + 1) (hor cs (kk + 1)) x x63.ba x63.bc])) :: .blk b12 (.cells #[I 0,I 0,I 0,I 0,I 0,.slice none 0 0,.slice none 0 0] 30 (0,0)) :: .blk b11 (.cells (bs k).toArray 24 (0,0)) :: .blk b7 (.cells #[I c.p,I c.d,I c.v,I c.l,I c.st,.slice x63.aa (L.length + 1) x63.ac,.slice none 0 0] 30 (0,0)) :: .blk b6 (.cells #[I p.id,I p.rk,.slice ga p.gs.length gc,I p.need,I p.cool] 26 (0,0)) :: bods 5 (L ++ [nAp (apl c L) g k (kk + 1) (hor cs (kk + 1)) x x63.ba x63.bc])) _ from bods_snoc _ L _ ▸ List.Sublist.refl _)
        · refine s_alloc fun b19=>r_K<|r_W 14 rfl<|s_gives (fun w' hw=>Approve_y w' p (apl c L) ga y.1 none gc y.2 0 g (pp 4 x:Nat) k (kk + 1) (hor cs (kk + 1)) x (hg.st hw) hk (hrg.st hw) hgl (rdR (.tail _ (.head _)) w' hw) hI.l (Rd.nil _ _) hL8 (Nat.zero_le _) (blg_r5 hp hI.b) hRg hp (apRt_of hp hI.b hgi hin) hx0 hx1 rfl) fun (x63:AX) _=>?_
          refine s_row (fun hka _=>s_row (fun hkb _=>?_) (hm:=.tail _ (.head _))) (hm:=.head _)
          refine r_K<|r_y 15 rfl y_mv<|r_y 16 rfl y_ext<|r_y 17 rfl y_ext<|r_W 19 rfl<|s_sta (b:=b19) (vs:=#[I c.p,I c.d,I c.v,I c.l,I c.st,.slice x63.aa (L.length + 1) x63.ac,.slice none 0 0]) (cs:=#[I 0,I 0,I 0,I 0,I 0,.slice none 0 0,.slice none 0 0]) (h1:=one_allA rfl) (hl:=rfl) (hs1:=rfl) ?_
          refine r_K<|r_y 20 rfl y_as<|r_E<|q_then<|c_seq<|c_reg<|s_y y_mv<|s_kt (y_eql (p:=0) (q:=0)) (by omega)<|s_nil<|q_then<|c_t<|c_seq<|c_reg<|s_y (y_lda (b:=b19) (cs:=#[I c.p,I c.d,I c.v,I c.l,I c.st,.slice x63.aa (L.length + 1) x63.ac,.slice none 0 0]) (hl:=rfl))<|s_sta (b:=b7) (vs:=#[I c.p,I c.d,I c.v,I c.l,I c.st,.slice x63.aa (L.length + 1) x63.ac,.slice none 0 0]) (cs:=#[I c.p,I c.d,I c.v,I c.l,I c.st,.slice y.1 L.length y.2,.slice none 0 0]) (h1:=one_allA rfl) (hl:=rfl) (hs1:=rfl) ?_
          refine s_nil<|q_then<|c_reg<|s_y y_mv<|s_y (y_add (p:=(L.length:Nat)) (q:=1))<|s_y y_as<|s_nil<|q_nb<|q_then<|c_reg<|s_y y_mv<|s_y (y_add (p:=(i:Nat)) (q:=1))<|s_y y_as<|s_nil<|?_
          refine q_sub (l':=.row x63.aa x63.ac 74 5 (L.length + 1) (apc (L ++ [nAp (apl c L) g k (kk + 1) (hor cs (kk + 1)) x x63.ba x63.bc])) :: .row x63.ba x63.bc 5 1 ((wtx (apl c L) g k (kk + 1) (hor cs (kk + 1))).length) (bs (wtx (apl c L) g k (kk + 1) (hor cs (kk + 1)))) :: .blk b12 (.cells #[I 0,I 0,I 0,I 0,I 0,.slice none 0 0,.slice none 0 0] 30 (0,0)) :: .blk b11 (.cells (bs k).toArray 24 (0,0)) :: .blk b7 (.cells #[I c.p,I c.d,I c.v,I c.l,I c.st,.slice x63.aa (L.length + 1) x63.ac,.slice none 0 0] 30 (0,0)) :: .blk b6 (.cells #[I p.id,I p.rk,.slice ga p.gs.length gc,I p.need,I p.cool] 26 (0,0)) :: bods 5 L) (by repeat (first | exact List.nil_sublist _ | exact List.Sublist.refl _ | apply List.Sublist.cons_cons | apply List.Sublist.cons)) ?_
          refine q_perm (l':=.row x63.aa x63.ac 74 5 (L.length + 1) (apc (L ++ [nAp (apl c L) g k (kk + 1) (hor cs (kk + 1)) x x63.ba x63.bc])) :: .blk b12 (.cells #[I 0,I 0,I 0,I 0,I 0,.slice none 0 0,.slice none 0 0] 30 (0,0)) :: .blk b11 (.cells (bs k).toArray 24 (0,0)) :: .blk b7 (.cells #[I c.p,I c.d,I c.v,I c.l,I c.st,.slice x63.aa (L.length + 1) x63.ac,.slice none 0 0] 30 (0,0)) :: .blk b6 (.cells #[I p.id,I p.rk,.slice ga p.gs.length gc,I p.need,I p.cool] 26 (0,0)) :: .row x63.ba x63.bc 5 1 ((wtx (apl c L) g k (kk + 1) (hor cs (kk + 1))).length) (bs (wtx (apl c L) g k (kk + 1) (hor cs (kk + 1)))) :: bods 5 L) (.cons _ (List.perm_middle (l₁:=([.blk b12 (.cells #[I 0,I 0,I 0,I 0,I 0,.slice none 0 0,.slice none 0 0] 30 (0,0)),.blk b11 (.cells (bs k).toArray 24 (0,0)),.blk b7 (.cells #[I c.p,I c.d,I c.v,I c.l,I c.st,.slice x63.aa (L.length + 1) x63.ac,.slice none 0 0] 30 (0,0)),.blk b6 (.cells #[I p.id,I p.rk,.slice ga p.gs.length gc,I p.need,I p.cool] 26 (0,0))]:SH)))) ?_
          refine q_round4 (x:=i) (y:=L) (z:=y) (u:=L.length) (i + 1) (L ++ [nAp (apl c L) g k (kk + 1) (hor cs (kk + 1)) x x63.ba x63.bc]) (x63.aa,x63.ac) (L.length + 1) ⟨by omega,List.length_append,by omega,hI.snoc hp hgi hin hka hkb⟩ (by omega) ⟨rfl,rfl,rfl,rfl,rfl,rfl,rfl,rfl,rfl,rfl,trivial⟩ (show List.Sublist (.row x63.aa x63.ac 74 5 (L.length + 1) (apc (L ++ [nAp (apl c L) g k (kk + 1) (hor cs (kk + 1)) x x63.ba x63.bc])) :: .blk b12 (.cells #[I 0,I 0,I 0,I 0,I 0,.slice none 0 0,.slice none 0 0] 30 (0,0)) :: .blk b11 (.cells (bs k).toArray 24 (0,0)) :: .blk b7 (.cells #[I c.p,I c.d,I c.v,I c.l,I c.st,.slice x63.aa (L.length + 1) x63.ac,.slice none 0 0] 30 (0,0)) :: .blk b6 (.cells #[I p.id,I p.rk,.slice ga p.gs.length gc,I p.need,I p.cool] 26 (0,0)) :: bods 5 (L ++ [nAp (apl c L) g k (kk + 1) (hor cs (kk + 1)) x x63.ba x63.bc])) _ from bods_snoc _ L _ ▸ List.Sublist.refl _)
    · refine c_seq<|c_seq<|c_reg<|s_y y_mv<|s_y y_mv<|s_y y_len<|s_kt (y_lss (p:=(i:Nat)) (q:=qs.length)) (by omega)<|s_nil<|q_then<|c_t<|c_skip<|q_then<|c_seq<|c_block<|c_seq<|c_reg<|s_y y_mv<|s_y y_mv<|s_y (y_ixs1 (xs:=is qs) (i:=((i:Nat):Int)) (hr:=(rdW0 hrq)))<|s_y (y_ldi (i:=i) (q:=qs) (hr:=(rdW0 hrq)) (hi:=by omega))<|?_
      rw [hq]
      refine s_y (y_andm (m:=4) (p:=q) (q:=15) (hq:=rfl) (hm:=by decide))<|?_
      rw [hkk]
      refine s_y y_as<|s_nil<|q_then<|c_seq<|c_seq<|c_reg<|s_y y_mv<|s_y y_fa<|s_y (y_ld (b:=b6) (v:=.slice ga p.gs.length gc))<|s_y y_len<|s_kt (y_geq (p:=(kk:Nat)) (q:=p.gs.length)) (by omega)<|s_y y_mv<|s_no<|s_no<|s_no<|s_no<|s_y y_pk<|s_nil<|q_then<|c_t<|c_exit<|q_ex<|q_exb<|q_then<|c_reg<|s_y y_mv<|s_y (y_add (p:=(i:Nat)) (q:=1))<|s_y y_as<|s_nil<|?_
      refine q_round4 (x:=i) (y:=L) (z:=y) (u:=L.length) (i + 1) L y L.length ⟨by omega,rfl,by omega,hI⟩ (by omega) ⟨rfl,rfl,rfl,rfl,rfl,rfl,rfl,rfl,rfl,rfl,trivial⟩ (by repeat (first | exact List.nil_sublist _ | exact List.Sublist.refl _ | apply List.Sublist.cons_cons | apply List.Sublist.cons))
  · refine c_seq<|c_seq<|c_reg<|s_y y_mv<|s_y y_mv<|s_y y_len<|s_kf (y_lss (p:=(i:Nat)) (q:=qs.length)) (by omega)<|s_nil<|q_then<|c_f<|c_exit<|q_ex<|q_ex<|q_exb<|q_then<|c_seq<|c_reg<|s_y (y_lda (b:=b7) (cs:=#[I c.p,I c.d,I c.v,I c.l,I c.st,.slice y.1 L.length y.2,.slice none 0 0]) (hl:=rfl))<|s_y y_mv<|s_sta (b:=b12) (vs:=#[I c.p,I c.d,I c.v,I c.l,I c.st,.slice y.1 L.length y.2,.slice none 0 0]) (cs:=#[I 0,I 0,I 0,I 0,I 0,.slice none 0 0,.slice none 0 0]) (h1:=one_allA rfl) (hl:=rfl) (hs1:=rfl) ?_
    refine s_y y_as<|s_nil<|q_then<|c_ret<|?_
    exact ret2 Tryz.results27 (rv_ca (b:=b12) (cs:=#[I c.p,I c.d,I c.v,I c.l,I c.st,.slice y.1 L.length y.2,.slice none 0 0]) (hl:=rfl)) rv_t fun w' hw=>⟨(L,y),⟨hI,by show L.length ≤ 8; omega⟩,rfl,hw.sub (.cons_cons _ (.cons _ (.cons _ (.cons _ (.cons _ (.refl _))))))⟩
end Go.Proofs.YtojohglifijnnaaGreatDoor
end
section
namespace Eng
open Go
theorem y_rem8 {P:Program} {n:Nat} {D:List Deferred} {W:World} {Bo:List Nat} {F:List (Nat × Value)} {l:SH} {d:Option Tmp} {ty:TypeId} {ps:String} {af:Array Edge} {g:Option (Nat × Bool)} {x y:Operand} {ta tb:TypeId}
    {p q:UInt8} (hx:evO F x = some (B p):=by rfl) (hy:evO F y = some (B q):=by rfl) (h1:0 < q.toNat:=by decide):Y P n D W Bo ⟨d,.binOp .rem ta x y tb,ty,ps,af,g⟩ F l (B (p % q)) :=
  .mk (by simp) fun a w ha _=>by
    have h5:q.toNat ≠ 0:=by omega
    simp [execOp,ha.eval hx,ha.eval hy,eqGuard,binOp,Op.intDiv,h5,Int.tmod_eq_emod_of_nonneg]
end Eng
namespace Rst
open Go Eng Gf Sha Sig Wr Cod Cha Go.Proofs.YtojohglifijnnaaGreatDoor
section
variable {id cool dd st key number:Int} {N ac:Nat} {gs:List Int} {k:List UInt8} {L:List Ap} {cs:List Nat}
theorem suc_fin (hps:Prs (stP id gs ((N + 1:Nat):Int) cool k)) (hI:AInv (stP id gs ((N + 1:Nat):Int) cool k) (opC (stP id gs ((N + 1:Nat):Int) cool k) dd (pp 4 (k5N key):Nat) (pp 4 (k5N number):Nat) st) (cof (expand k lbShs []) (dscal k lbRec) N) L ac) (hn:¬ ((L.length:Nat):Int) < ((N + 1:Nat):Int)):FinOk (stP id gs ((N + 1:Nat):Int) cool k) (apl (opC (stP id gs ((N + 1:Nat):Int) cool k) dd (pp 4 (k5N key):Nat) (pp 4 (k5N number):Nat) st) L) (st + cool) 1 (k5N number) ∧ (jnV (isort (shL (k5N number) (apl (opC (stP id gs ((N + 1:Nat):Int) cool k) dd (pp 4 (k5N key):Nat) (pp 4 (k5N number):Nat) st) L) (stP id gs ((N + 1:Nat):Int) cool k).need.toNat))).toNat = dscal k lbRec:=by
  refine good_fin (cs:=(cof (expand k lbShs []) (dscal k lbRec) N)) (stE_0 hps hI.b (by show ¬ (false = true); simp) (by show ¬ (st + cool < st + cool); omega) hn) (k5N_pos _) (k5N_lt _) rfl (fun z hz=>?_) ?_ (hor_cof _ _ (scal_lt _ _).2) (scal_lt _ _).1 rfl (by decide)
  · obtain ⟨i,h1,h2,h3⟩:=hI.g z hz
    exact ⟨i,h1,h2,h3 _ rfl⟩
  · rw [cof_length]; exact (Int.toNat_natCast _).symm
theorem suc_few (hps:Prs (stP id gs ((N + 1:Nat):Int) cool k)) (hI:AInv (stP id gs ((N + 1:Nat):Int) cool k) (opC (stP id gs ((N + 1:Nat):Int) cool k) dd (pp 4 (k5N key):Nat) (pp 4 (k5N number):Nat) st) cs L ac) (hn:((L.length:Nat):Int) < ((N + 1:Nat):Int)):stE (stP id gs ((N + 1:Nat):Int) cool k) (apl (opC (stP id gs ((N + 1:Nat):Int) cool k) dd (pp 4 (k5N key):Nat) (pp 4 (k5N number):Nat) st) L) (st + cool) = 390 :=
  stE_few hps hI.b (by show ¬ (false = true); simp) (by show ¬ (st + cool < st + cool); omega) hn
theorem suc_early (hps:Prs (stP id gs ((N + 1:Nat):Int) cool k)) (hI:AInv (stP id gs ((N + 1:Nat):Int) cool k) (opC (stP id gs ((N + 1:Nat):Int) cool k) dd (pp 4 (k5N key):Nat) (pp 4 (k5N number):Nat) st) cs L ac):stE (stP id gs ((N + 1:Nat):Int) cool k) (apl (opC (stP id gs ((N + 1:Nat):Int) cool k) dd (pp 4 (k5N key):Nat) (pp 4 (k5N number):Nat) st) L) (st + cool - 1) = 391 :=
  stE_391 hps hI.b (by show ¬ (false = true); simp) (by show st + cool - 1 < st + cool; omega)
end
end Rst
namespace Go.Proofs.YtojohglifijnnaaGreatDoor
open Go Eng Gf Sha Sig Wr Cod Cha Rst
set_option maxRecDepth 100000
set_option linter.all false
theorem law_Succeeds_g (w:World) (id cool number key now:Int) (gs qs:List Int) (k:List UInt8) (u:UInt8) (qga qa:Option Addr) (qgc qc:Nat) (need:Int) (hg:LC w) (hk:k.length = 32) (hrq:Rd w qga (is gs)) (hrp:Rd w qa (is qs)) (h6:¬ gs.length ≤ 6):Pure Tryz.prog 6 [I id,.slice qga gs.length qgc,I need,I cool,.agg (bs k).toArray,B u,I number,I key,.slice qa qs.length qc,I now] w (.bool true):=by
  refine enter Tryz.func6 Tryz.ntmps6 ?_
  refine c_seq<|c_reg<|s_box rfl fun b14=>s_y y_as<|s_nil<|q_then<|c_seq<|c_seq<|c_reg<|s_pure (fun w' hw=>law_sane_ok w' (hg.st hw))<|s_y (v:=.bool false) (y_not (b:=true))<|s_nil<|q_then<|c_f<|c_skip<|q_then<|c_seq<|c_seq<|c_reg<|s_y y_mv<|s_y y_len<|s_kt (y_gtr (p:=gs.length) (q:=6)) (by omega)<|s_y y_mv<|s_no<|s_no<|s_no<|s_y y_pk<|s_nil<|q_then<|c_t<|c_seq<|c_reg<|s_y y_as<|s_nil<|q_then<|c_ret<|q_ret<|?_
  exact ret1 Tryz.results6 rv_t fun w' hw=>⟨rfl,hw.sub (List.nil_sublist _)⟩
theorem law_Succeeds_q (w:World) (id cool number key now:Int) (gs qs:List Int) (k:List UInt8) (u:UInt8) (qga qa:Option Addr) (qgc qc:Nat) (need:Int) (hg:LC w) (hk:k.length = 32) (hrq:Rd w qga (is gs)) (hrp:Rd w qa (is qs)) (h6:gs.length ≤ 6) (h8:¬ qs.length ≤ 8):Pure Tryz.prog 6 [I id,.slice qga gs.length qgc,I need,I cool,.agg (bs k).toArray,B u,I number,I key,.slice qa qs.length qc,I now] w (.bool true):=by
  refine enter Tryz.func6 Tryz.ntmps6 ?_
  refine c_seq<|c_reg<|s_box rfl fun b14=>s_y y_as<|s_nil<|q_then<|c_seq<|c_seq<|c_reg<|s_pure (fun w' hw=>law_sane_ok w' (hg.st hw))<|s_y (v:=.bool false) (y_not (b:=true))<|s_nil<|q_then<|c_f<|c_skip<|q_then<|c_seq<|c_seq<|c_reg<|s_y y_mv<|s_y y_len<|s_kf (y_gtr (p:=gs.length) (q:=6)) (by omega)<|s_y y_mv<|s_y y_mv<|s_y y_len<|s_kt (y_gtr (p:=qs.length) (q:=8)) (by omega)<|s_y y_pk<|s_nil<|q_then<|c_t<|c_seq<|c_reg<|s_y y_as<|s_nil<|q_then<|c_ret<|q_ret<|?_
  exact ret1 Tryz.results6 rv_t fun w' hw=>⟨rfl,hw.sub (List.nil_sublist _)⟩
theorem law_Succeeds_no (w:World) (id cool number key now:Int) (gs qs:List Int) (k:List UInt8) (u:UInt8) (qga qa:Option Addr) (qgc qc:Nat) (need:Int) (hg:LC w) (hk:k.length = 32) (hrq:Rd w qga (is gs)) (hrp:Rd w qa (is qs)) (h6:gs.length ≤ 6) (hql8:qs.length ≤ 8) (hps:¬ Prs (stP id gs need cool k)):Pure Tryz.prog 6 [I id,.slice qga gs.length qgc,I need,I cool,.agg (bs k).toArray,B u,I number,I key,.slice qa qs.length qc,I now] w (.bool true):=by
  have hql:gs.length ≤ 1000000:=by omega
  have hgl:gs.length ≤ 1000000:=by omega
  refine enter Tryz.func6 Tryz.ntmps6 ?_
  refine c_seq<|c_reg<|s_box rfl fun b14=>s_y y_as<|s_nil<|q_then<|c_seq<|c_seq<|c_reg<|s_pure (fun w' hw=>law_sane_ok w' (hg.st hw))<|s_y (v:=.bool false) (y_not (b:=true))<|s_nil<|q_then<|c_f<|c_skip<|q_then<|c_seq<|c_seq<|c_reg<|s_y y_mv<|s_y y_len<|s_kf (y_gtr (p:=gs.length) (q:=6)) (by omega)<|s_y y_mv<|s_y y_mv<|s_y y_len<|s_kf (y_gtr (p:=qs.length) (q:=8)) (by omega)<|s_y y_pk<|s_nil<|q_then<|c_f<|c_skip<|q_then<|c_seq<|c_reg<|s_y y_mv<|s_y y_mv<|s_y y_mv<|s_y y_mv<|s_y (y_lda (b:=b14) (cs:=(bs k).toArray) (hl:=(hz32 hk)))<|s_pure (fun w' hw=>Setup_no w' id cool need gs k qga qgc (hg.st hw).1 hk (hrq.st hw) hql hps)<|s_y y_mv<|s_y y_ext<|s_y y_ext<|s_y y_ext<|s_alloc fun b21=>s_sta (b:=b21) (vs:=#[I 0,I 0,.slice none 0 0,I 0,I 0]) (cs:=#[I 0,I 0,.slice none 0 0,I 0,I 0]) (h1:=one_allA rfl) (hl:=rfl) (hs1:=rfl) ?_
  refine s_y y_as<|s_y y_as<|s_nil<|q_then<|c_seq<|c_reg<|s_y y_mv<|s_pure (fun w' hw=>r5_Key_ok w' number)<|s_y y_mv<|s_pure (fun w' hw=>r5_Key_ok w' key)<|s_y y_as<|s_y y_as<|s_nil<|q_then<|c_seq<|c_reg<|s_y y_mv<|s_pure (fun w' hw=>sPublic_yes w' (k5N number) (k5N_pos _) (k5N_lt _))<|s_y y_mv<|s_y y_ext<|s_y y_ext<|s_y y_as<|s_y y_as<|s_nil<|q_then<|c_seq<|c_reg<|s_y y_mv<|s_pure (fun w' hw=>sPublic_yes w' (k5N key) (k5N_pos _) (k5N_lt _))<|s_y y_mv<|s_y y_ext<|s_y y_ext<|s_y y_as<|s_y y_as<|s_nil<|q_then<|c_seq<|c_seq<|c_reg<|s_y y_mv<|s_nt (y_neq (p:=371) (q:=0)) (by omega)<|s_y y_mv<|s_no<|s_no<|s_y y_pk<|s_y y_mv<|s_no<|s_no<|s_y y_pk<|s_nil<|q_then<|c_t<|c_seq<|c_reg<|s_y y_mv<|s_kt (y_eql (p:=0) (q:=0)) (by omega)<|s_y y_mv<|s_y y_mv<|s_kt (y_eql (p:=0) (q:=0)) (by omega)<|s_y y_pk<|s_y y_as<|s_nil<|q_then<|c_ret<|q_ret<|?_
  exact ret1 Tryz.results6 rv_t fun w' hw=>⟨rfl,hw.sub (List.nil_sublist _)⟩
theorem law_Succeeds_y (w:World) (id cool number key now:Int) (gs qs:List Int) (k:List UInt8) (u:UInt8) (qga qa:Option Addr) (qgc qc:Nat) (N:Nat) (hg:LC w) (hk:k.length = 32) (hrq:Rd w qga (is gs)) (hrp:Rd w qa (is qs)) (h6:gs.length ≤ 6) (hql8:qs.length ≤ 8) (hps:Prs (stP id gs ((N + 1:Nat):Int) cool k)):Pure Tryz.prog 6 [I id,.slice qga gs.length qgc,I ((N + 1:Nat):Int),I cool,.agg (bs k).toArray,B u,I number,I key,.slice qa qs.length qc,I now] w (.bool true):=by
  have hql:gs.length ≤ 1000000:=by omega
  have hgl:gs.length ≤ 1000000:=by omega
  have hid:0 ≤ id ∧ id ≤ 63:=hps.id
  have hcl:1 ≤ cool ∧ cool ≤ 1048576:=hps.cool
  have hnd:(1:Int) ≤ ((N + 1:Nat):Int) ∧ ((N + 1:Nat):Int) ≤ gs.length:=hps.need
  have hcol:(cof (expand k lbShs []) (dscal k lbRec) N).length ≤ gs.length:=by rw [cof_length]; omega
  have hu:(u % 8).toNat < 8:=by rw [UInt8.toNat_mod]; exact Nat.mod_lt _ (by decide)
  obtain ⟨dd,hdd⟩:∃ dd,dd = id * 8 + (((u % 8).toNat:Nat):Int):=⟨_,rfl⟩
  obtain ⟨n10,h10⟩:∃ n10,n10 = now % 2 ^ 10:=⟨_,rfl⟩
  have h10b:0 ≤ n10 ∧ n10 < 1024:=by omega
  obtain ⟨st,hst⟩:∃ st,st = 1 + n10:=⟨_,rfl⟩
  have hbc:Blg (stP id gs ((N + 1:Nat):Int) cool k) (opC (stP id gs ((N + 1:Nat):Int) cool k) dd (pp 4 (k5N key):Nat) (pp 4 (k5N number):Nat) st):=⟨rfl,(show id * 8 ≤ dd ∧ dd ≤ id * 8 + 8 - 1 by omega),chk_pub _,chk_pub _,(show 1 ≤ st ∧ st ≤ 65536 by omega),List.nodup_nil,List.nodup_nil,fun _ h=>by cases h⟩
  refine enter Tryz.func6 Tryz.ntmps6 ?_
  refine c_seq<|c_reg<|s_box rfl fun b14=>s_y y_as<|s_nil<|q_then<|c_seq<|c_seq<|c_reg<|s_pure (fun w' hw=>law_sane_ok w' (hg.st hw))<|s_y (v:=.bool false) (y_not (b:=true))<|s_nil<|q_then<|c_f<|c_skip<|q_then<|c_seq<|c_seq<|c_reg<|s_y y_mv<|s_y y_len<|s_kf (y_gtr (p:=gs.length) (q:=6)) (by omega)<|s_y y_mv<|s_y y_mv<|s_y y_len<|s_kf (y_gtr (p:=qs.length) (q:=8)) (by omega)<|s_y y_pk<|s_nil<|q_then<|c_f<|c_skip<|q_then<|c_seq<|c_reg<|s_y y_mv<|s_y y_mv<|s_y y_mv<|s_y y_mv<|s_y (y_lda (b:=b14) (cs:=(bs k).toArray) (hl:=(hz32 hk)))<|s_gives (fun w' hw=>Setup_yes w' id cool N gs k qga qgc (hg.st hw).1 hk (hrq.st hw) hql hps) fun (x59:(Option Addr × Nat) × (Option Addr × Nat)) _=>s_y y_mv<|s_y y_ext<|s_y y_ext<|s_y y_ext<|s_alloc fun b21=>s_sta (b:=b21) (vs:=#[I id,I (pp 4 (dscal k lbRec):Nat),.slice x59.1.1 gs.length x59.1.2,I ((N + 1:Nat):Int),I cool]) (cs:=#[I 0,I 0,.slice none 0 0,I 0,I 0]) (h1:=one_allA rfl) (hl:=rfl) (hs1:=rfl) ?_
  refine s_y y_as<|s_y y_as<|s_nil<|q_then<|c_seq<|c_reg<|s_y y_mv<|s_pure (fun w' hw=>r5_Key_ok w' number)<|s_y y_mv<|s_pure (fun w' hw=>r5_Key_ok w' key)<|s_y y_as<|s_y y_as<|s_nil<|q_then<|c_seq<|c_reg<|s_y y_mv<|s_pure (fun w' hw=>sPublic_yes w' (k5N number) (k5N_pos _) (k5N_lt _))<|s_y y_mv<|s_y y_ext<|s_y y_ext<|s_y y_as<|s_y y_as<|s_nil<|q_then<|c_seq<|c_reg<|s_y y_mv<|s_pure (fun w' hw=>sPublic_yes w' (k5N key) (k5N_pos _) (k5N_lt _))<|s_y y_mv<|s_y y_ext<|s_y y_ext<|s_y y_as<|s_y y_as<|s_nil<|q_then<|c_seq<|c_seq<|c_reg<|s_y y_mv<|s_nf (y_neq (p:=0) (q:=0)) (by omega)<|s_y y_mv<|s_y y_mv<|s_nf (y_neq (p:=0) (q:=0)) (by omega)<|s_y y_pk<|s_y y_mv<|s_y y_mv<|s_nf (y_neq (p:=0) (q:=0)) (by omega)<|s_y y_pk<|s_nil<|q_then<|c_f<|c_skip<|q_then<|c_seq<|c_reg<|s_y y_mv<|s_y (y_andm (m:=10) (p:=now) (q:=1023) (hq:=rfl) (hm:=by decide))<|?_
  rw [← h10]
  refine s_y (y_add (p:=1) (q:=n10))<|?_
  rw [← hst]
  refine s_y y_as<|s_nil<|q_then<|c_seq<|c_reg<|s_y (y_lda (b:=b21) (cs:=#[I id,I (pp 4 (dscal k lbRec):Nat),.slice x59.1.1 gs.length x59.1.2,I ((N + 1:Nat):Int),I cool]) (hl:=rfl))<|s_y y_mv<|s_y (y_mul (p:=id) (q:=8))<|s_y y_mv<|s_y (y_rem8 (p:=u) (q:=8) rfl rfl (by decide))<|s_y (y_cvn (k:=.i64) (p:=(((u % 8).toNat:Nat):Int)) (hw:=wrap_i64 (by unfold R64; omega)))<|s_y (y_add (p:=id * 8) (q:=(((u % 8).toNat:Nat):Int)))<|?_
  rw [← hdd]
  refine s_y y_mv<|s_y y_mv<|s_y y_mv<|s_pure (fun w' hw=>Open_y w' (stP id gs ((N + 1:Nat):Int) cool k) x59.1.1 x59.1.2 (rdR (.tail _ (.tail _ (.head _))) w' hw) (show gs.length ≤ 1000000000000000 by omega) dd (pp 4 (k5N key):Nat) (pp 4 (k5N number):Nat) st hps hbc)<|s_y y_mv<|s_y y_ext<|s_y y_ext<|s_alloc fun b31=>s_sta (b:=b31) (vs:=#[I id,I dd,I (pp 4 (k5N key):Nat),I (pp 4 (k5N number):Nat),I st,.slice none 0 0,.slice none 0 0]) (cs:=#[I 0,I 0,I 0,I 0,I 0,.slice none 0 0,.slice none 0 0]) (h1:=one_allA rfl) (hl:=rfl) (hs1:=rfl) ?_
  refine s_y y_as<|s_nil<|q_then<|c_seq<|c_seq<|c_reg<|s_y y_mv<|s_nf (y_neq (p:=0) (q:=0)) (by omega)<|s_y y_mv<|s_y y_mv<|s_y y_len<|s_y y_mv<|s_y y_len<|s_nf (y_neq (p:=gs.length) (q:=gs.length)) (by trivial)<|s_y y_pk<|s_nil<|q_then<|c_f<|c_skip<|q_then<|c_seq<|c_reg<|s_y (y_lda (b:=b21) (cs:=#[I id,I (pp 4 (dscal k lbRec):Nat),.slice x59.1.1 gs.length x59.1.2,I ((N + 1:Nat):Int),I cool]) (hl:=rfl))<|s_y (y_lda (b:=b31) (cs:=#[I id,I dd,I (pp 4 (k5N key):Nat),I (pp 4 (k5N number):Nat),I st,.slice none 0 0,.slice none 0 0]) (hl:=rfl))<|s_y y_mv<|s_y y_mv<|s_y y_mv<|s_y (y_lda (b:=b14) (cs:=(bs k).toArray) (hl:=(hz32 hk)))<|s_gives (fun w' hw=>approved_ok w' (stP id gs ((N + 1:Nat):Int) cool k) (opC (stP id gs ((N + 1:Nat):Int) cool k) dd (pp 4 (k5N key):Nat) (pp 4 (k5N number):Nat) st) (cof (expand k lbShs []) (dscal k lbRec) N) x59.1.1 x59.2.1 qa x59.1.2 x59.2.2 qc qs (k5N key) k (hg.st hw) hk (rdR (.tail _ (.tail _ (.tail _ (.head _)))) w' hw) (rdR (.tail _ (.tail _ (.head _))) w' hw) (hrp.st hw) hps hbc hql8 (k5N_pos _) (k5N_lt _)) fun (x126:List Ap × (Option Addr × Nat)) hap=>?_
  refine s_permB (l':=.row x126.2.1 x126.2.2 74 5 x126.1.length (apc x126.1) :: .blk b31 (.cells #[I id,I dd,I (pp 4 (k5N key):Nat),I (pp 4 (k5N number):Nat),I st,.slice none 0 0,.slice none 0 0] 30 (0,0)) :: .blk b21 (.cells #[I id,I (pp 4 (dscal k lbRec):Nat),.slice x59.1.1 gs.length x59.1.2,I ((N + 1:Nat):Int),I cool] 26 (0,0)) :: .row x59.2.1 x59.2.2 46 2 gs.length (shc (sN (spl (cof (expand k lbShs []) (dscal k lbRec) N) gs.length))) :: .row x59.1.1 x59.1.2 3 1 gs.length (is gs) :: .blk b14 (.cells (bs k).toArray 24 (0,0)) :: bods 5 x126.1) (.cons _ (List.perm_append_comm (l₁:=([.blk b31 (.cells #[I id,I dd,I (pp 4 (k5N key):Nat),I (pp 4 (k5N number):Nat),I st,.slice none 0 0,.slice none 0 0] 30 (0,0)),.blk b21 (.cells #[I id,I (pp 4 (dscal k lbRec):Nat),.slice x59.1.1 gs.length x59.1.2,I ((N + 1:Nat):Int),I cool] 26 (0,0)),.row x59.2.1 x59.2.2 46 2 gs.length (shc (sN (spl (cof (expand k lbShs []) (dscal k lbRec) N) gs.length))),.row x59.1.1 x59.1.2 3 1 gs.length (is gs),.blk b14 (.cells (bs k).toArray 24 (0,0))]:SH)) (l₂:=bods 5 x126.1))) ?_
  refine s_y y_mv<|s_y y_ext<|s_y y_ext<|s_sta (b:=b31) (vs:=#[I id,I dd,I (pp 4 (k5N key):Nat),I (pp 4 (k5N number):Nat),I st,.slice x126.2.1 x126.1.length x126.2.2,.slice none 0 0]) (cs:=#[I id,I dd,I (pp 4 (k5N key):Nat),I (pp 4 (k5N number):Nat),I st,.slice none 0 0,.slice none 0 0]) (h1:=one_allA rfl) (hl:=rfl) (hs1:=rfl) ?_
  refine s_y y_as<|s_nil<|q_then<|c_seq<|c_reg<|s_y y_mv<|s_pure (fun w' hw=>(by have h9:=l_secret_ok w' x59.2.1 x59.2.2 (sN (spl (cof (expand k lbShs []) (dscal k lbRec) N) gs.length)) (rdR (.tail _ (.tail _ (.tail _ (.head _)))) w' hw) (by rw [sN_length,spl_length]; omega); rw [sN_length,spl_length,(join_spl (cs:=(cof (expand k lbShs []) (dscal k lbRec) N)) (m:=gs.length) (by omega) (by omega) hcol).2,hor_cof (x:=dscal k lbRec) _ _ (scal_lt _ _).2] at h9; exact h9))<|s_y y_as<|s_nil<|q_then<|c_seq<|c_reg<|s_y (y_lda (b:=b21) (cs:=#[I id,I (pp 4 (dscal k lbRec):Nat),.slice x59.1.1 gs.length x59.1.2,I ((N + 1:Nat):Int),I cool]) (hl:=rfl))<|s_y (y_lda (b:=b31) (cs:=#[I id,I dd,I (pp 4 (k5N key):Nat),I (pp 4 (k5N number):Nat),I st,.slice x126.2.1 x126.1.length x126.2.2,.slice none 0 0]) (hl:=rfl))<|s_y y_mv<|s_y y_mv<|s_y (y_add (p:=st) (q:=cool))<|s_y y_mv<|?_
  by_cases hfew:((x126.1.length:Nat):Int) < ((N + 1:Nat):Int)
  · refine s_pure (fun w' hw=>(by have hE:=suc_few hps hap.1 hfew; have h9:=Finish_st w' (stP id gs ((N + 1:Nat):Int) cool k) (apl (opC (stP id gs ((N + 1:Nat):Int) cool k) dd (pp 4 (k5N key):Nat) (pp 4 (k5N number):Nat) st) x126.1) (st + cool) 1 x59.1.1 x126.2.1 none x59.1.2 x126.2.2 0 (rdR (.tail _ (.tail _ (.tail _ (.tail _ (.head _))))) w' hw) (rdR (.head _) w' hw) (Rd.nil _ _) hgl (Nat.le_trans hap.2 (by decide)) (Nat.zero_le _) (k5N number:Nat) (by rw [hE]; decide); rw [hE] at h9; exact h9))<|s_y y_mv<|s_y y_ext<|s_y y_ext<|s_alloc fun b35=>s_sta (b:=b35) (vs:=#[I 0,I 0,I 0,I 0,I 0,I 0,I 0,I 0]) (cs:=#[I 0,I 0,I 0,I 0,I 0,I 0,I 0,I 0]) (h1:=one_allA rfl) (hl:=(show (8:Nat) = 8 from rfl)) (hs1:=rfl) ?_
    refine s_y y_as<|s_nil<|q_then<|c_seq<|c_reg<|s_y (y_lda (b:=b21) (cs:=#[I id,I (pp 4 (dscal k lbRec):Nat),.slice x59.1.1 gs.length x59.1.2,I ((N + 1:Nat):Int),I cool]) (hl:=rfl))<|s_y (y_lda (b:=b31) (cs:=#[I id,I dd,I (pp 4 (k5N key):Nat),I (pp 4 (k5N number):Nat),I st,.slice x126.2.1 x126.1.length x126.2.2,.slice none 0 0]) (hl:=rfl))<|s_y y_mv<|s_y y_mv<|s_y (y_add (p:=st) (q:=cool))<|s_y (y_sub (p:=st + cool) (q:=1))<|s_y y_mv<|s_pure (fun w' hw=>(by have hE:=suc_early hps hap.1; have h9:=Finish_st w' (stP id gs ((N + 1:Nat):Int) cool k) (apl (opC (stP id gs ((N + 1:Nat):Int) cool k) dd (pp 4 (k5N key):Nat) (pp 4 (k5N number):Nat) st) x126.1) ((st + cool) - 1) 1 x59.1.1 x126.2.1 none x59.1.2 x126.2.2 0 (rdR (.tail _ (.tail _ (.tail _ (.tail _ (.tail _ (.head _)))))) w' hw) (rdR (.tail _ (.head _)) w' hw) (Rd.nil _ _) hgl (Nat.le_trans hap.2 (by decide)) (Nat.zero_le _) (k5N number:Nat) (by rw [hE]; decide); rw [hE] at h9; exact h9))<|s_y y_mv<|s_y y_ext<|s_y y_ext<|s_alloc fun b37=>s_sta (b:=b37) (vs:=#[I 0,I 0,I 0,I 0,I 0,I 0,I 0,I 0]) (cs:=#[I 0,I 0,I 0,I 0,I 0,I 0,I 0,I 0]) (h1:=one_allA rfl) (hl:=(show (8:Nat) = 8 from rfl)) (hs1:=rfl) ?_
    refine s_y y_as<|s_nil<|q_then<|c_seq<|c_seq<|c_reg<|s_y y_mv<|s_nf (y_neq (p:=391) (q:=391)) (by omega)<|s_y y_mv<|s_y y_fa<|s_y (y_ld (b:=b31) (v:=.slice x126.2.1 x126.1.length x126.2.2))<|s_y y_len<|s_y y_mv<|s_nf (y_neq (p:=x126.1.length) (q:=(x126.1.length:Nat))) rfl<|s_y y_pk<|s_nil<|q_then<|c_f<|c_skip<|q_then<|c_seq<|c_seq<|c_reg<|s_y y_mv<|s_y y_mv<|s_kt (y_lss (p:=(x126.1.length:Nat)) (q:=((N + 1:Nat):Int))) hfew<|s_nil<|q_then<|c_t<|c_seq<|c_reg<|s_y y_mv<|s_kt (y_eql (p:=390) (q:=390)) (by omega)<|s_y y_as<|s_nil<|q_then<|c_ret<|q_ret<|?_
    exact ret1 Tryz.results6 rv_t fun w' hw=>⟨rfl,hw.sub (List.nil_sublist _)⟩
  · refine s_pure (fun w' hw=>(by have hE:=suc_fin (number:=number) hps hap.1 hfew; have h9:=Finish_yes w' (stP id gs ((N + 1:Nat):Int) cool k) (apl (opC (stP id gs ((N + 1:Nat):Int) cool k) dd (pp 4 (k5N key):Nat) (pp 4 (k5N number):Nat) st) x126.1) (st + cool) 1 x59.1.1 x126.2.1 none x59.1.2 x126.2.2 0 ⟨(rdR (.tail _ (.tail _ (.tail _ (.tail _ (.head _))))) w' hw),(rdR (.head _) w' hw),(Rd.nil _ _),hgl,(Nat.le_trans hap.2 (by decide)),(Nat.zero_le _),hap.1.l,(blg_r5 hps hap.1.b),hap.1.k,(fun z hz=>⟨rdR (.tail _ (.tail _ (.tail _ (.tail _ (.tail _ (.tail _ (mem_bods hz))))))) w' hw,hap.1.q z hz⟩),(hg.st hw)⟩ (k5N number) hE.1; rw [hE.2] at h9; exact h9))<|s_y y_mv<|s_y y_ext<|s_y y_ext<|s_alloc fun b35=>s_sta (b:=b35) (vs:=#[I 3,I (((apl (opC (stP id gs ((N + 1:Nat):Int) cool k) dd (pp 4 (k5N key):Nat) (pp 4 (k5N number):Nat) st) x126.1)).d),I (((apl (opC (stP id gs ((N + 1:Nat):Int) cool k) dd (pp 4 (k5N key):Nat) (pp 4 (k5N number):Nat) st) x126.1)).v),I (((apl (opC (stP id gs ((N + 1:Nat):Int) cool k) dd (pp 4 (k5N key):Nat) (pp 4 (k5N number):Nat) st) x126.1)).l),I 1,I (-1),I (sgR (dscal k lbRec) (cmsg [3,((apl (opC (stP id gs ((N + 1:Nat):Int) cool k) dd (pp 4 (k5N key):Nat) (pp 4 (k5N number):Nat) st) x126.1)).d,((apl (opC (stP id gs ((N + 1:Nat):Int) cool k) dd (pp 4 (k5N key):Nat) (pp 4 (k5N number):Nat) st) x126.1)).v,((apl (opC (stP id gs ((N + 1:Nat):Int) cool k) dd (pp 4 (k5N key):Nat) (pp 4 (k5N number):Nat) st) x126.1)).l,1,-1]):Nat),I (sgS (dscal k lbRec) (cmsg [3,((apl (opC (stP id gs ((N + 1:Nat):Int) cool k) dd (pp 4 (k5N key):Nat) (pp 4 (k5N number):Nat) st) x126.1)).d,((apl (opC (stP id gs ((N + 1:Nat):Int) cool k) dd (pp 4 (k5N key):Nat) (pp 4 (k5N number):Nat) st) x126.1)).v,((apl (opC (stP id gs ((N + 1:Nat):Int) cool k) dd (pp 4 (k5N key):Nat) (pp 4 (k5N number):Nat) st) x126.1)).l,1,-1]):Nat)]) (cs:=#[I 0,I 0,I 0,I 0,I 0,I 0,I 0,I 0]) (h1:=by intro u hu; simp at hu; rcases hu with rfl | rfl | rfl | rfl | rfl | rfl | rfl | rfl <;> rfl) (hl:=(show (8:Nat) = 8 from rfl)) (hs1:=rfl) ?_
    refine s_y y_as<|s_nil<|q_then<|c_seq<|c_reg<|s_y (y_lda (b:=b21) (cs:=#[I id,I (pp 4 (dscal k lbRec):Nat),.slice x59.1.1 gs.length x59.1.2,I ((N + 1:Nat):Int),I cool]) (hl:=rfl))<|s_y (y_lda (b:=b31) (cs:=#[I id,I dd,I (pp 4 (k5N key):Nat),I (pp 4 (k5N number):Nat),I st,.slice x126.2.1 x126.1.length x126.2.2,.slice none 0 0]) (hl:=rfl))<|s_y y_mv<|s_y y_mv<|s_y (y_add (p:=st) (q:=cool))<|s_y (y_sub (p:=st + cool) (q:=1))<|s_y y_mv<|s_pure (fun w' hw=>(by have hE:=suc_early hps hap.1; have h9:=Finish_st w' (stP id gs ((N + 1:Nat):Int) cool k) (apl (opC (stP id gs ((N + 1:Nat):Int) cool k) dd (pp 4 (k5N key):Nat) (pp 4 (k5N number):Nat) st) x126.1) ((st + cool) - 1) 1 x59.1.1 x126.2.1 none x59.1.2 x126.2.2 0 (rdR (.tail _ (.tail _ (.tail _ (.tail _ (.tail _ (.head _)))))) w' hw) (rdR (.tail _ (.head _)) w' hw) (Rd.nil _ _) hgl (Nat.le_trans hap.2 (by decide)) (Nat.zero_le _) (k5N number:Nat) (by rw [hE]; decide); rw [hE] at h9; exact h9))<|s_y y_mv<|s_y y_ext<|s_y y_ext<|s_alloc fun b37=>s_sta (b:=b37) (vs:=#[I 0,I 0,I 0,I 0,I 0,I 0,I 0,I 0]) (cs:=#[I 0,I 0,I 0,I 0,I 0,I 0,I 0,I 0]) (h1:=one_allA rfl) (hl:=(show (8:Nat) = 8 from rfl)) (hs1:=rfl) ?_
    refine s_y y_as<|s_nil<|q_then<|c_seq<|c_seq<|c_reg<|s_y y_mv<|s_nf (y_neq (p:=391) (q:=391)) (by omega)<|s_y y_mv<|s_y y_fa<|s_y (y_ld (b:=b31) (v:=.slice x126.2.1 x126.1.length x126.2.2))<|s_y y_len<|s_y y_mv<|s_nf (y_neq (p:=x126.1.length) (q:=(x126.1.length:Nat))) rfl<|s_y y_pk<|s_nil<|q_then<|c_f<|c_skip<|q_then<|c_seq<|c_seq<|c_reg<|s_y y_mv<|s_y y_mv<|s_kf (y_lss (p:=(x126.1.length:Nat)) (q:=((N + 1:Nat):Int))) hfew<|s_nil<|q_then<|c_f<|c_skip<|q_then<|c_seq<|c_reg<|s_y y_fa<|s_y (y_ld (b:=b31) (v:=I dd))<|s_y y_fa<|s_y (y_ld (b:=b31) (v:=I (pp 4 (k5N key):Nat)))<|s_y y_fa<|s_y (y_ld (b:=b31) (v:=I (pp 4 (k5N number):Nat)))<|s_y y_mv<|s_pure (fun w' hw=>Certify3_yes w' dd (pp 4 (k5N key):Nat) (pp 4 (k5N number):Nat) 1 (dscal k lbRec) ⟨by omega,by decide,chk_pub _,chk_pub _⟩ (hg.st hw).1 (scal_lt _ _).1 (scal_lt _ _).2)<|s_y y_mv<|s_y y_ext<|s_y y_ext<|s_alloc fun b39=>s_sta (b:=b39) (vs:=#[I 3,I dd,I (pp 4 (k5N key):Nat),I (pp 4 (k5N number):Nat),I 1,I (-1),I (sgR (dscal k lbRec) (cmsg [3,dd,(pp 4 (k5N key):Nat),(pp 4 (k5N number):Nat),1,-1]):Nat),I (sgS (dscal k lbRec) (cmsg [3,dd,(pp 4 (k5N key):Nat),(pp 4 (k5N number):Nat),1,-1]):Nat)]) (cs:=#[I 0,I 0,I 0,I 0,I 0,I 0,I 0,I 0]) (h1:=by intro u hu; simp at hu; rcases hu with rfl | rfl | rfl | rfl | rfl | rfl | rfl | rfl <;> rfl) (hl:=(show (8:Nat) = 8 from rfl)) (hs1:=rfl) ?_
    refine s_y y_as<|s_nil<|q_then<|c_seq<|c_reg<|s_y y_mv<|s_pure (fun w' hw=>sPublic_yes w' (dscal k lbRec) (scal_lt _ _).1 (scal_lt _ _).2)<|s_y y_mv<|s_y y_ext<|s_y y_ext<|s_y y_as<|s_y y_as<|s_nil<|q_then<|c_seq<|c_reg<|s_y y_mv<|s_kt (y_eql (p:=0) (q:=0)) (by omega)<|s_y y_mv<|s_y y_mv<|s_kt (y_eql (p:=0) (q:=0)) (by omega)<|s_y y_pk<|s_y y_mv<|s_y y_mv<|s_kt (y_eql (p:=0) (q:=0)) (by omega)<|s_y y_pk<|s_y y_mv<|s_y (y_lda (b:=b35) (cs:=#[I 3,I (((apl (opC (stP id gs ((N + 1:Nat):Int) cool k) dd (pp 4 (k5N key):Nat) (pp 4 (k5N number):Nat) st) x126.1)).d),I (((apl (opC (stP id gs ((N + 1:Nat):Int) cool k) dd (pp 4 (k5N key):Nat) (pp 4 (k5N number):Nat) st) x126.1)).v),I (((apl (opC (stP id gs ((N + 1:Nat):Int) cool k) dd (pp 4 (k5N key):Nat) (pp 4 (k5N number):Nat) st) x126.1)).l),I 1,I (-1),I (sgR (dscal k lbRec) (cmsg [3,((apl (opC (stP id gs ((N + 1:Nat):Int) cool k) dd (pp 4 (k5N key):Nat) (pp 4 (k5N number):Nat) st) x126.1)).d,((apl (opC (stP id gs ((N + 1:Nat):Int) cool k) dd (pp 4 (k5N key):Nat) (pp 4 (k5N number):Nat) st) x126.1)).v,((apl (opC (stP id gs ((N + 1:Nat):Int) cool k) dd (pp 4 (k5N key):Nat) (pp 4 (k5N number):Nat) st) x126.1)).l,1,-1]):Nat),I (sgS (dscal k lbRec) (cmsg [3,((apl (opC (stP id gs ((N + 1:Nat):Int) cool k) dd (pp 4 (k5N key):Nat) (pp 4 (k5N number):Nat) st) x126.1)).d,((apl (opC (stP id gs ((N + 1:Nat):Int) cool k) dd (pp 4 (k5N key):Nat) (pp 4 (k5N number):Nat) st) x126.1)).v,((apl (opC (stP id gs ((N + 1:Nat):Int) cool k) dd (pp 4 (k5N key):Nat) (pp 4 (k5N number):Nat) st) x126.1)).l,1,-1]):Nat)]) (hl:=rfl))<|s_y (y_lda (b:=b39) (cs:=#[I 3,I dd,I (pp 4 (k5N key):Nat),I (pp 4 (k5N number):Nat),I 1,I (-1),I (sgR (dscal k lbRec) (cmsg [3,dd,(pp 4 (k5N key):Nat),(pp 4 (k5N number):Nat),1,-1]):Nat),I (sgS (dscal k lbRec) (cmsg [3,dd,(pp 4 (k5N key):Nat),(pp 4 (k5N number):Nat),1,-1]):Nat)]) (hl:=rfl))<|s_y y_eqlCt<|s_y y_pk<|s_y y_mv<|s_y y_mv<|s_y y_fa<|s_y (y_ld (b:=b21) (v:=I (pp 4 (dscal k lbRec):Nat)))<|s_kt (y_eql (p:=(pp 4 (dscal k lbRec):Nat)) (q:=(pp 4 (dscal k lbRec):Nat))) (by trivial)<|s_y y_pk<|s_y y_as<|s_nil<|q_then<|c_ret<|?_
    exact ret1 Tryz.results6 rv_t fun w' hw=>⟨rfl,hw.sub (List.nil_sublist _)⟩
theorem law_RestoreSucceeds_ok (w:World) (hg:LC w) (id need cool number key now:Int) (gs qs:List Int) (k:List UInt8) (u:UInt8) (qga qa:Option Addr) (qgc qc:Nat) (hk:k.length = 32) (hrq:Rd w qga (is gs)) (hrp:Rd w qa (is qs)) :
    Pure Tryz.prog 6 [I id,.slice qga gs.length qgc,I need,I cool,.agg (bs k).toArray,B u,I number,I key,.slice qa qs.length qc,I now] w (.bool true):=by
  by_cases h6:gs.length ≤ 6
  · by_cases h8:qs.length ≤ 8
    · by_cases hps:Prs (stP id gs need cool k)
      · have hnd:1 ≤ need:=hps.need.1
        obtain ⟨N,rfl⟩:∃ N:Nat,need = ((N + 1:Nat):Int):=⟨need.toNat - 1,by omega⟩
        exact law_Succeeds_y w id cool number key now gs qs k u qga qa qgc qc N hg hk hrq hrp h6 h8 hps
      · exact law_Succeeds_no w id cool number key now gs qs k u qga qa qgc qc need hg hk hrq hrp h6 h8 hps
    · exact law_Succeeds_q w id cool number key now gs qs k u qga qa qgc qc need hg hk hrq hrp h6 h8
  · exact law_Succeeds_g w id cool number key now gs qs k u qga qa qgc qc need hg hk hrq hrp h6
end Go.Proofs.YtojohglifijnnaaGreatDoor
end
section

end
