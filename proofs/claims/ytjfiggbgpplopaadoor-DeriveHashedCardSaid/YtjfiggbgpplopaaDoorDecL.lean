/- Reading values: all of a value. -/
import Derived.Test.YtjfiggbgpplopaaDoorDecV
namespace Cod
open Go Eng
theorem rdVal_inv {f : Nat} {x : UInt8} {q q' : List UInt8} {v : V} (h : rdVal f (x :: q) = some (v, q')) :
    (x.toNat = 1 ∧ ∃ u, rdNum 0 0 q = some (u, q') ∧ v = .mk 1 (sgn u) [] []) ∨ (x.toNat = 2 ∧ ∃ N q1, rdLen q = some (N, q1) ∧ v = .mk 2 0 (q1.take N) [] ∧ q' = q1.drop N) ∨
    (x.toNat = 3 ∧ ∃ f' N q1 L, f = f' + 1 ∧ rdLen q = some (N, q1) ∧ rdL (rdVal f') N q1 = some (L, q') ∧ v = .mk 3 0 [] L) := by
  by_cases h1 : x.toNat = 1
  · refine .inl ⟨h1, ?_⟩
    have h2 : (match rdNum 0 0 q with | some (u, q') => some (V.mk 1 (sgn u) [] [], q') | none => none) = some (v, q') := by
      cases f <;> (simp only [rdVal] at h; rwa [if_pos h1] at h)
    cases h3 : rdNum 0 0 q with
    | none => rw [h3] at h2; cases h2
    | some p =>
      obtain ⟨u, q1⟩ := p
      rw [h3] at h2
      simp only [Option.some.injEq, Prod.mk.injEq] at h2
      exact ⟨u, by rw [h2.2], h2.1.symm⟩
  by_cases h2 : x.toNat = 2
  · refine .inr (.inl ⟨h2, ?_⟩)
    have h4 : (match rdLen q with | some (n, q') => some (V.mk 2 0 (q'.take n) [], q'.drop n) | none => none) = some (v, q') := by
      cases f <;> (simp only [rdVal] at h; rwa [if_neg h1, if_pos h2] at h)
    cases h3 : rdLen q with
    | none => rw [h3] at h4; cases h4
    | some p =>
      obtain ⟨N, q1⟩ := p
      rw [h3] at h4
      simp only [Option.some.injEq, Prod.mk.injEq] at h4
      exact ⟨N, q1, rfl, h4.1.symm, h4.2.symm⟩
  cases f with
  | zero => simp only [rdVal] at h; rw [if_neg h1, if_neg h2] at h; cases h
  | succ f =>
    simp only [rdVal] at h
    rw [if_neg h1, if_neg h2] at h
    by_cases h3 : x.toNat = 3
    · rw [if_pos h3] at h
      refine .inr (.inr ⟨h3, f, ?_⟩)
      cases h4 : rdLen q with
      | none => rw [h4] at h; cases h
      | some p =>
        obtain ⟨N, q1⟩ := p
        rw [h4] at h
        simp only at h
        cases h5 : rdL (rdVal f) N q1 with
        | none => rw [h5] at h; cases h
        | some p =>
          obtain ⟨L, q2⟩ := p
          rw [h5] at h
          simp only [Option.some.injEq, Prod.mk.injEq] at h
          exact ⟨N, q1, L, rfl, rfl, by rw [h5, h.2], h.1.symm⟩
    · rw [if_neg h3] at h; cases h
theorem sgn_R64 {u : Nat} (h : u < 18446744073709551616) : R64 (sgn u) := by unfold sgn R64; split <;> omega
theorem rdLen_le {q q' : List UInt8} {N : Nat} (h : rdLen q = some (N, q')) : q'.length ≤ q.length := rdNum_le (rdLen_inv h).1
theorem rdL_le {g : List UInt8 → Option (V × List UInt8)} (hg : ∀ q v q', g q = some (v, q') → q'.length ≤ q.length) : ∀ (n : Nat) (q : List UInt8) (L : List V) (q' : List UInt8), rdL g n q = some (L, q') → q'.length ≤ q.length
  | 0, q, L, q', h => by simp only [rdL, Option.some.injEq, Prod.mk.injEq] at h; rw [h.2]; exact Nat.le_refl _
  | n + 1, q, L, q', h => by
    have hl := rdL_length h
    cases L with
    | nil => simp at hl
    | cons v L =>
      obtain ⟨q2, h1, h2⟩ := rdL_cons h
      exact Nat.le_trans (rdL_le hg n _ _ _ h2) (hg _ _ _ h1)
theorem rdVal_le (f : Nat) : ∀ (q : List UInt8) (v : V) (q' : List UInt8), rdVal f q = some (v, q') → q'.length ≤ q.length := by
  induction f using Nat.strongRecOn with
  | ind f ih =>
    intro q v q' h
    cases q with
    | nil => cases f <;> simp [rdVal] at h
    | cons x q =>
      rw [List.length_cons]
      rcases rdVal_inv h with ⟨_, u, h2, rfl⟩ | ⟨_, N, q1, h2, rfl, rfl⟩ | ⟨_, f', N, q1, L, rfl, h2, h3, rfl⟩
      · have := rdNum_le h2; omega
      · have := rdLen_le h2; rw [List.length_drop]; omega
      · have := rdLen_le h2; have := rdL_le (ih f' (by omega)) _ _ _ _ h3; omega
end Cod
namespace Go.Proofs.YtjfiggbgpplopaaDoor
open Go Eng Cod
set_option maxRecDepth 100000
theorem value_ok : ∀ (f : Nat) (w : World) (b : Nat) (a : Option Addr) (c : Nat) (q : List UInt8) (v : V) (q' : List UInt8), f ≤ 16 → RdX w b a q c → c ≤ 9223372036854775807 → q.length ≤ 2000000000000 → rdVal f q = some (v, q') → (rblk b a q.length c).holds w →
    Gives Tryd.prog 46 [.pointer (some ⟨b, 0, none⟩), I (16 - f : Nat)] w [b] (fun x : Option Addr × Nat × Option Addr × Nat × SH => vval v x.2.2.1 x.2.2.2.1) (fun x => rblk b x.1 q'.length x.2.1 :: x.2.2.2.2) (fun x => Adv b a q c x.1 q' x.2.1 ∧ Vs x.2.2.2.2 v (vval v x.2.2.1 x.2.2.2.1)) := by
  intro f
  induction f using Nat.strongRecOn with
  | ind f ih =>
  intro w b a c q v q' hf hr hm hq h hp
  cases q with
  | nil => cases f <;> simp [rdVal] at h
  | cons x q =>
  rw [List.length_cons] at hq
  refine enterR Tryd.func46 Tryd.ntmps46 hp ?_
  refine c_seq <| c_reg <| s_alloc fun b4 => s_nil <| q_then <| c_seq <| c_reg <| s_y y_mv <| s_chg (b := b) (fun w' hw => take_ok w' b a (x :: q).length c 1 (by simp) hr.le (by omega) (hw.own _ (.tail _ (.head _))).1) (fun _ => .tail _ (.head _)) (fun _ _ => ?_)
  have hA : Adv b a (x :: q) c (sa a 1 c 1) q (c - 1) := Adv.drop 1 (by simp)
  have hne : ∀ k ∈ keys [rblk b a (x :: q).length c], a.map (·.block) ≠ some k := by intro k hk; cases List.mem_singleton.1 hk; exact hr.ne
  refine s_y (y_ixs1 (xs := bs (x :: q)) (hr := rdW hr.rd hne) (hl := by rw [bs_length]; simp)) <| s_y (y_ldb (q := x :: q) (i := 0) (hr := rdW hr.rd hne) (hi := by simp)) <| ?_
  rw [show (x :: q).getD 0 0 = x from rfl]
  refine s_y (y_cvb (p := x)) <| s_y y_fa <| s_st (b := b4) (off := 0) (v := I x.toNat) (cs := #[I 0, I 0, .string (sb []), .slice none 0 0]) (hl := by decide) ?_
  refine s_nil <| q_then <| ?_
  rcases rdVal_inv h with ⟨h1, u, h2, rfl⟩ | ⟨h1, N, q1, h2, rfl, rfl⟩ | ⟨h1, f', N, q1, L, rfl, h2, h3, rfl⟩
  · rw [h1]
    refine c_seq <| c_seq <| c_reg <| s_y y_fa <| s_y (y_ld (v := I 1)) <| s_nil <| q_then <| c_block <| c_seq <| c_reg <| s_kt (y_eql (p := 1) (q := 1)) rfl <| s_y y_as <| s_nil <| q_then <| c_t <| c_reg <| s_y y_mv <| s_chg (b := b) (fun w' hw => number_ok w' b (sa a 1 c 1) (c - 1) q u q' ((hA w hr).1.st hw) (by omega) h2 (hw.own _ (.tail _ (.head _))).1) (fun _ => .tail _ (.head _)) (fun y hy => ?_)
    obtain ⟨hy1, hy2⟩ := hy
    refine s_pure (fun w' hw => signed_ok w' u hy2) <| s_y y_fa <| s_st (b := b4) (off := 1) (v := I (sgn u)) (cs := #[I 1, I 0, .string (sb []), .slice none 0 0]) (hl := by decide) ?_
    refine s_nil <| q_nb <| q_then <| c_seq <| c_reg <| s_y (y_lda (b := b4) (cs := #[I 1, I (sgn u), .string (sb []), .slice none 0 0]) (hl := rfl)) <| s_sta (b := b4) (vs := #[I 1, I (sgn u), .string (sb []), .slice none 0 0]) (cs := #[I 1, I (sgn u), .string (sb []), .slice none 0 0]) (h1 := by intro u hu; simp at hu; rcases hu with rfl | rfl | rfl | rfl <;> rfl) (hl := rfl) (hs1 := rfl) ?_
    refine s_nil <| q_then <| c_ret <| ?_
    refine ret1 Tryd.results46 (rv_ca (b := b4) (cs := #[I 1, I (sgn u), .string (sb []), .slice none 0 0]) (hl := rfl)) fun w' hw => ⟨(y.1, y.2, none, 0, []), ⟨hA.trans hy1, fun w2 _ => ?_⟩, rfl, hw.sub (.cons _ (.refl _))⟩
    rw [Vv]
    exact ⟨none, 0, [], rfl, sgn_R64 hy2, ⟨by simp, by simp⟩, Rd.nil _ _, rfl, fun i => i.elim0⟩
  · rw [h1]
    refine c_seq <| c_seq <| c_reg <| s_y y_fa <| s_y (y_ld (v := I 2)) <| s_nil <| q_then <| c_block <| c_seq <| c_reg <| s_kf (y_eql (p := 2) (q := 1)) (by decide) <| s_y y_as <| s_nil <| q_then <| c_f <| c_seq <| c_reg <| s_kt (y_eql (p := 2) (q := 2)) rfl <| s_y y_as <| s_nil <| q_then <| c_t <| c_reg <| s_y y_mv <| s_y y_mv <| s_chg (b := b) (fun w' hw => length_ok w' b (sa a 1 c 1) (c - 1) q N q1 ((hA w hr).1.st hw) (by omega) h2 (hw.own _ (.tail _ (.head _))).1) (fun _ => .tail _ (.head _)) (fun y hy => ?_)
    obtain ⟨hy1, hy2⟩ := hy
    have hA2 := hA.trans hy1
    have hr2 := (hA2 w hr).1
    have hle := (hA2 w hr).2
    refine s_chg (b := b) (fun w' hw => take_ok w' b y.1 q1.length y.2 N hy2 hr2.le (by omega) (hw.own _ (.tail _ (.head _))).1) (fun _ => .tail _ (.head _)) (fun _ _ => ?_)
    have hq1 := rdLen_le h2
    refine s_y (y_b2s (q := q1.take N) (hr := rdW (hr2.take N) (by intro k hk; cases List.mem_singleton.1 hk; exact hr2.ne)) (hm := by rw [List.length_take]; omega)) <| s_y y_fa <| s_st (b := b4) (off := 2) (v := .string (sb (q1.take N))) (cs := #[I 2, I 0, .string (sb []), .slice none 0 0]) (hl := by decide) ?_
    refine s_nil <| q_nb <| q_then <| c_seq <| c_reg <| s_y (y_lda (b := b4) (cs := #[I 2, I 0, .string (sb (q1.take N)), .slice none 0 0]) (hl := rfl)) <| s_sta (b := b4) (vs := #[I 2, I 0, .string (sb (q1.take N)), .slice none 0 0]) (cs := #[I 2, I 0, .string (sb (q1.take N)), .slice none 0 0]) (h1 := by intro u hu; simp at hu; rcases hu with rfl | rfl | rfl | rfl <;> rfl) (hl := rfl) (hs1 := rfl) ?_
    refine s_nil <| q_then <| c_ret <| ?_
    rw [show q1.length - N = (q1.drop N).length by rw [List.length_drop]]
    refine ret1 Tryd.results46 (rv_ca (b := b4) (cs := #[I 2, I 0, .string (sb (q1.take N)), .slice none 0 0]) (hl := rfl)) fun w' hw => ⟨(sa y.1 N y.2 1, y.2 - N, none, 0, []), ⟨hA2.trans (Adv.drop N hy2), fun w2 _ => ?_⟩, rfl, hw.sub (.cons _ (.refl _))⟩
    rw [Vv]
    exact ⟨none, 0, [], rfl, by unfold R64; omega, ⟨by rw [List.length_take]; omega, by simp⟩, Rd.nil _ _, rfl, fun i => i.elim0⟩
  · rw [h1]
    refine c_seq <| c_seq <| c_reg <| s_y y_fa <| s_y (y_ld (v := I 3)) <| s_nil <| q_then <| c_block <| c_seq <| c_reg <| s_kf (y_eql (p := 3) (q := 1)) (by decide) <| s_y y_as <| s_nil <| q_then <| c_f <| c_seq <| c_reg <| s_kf (y_eql (p := 3) (q := 2)) (by decide) <| s_y y_as <| s_nil <| q_then <| c_f <| c_seq <| c_reg <| s_kt (y_eql (p := 3) (q := 3)) rfl <| s_y y_as <| s_nil <| q_then <| c_t <| c_seq <| c_reg <| s_y y_mv <| s_y y_mv <| s_kt (y_lss (p := ((16 - (f' + 1) : Nat) : Int)) (q := 16)) (by omega) <| s_pure (fun w' hw => want_ok w' _) <| s_nil <| q_then <| c_seq <| c_reg <| s_y y_mv <| s_chg (b := b) (fun w' hw => length_ok w' b (sa a 1 c 1) (c - 1) q N q1 ((hA w hr).1.st hw) (by omega) h2 (hw.own _ (.tail _ (.head _))).1) (fun _ => .tail _ (.head _)) (fun y hy => ?_)
    obtain ⟨hy1, hy2⟩ := hy
    have hA2 := hA.trans hy1
    have hq1 := rdLen_le h2
    have hLn := rdL_length h3
    refine s_y y_mv <| s_nil <| q_then <| c_nilrow 48 4 <| c_perm (.swap _ _ _) <| c_block <| ?_
    refine c_loop (fun s : LSt => [(0, .pointer (some ⟨b, 0, none⟩)), (1, I (16 - (f' + 1) : Nat)), (4, .pointer (some ⟨b4, 0, none⟩)), (36, I N), (37, I s.j)])
      (fun s => .blk b4 (.cells #[I 3, I 0, .string (sb []), .slice s.la s.j s.lc] 48 (0, 0)) :: .row s.la s.lc 48 4 s.j s.cells :: rblk b s.a s.q.length s.c :: s.rs)
      (fun s => rdL (rdVal f') s.td.length s.q = some (s.td, q') ∧ s.dn ++ s.td = L ∧ Adv b a (x :: q) c s.a s.q s.c ∧ s.q.length ≤ q.length ∧ s.dn.length = s.j ∧ s.cells.length = s.j * 4 ∧ ∀ (i : Nat) (hi : i < s.dn.length), Vs s.rs s.dn[i] (.agg ((s.cells.drop (i * 4)).take 4).toArray))
      (fun s => s.td.length) ⟨0, [], L, q1, y.1, y.2, none, 0, [], []⟩ ⟨by rw [hLn]; exact h3, rfl, hA2, hq1, rfl, rfl, fun i hi => absurd hi (Nat.not_lt_zero _)⟩ ⟨rfl, rfl, rfl, rfl, rfl, trivial⟩ (.refl _) ?_
    rintro ⟨j, dn, td, q2, a2, c2, la, lc, cells, rs⟩ ⟨i1, i2, i3, i4, i7, i5, i6⟩
    simp only at i1 i2 i3 i4 i7 i5 i6
    have hj : j + td.length = N := by rw [← hLn, ← i2, List.length_append, i7]
    obtain ⟨hr3, hc3⟩ := i3 w hr
    by_cases hlt : j < N
    · cases td with
      | nil => rw [List.length_nil] at hj; omega
      | cons v td =>
      rw [List.length_cons] at hj
      obtain ⟨q3, j1, j2⟩ := rdL_cons i1
      have hq3 := rdVal_le _ _ _ _ j1
      refine c_seq <| c_reg <| s_kt (y_lss (p := ((j : Nat) : Int)) (q := ((N : Nat) : Int))) (by omega) <| s_nil <| q_then <| c_seq <| c_t <| c_skip <| q_then <| c_seq <| c_block <| ?_
      refine c_regG [.blk b4 (.cells #[I 3, I 0, .string (sb []), .slice la j lc] 48 (0, 0))] (List.Sublist.cons_cons _ (List.nil_sublist _)) 9 <| f_y 0 rfl y_fa <| f_y 2 rfl y_mv <| f_y 3 rfl y_mv <| f_y 4 rfl (y_add (p := ((16 - (f' + 1) : Nat) : Int)) (q := 1)) <| f_y 1 rfl (y_ld (v := .slice la j lc)) <| ?_
      rw [show ((16 - (f' + 1) : Nat) : Int) + 1 = ((16 - f' : Nat) : Int) by omega]
      refine f_w 5 rfl (s_chg (b := b) (fun w' hw => ih f' (by omega) w' b a2 c2 q2 v q3 (by omega) (hr3.st hw) (by omega) (by omega) j1 (hw.own _ (.tail _ (.tail _ (.head _)))).1) (fun _ => .tail _ (.tail _ (.head _))) (fun z hz => s_perm (List.perm_append_comm_assoc [_, _, _] _ _) (f_kk ?_))) (hsub := List.Sublist.cons_cons _ (List.nil_sublist _))
      obtain ⟨a3, c3, va, vc, rs3⟩ := z
      obtain ⟨hz1, hz2⟩ := hz
      simp only at hz1 hz2
      refine f_w 6 rfl (s_bslr (cs := [I v.k, I v.n, .string (sb v.s), .slice va v.l.length vc]) fun b45 => f_kk ?_) (hsub := List.Sublist.cons_cons _ (List.nil_sublist _))
      refine f_w 7 rfl (s_app (m := 1) (fun w' hw => Src.slice (rdR (.head _) w' hw) rfl) (h1 := fun v hv => by simp at hv; rcases hv with rfl | rfl | rfl | rfl <;> rfl) (hm := .tail _ (.tail _ (.head _))) (hrep := fun _ _ => .tail _ (.tail _ (.head _))) (hfit := by show j + 1 ≤ maxLen; unfold maxLen; omega) (hby := by show (j + 1) * 56 ≤ 140737488355328; omega) fun a46 c46 h46 => f_kk ?_) (hsub := List.Sublist.cons _ (List.Sublist.cons_cons _ (List.nil_sublist _)))
      refine f_y 8 rfl y_fa <| f_w 9 rfl (s_st (b := b4) (off := 3) (v := .slice a46 (j + 1) c46) (cs := #[I 3, I 0, .string (sb []), .slice la j lc]) (hl := show 3 < 4 by decide) <| f_z <| q_nb <| q_then <| c_reg <| s_y (y_add (p := ((j : Nat) : Int)) (q := 1)) <| s_y y_mv <| s_nil <| ?_) (hsub := List.Sublist.cons _ (List.Sublist.cons_cons _ (List.nil_sublist _)))
      rw [show ((j : Nat) : Int) + 1 = ((j + 1 : Nat) : Int) by omega]
      refine q_round ⟨j + 1, dn ++ [v], td, q3, a3, c3, a46, c46, cells ++ [I v.k, I v.n, .string (sb v.s), .slice va v.l.length vc], rs3 ++ rs⟩ ⟨j2, by rw [← i2, List.append_assoc]; rfl, i3.trans hz1, Nat.le_trans hq3 i4, by rw [List.length_append, i7]; rfl, by rw [List.length_append, i5]; show j * 4 + 4 = (j + 1) * 4; omega, ?_⟩ (Nat.lt_succ_self _) ⟨rfl, rfl, rfl, rfl, rfl, trivial⟩ (.cons _ (.refl _))
      intro i hi
      rw [List.length_append, i7] at hi
      have hi : i < j + 1 := hi
      rcases Nat.lt_or_ge i j with h9 | h9
      · rw [List.getElem_append_left (by omega), cells_old i5 h9]
        exact (i6 i (by omega)).mono fun p hp => List.mem_append_right _ hp
      · obtain rfl : i = j := by omega
        rw [cells_new i5 rfl]
        have e : (dn ++ [v])[i]'(by rw [List.length_append, i7]; exact hi) = v := by simp [← i7]
        rw [e]
        exact hz2.mono fun p hp => List.mem_append_left _ hp
    · obtain rfl : td = [] := List.length_eq_zero_iff.1 (by omega)
      rw [List.length_nil, Nat.add_zero] at hj
      subst hj
      rw [List.append_nil] at i2
      subst i2
      simp only [List.length_nil, rdL, Option.some.injEq, Prod.mk.injEq, true_and] at i1
      subst i1
      refine c_seq <| c_reg <| s_kf (y_lss (p := ((j : Nat) : Int)) (q := ((j : Nat) : Int))) (by omega) <| s_nil <| q_then <| c_seq <| c_f <| c_exit <| q_ex <| q_ex <| q_exb <| q_nb <| q_then <| c_seq <| c_reg <| s_y (y_lda (b := b4) (cs := #[I 3, I 0, .string (sb []), .slice la j lc]) (hl := rfl)) <| s_sta (b := b4) (vs := #[I 3, I 0, .string (sb []), .slice la j lc]) (cs := #[I 3, I 0, .string (sb []), .slice la j lc]) (h1 := by intro u hu; simp at hu; rcases hu with rfl | rfl | rfl | rfl <;> rfl) (hl := rfl) (hs1 := rfl) ?_
      refine s_nil <| q_then <| c_ret <| ?_
      refine ret1 Tryd.results46 (rv_ca (b := b4) (cs := #[I 3, I 0, .string (sb []), .slice la j lc]) (hl := rfl)) fun w' hw => ⟨(a2, c2, la, lc, .row la lc 48 4 j cells :: rs), ⟨i3, fun w2 hw2 => ?_⟩, by rw [← i7]; rfl, (hw.sub (.cons _ (.refl _))).perm (.swap _ _ _)⟩
      rw [Vv]
      exact ⟨la, lc, cells, rfl, by unfold R64; omega, ⟨by simp, by omega⟩, Res.rd (hw2 _ (.head _)), by rw [i5, i7], fun i => i6 i.val i.isLt w2 fun p hp => hw2 p (.tail _ hp)⟩
end Go.Proofs.YtjfiggbgpplopaaDoor
