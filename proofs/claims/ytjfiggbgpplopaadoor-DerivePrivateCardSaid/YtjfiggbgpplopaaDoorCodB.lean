/- Well-formed values: both programs. -/
import Derived.Test.YtjfiggbgpplopaaDoorCodA
namespace Go.Proofs.YtjfiggbgpplopaaDoor
open Go Eng Cod

theorem ref01_unsigned_ok (w : World) (n : Int) (hn : R64 n) : Pure Tryd.prog 93 [I n] w (U (uns n)) := by
  unfold R64 at hn
  refine enter Tryd.func93 Tryd.ntmps93 ?_
  refine c_seq <| c_reg <| s_y y_as <| s_nil <| q_then <| c_seq <| c_seq <| c_reg <| s_y y_mv <| s_y y_geq <| s_nil <| q_then <| c_ifd (fun h4 => ?_) (fun h4 => ?_)
  · obtain ⟨m, rfl⟩ := Int.eq_ofNat_of_zero_le h4
    have e3 : uns (m : Int) = 2 * m := by rw [uns, if_pos h4]; omega
    refine c_seq <| c_reg <| s_y y_mv <| s_y y_cvn <| s_y (y_mul64 (p := 2) (q := m)) <| s_y y_as <| s_nil <| q_then <| c_ret <| q_ret <| ?_
    exact ret1 Tryd.results93 rv_t fun w' hw => ⟨by rw [e3], hw⟩
  · obtain ⟨m, hm⟩ := Int.eq_ofNat_of_zero_le (show 0 ≤ -(n + 1) by omega)
    have e3 : uns n = 2 * m + 1 := by rw [uns, if_neg h4]; omega
    refine c_skip <| q_then <| c_seq <| c_reg <| s_y y_mv <| s_y y_add <| s_y y_neg <| ?_
    rw [hm]
    refine s_y y_cvn <| s_y (y_mul64 (p := 2) (q := m)) <| s_y (y_add64 (p := 2 * m) (q := 1)) <| s_y y_as <| s_nil <| q_then <| c_ret <| ?_
    exact ret1 Tryd.results93 rv_t fun w' hw => ⟨by rw [e3], hw⟩

theorem ref01_numeral_ok (w : World) (u : Nat) (hu : u < 18446744073709551616) : GivesB Tryd.prog 92 [U u] w (num u) := by
  induction u using Nat.strongRecOn generalizing w with
  | ind u ih =>
    have hnum : num u = if u < 128 then [UInt8.ofNat u] else UInt8.ofNat (u % 128 + 128) :: num (u / 128) := by rw [num]
    refine enter Tryd.func92 Tryd.ntmps92 ?_
    refine c_seq <| c_reg <| s_y y_as <| s_nil <| q_then <| c_seq <| c_seq <| c_reg <| s_y y_mv <| s_y y_lss <| s_nil <| q_then <| c_ifd (fun h4 => ?_) (fun h4 => ?_)
    · have hb : UInt8.ofNat (((u : Int) % 256).toNat) = UInt8.ofNat u := by
        apply UInt8.toNat_inj.1
        rw [UInt8.toNat_ofNat', UInt8.toNat_ofNat']; omega
      rw [if_pos (by omega)] at hnum
      rw [hnum]
      refine c_seq <| c_reg <| s_y y_mv <| s_y y_cv8 <| ?_
      rw [hb]
      refine s_bslr (cs := bs [UInt8.ofNat u]) fun b7 => s_y y_as <| s_nil <| q_then <| c_ret <| q_ret <| ?_
      exact ret1 Tryd.results92 rv_t fun w' hw => ⟨(some ⟨b7, 0, none⟩, 1), trivial, rfl, hw⟩
    · have hb : UInt8.ofNat ((((u % 128 + 128 : Nat) : Int) % 256).toNat) = UInt8.ofNat (u % 128 + 128) := by
        apply UInt8.toNat_inj.1
        rw [UInt8.toNat_ofNat', UInt8.toNat_ofNat']; omega
      rw [if_neg (by omega)] at hnum
      have hl := num_le (u := u / 128) (by omega)
      rw [hnum]
      refine c_skip <| q_then <| c_seq <| c_reg <| s_y y_mv <| s_y (y_rem64 (p := u) (q := 128)) <| s_y (y_add64 (p := u % 128) (q := 128)) <| s_y y_cv8 <| ?_
      rw [hb]
      refine s_bslr (cs := bs [UInt8.ofNat (u % 128 + 128)]) fun b12 => s_y y_mv <| s_y (y_quo64 (p := u) (q := 128)) <| s_gives (fun w' hw => ih (u / 128) (by omega) w' (by omega)) fun x _ => s_app (m := (num (u / 128)).length) (srcB (q := num (u / 128)) (rdR (.head _)) rfl) (h1 := fun v hv => bs_one hv) fun a16 c16 h16 => s_y y_as <| s_nil <| q_then <| c_ret <| ?_
      refine ret1 Tryd.results92 rv_t fun w' hw => ⟨(a16, c16), trivial, ?_, ?_⟩
      · rw [List.length_cons, Nat.add_comm]
      · have e : bs (UInt8.ofNat (u % 128 + 128) :: num (u / 128)) = bs [UInt8.ofNat (u % 128 + 128)] ++ bs (num (u / 128)) := rfl
        rw [List.length_cons, Nat.add_comm, e]
        exact hw.sub (.cons _ (.refl _))

/-- the parts of ok -/
theorem ok_eq (k n : Int) (s : List UInt8) (l : List V) : V.ok (.mk k n s l) = (decide (k = 1) && (decide (sb s = sb []) && decide ((l.length : Int) = 0)) || decide (k = 2) && (decide (n = 0) && decide ((l.length : Int) = 0)) || decide (k = 3) && (decide (n = 0) && decide (sb s = sb [])) && okL l) := by
  have e1 : decide (sb s = sb []) = (s == []) := by
    rw [decide_eq_decide.2 (sb_inj (p := s) (q := []))]
    cases s <;> rfl
  have e2 : decide ((l.length : Int) = 0) = (l.length == 0) := by
    by_cases h : l.length = 0
    · simp [h]
    · simp [h]
  have e3 : ∀ j : Int, decide (k = j) = (k == j) := fun j => by by_cases h : k = j <;> simp [h]
  have e4 : decide (n = 0) = (n == 0) := by by_cases h : n = 0 <;> simp [h]
  rw [V.ok, e1, e2, e3, e3, e3, e4]

/-- the element of a list of values -/
theorem Vv.get {w : World} {l : List V} {cells : List Value} (hl : cells.length = l.length * 4) (h : ∀ (i : Fin l.length), Vv w l[i] (.agg ((cells.drop (i.val * 4)).take 4).toArray)) {i : Nat} (hi : i < l.length) :
    Vv w l[i] (.agg ((cells.drop (i * 4)).take 4).toArray) ∧ ((cells.drop (i * 4)).take 4).length = 4 ∧ ∀ (j : Nat) (v : Value), ((cells.drop (i * 4)).take 4)[j]? = some v → cells[i * 4 + j]? = some v := by
  refine ⟨h ⟨i, hi⟩, by rw [List.length_take, List.length_drop]; omega, fun j v hv => ?_⟩
  rw [List.getElem?_take] at hv
  split at hv
  · rwa [List.getElem?_drop] at hv
  · cases hv
theorem Vv.one {w : World} : ∀ (v : V) {val : Value}, Vv w v val → ∀ u ∈ val.cells.toList, u.oneCell' = true
  | .mk k n s l, val, h => by
    rw [Vv] at h
    obtain ⟨a, c, cells, rfl, _⟩ := h
    intro u hu
    simp [Value.cells] at hu
    rcases hu with rfl | rfl | rfl | rfl <;> rfl

theorem codec_formed_ok (v : V) : ∀ (w : World) (val : Value), Vv w v val → v.dep < 9000000000000000000 → Pure Tryd.prog 65 [val] w (.tuple #[I (if v.ok = true then (v.dep : Int) else 0), .bool v.ok]) := by
  induction v using V.ind with
  | h k n s l ih =>
    intro w val hv hdep
    rw [Vv] at hv
    obtain ⟨a, c, cells, rfl, hn, ⟨hsl, hll⟩, hr, hcl, hel⟩ := hv
    have hok := ok_eq k n s l
    refine enter Tryd.func65 Tryd.ntmps65 ?_
    refine c_seq <| c_reg <| s_box rfl fun b1 => s_y y_as <| s_y y_as <| s_nil <| q_then <| c_seq <| c_reg <| ?_
    refine s_join 9 [(2, I 0), (1, .pointer (some ⟨b1, 0, none⟩)), (17, .bool (decide (sb s = sb []) && decide ((l.length : Int) = 0)))] [.blk b1 (.cells #[I k, I n, .string (sb s), .slice a l.length c] 48 (0, 0))] (s_y y_fa <| s_y y_ld <| s_ifd (y_eqls (b := sb [])) (fun h11 => ?_) (fun h11 => ?_)) ?_
    · refine s_y y_mv <| s_y y_fa <| s_y y_ld <| s_y y_len <| s_y y_eql <| s_y y_pk <| s_nil <| q_join ⟨rfl, rfl, by rw [decide_eq_true h11]; rfl, trivial⟩ (List.Sublist.refl _)
    · refine s_y y_mv <| s_no <| s_no <| s_no <| s_no <| s_y y_pk <| s_nil <| q_join ⟨rfl, rfl, by rw [decide_eq_false h11]; rfl, trivial⟩ (List.Sublist.refl _)
    refine s_join 9 [(2, I 0), (1, .pointer (some ⟨b1, 0, none⟩)), (17, .bool (decide (sb s = sb []) && decide ((l.length : Int) = 0))), (26, .bool (decide (n = 0) && decide ((l.length : Int) = 0)))] [.blk b1 (.cells #[I k, I n, .string (sb s), .slice a l.length c] 48 (0, 0))] (s_y y_fa <| s_y y_ld <| s_ifd y_eql (fun h11 => ?_) (fun h11 => ?_)) ?_
    · refine s_y y_mv <| s_y y_fa <| s_y y_ld <| s_y y_len <| s_y y_eql <| s_y y_pk <| s_nil <| q_join ⟨rfl, rfl, rfl, by rw [decide_eq_true h11]; rfl, trivial⟩ (List.Sublist.refl _)
    · refine s_y y_mv <| s_no <| s_no <| s_no <| s_no <| s_y y_pk <| s_nil <| q_join ⟨rfl, rfl, rfl, by rw [decide_eq_false h11]; rfl, trivial⟩ (List.Sublist.refl _)
    refine s_join 8 [(2, I 0), (1, .pointer (some ⟨b1, 0, none⟩)), (17, .bool (decide (sb s = sb []) && decide ((l.length : Int) = 0))), (26, .bool (decide (n = 0) && decide ((l.length : Int) = 0))), (34, .bool (decide (n = 0) && decide (sb s = sb [])))] [.blk b1 (.cells #[I k, I n, .string (sb s), .slice a l.length c] 48 (0, 0))] (s_y y_fa <| s_y y_ld <| s_ifd y_eql (fun h11 => ?_) (fun h11 => ?_)) ?_
    · refine s_y y_mv <| s_y y_fa <| s_y y_ld <| s_y (y_eqls (b := sb [])) <| s_y y_pk <| s_nil <| q_join ⟨rfl, rfl, rfl, rfl, by rw [decide_eq_true h11]; rfl, trivial⟩ (List.Sublist.refl _)
    · refine s_y y_mv <| s_no <| s_no <| s_no <| s_y y_pk <| s_nil <| q_join ⟨rfl, rfl, rfl, rfl, by rw [decide_eq_false h11]; rfl, trivial⟩ (List.Sublist.refl _)
    generalize hu1 : (decide (sb s = sb []) && decide ((l.length : Int) = 0)) = u1 at *
    generalize hu2 : (decide (n = 0) && decide ((l.length : Int) = 0)) = u2 at *
    generalize hu3 : (decide (n = 0) && decide (sb s = sb [])) = u3 at *
    refine s_y (y_blda (cs := [.bool false, .bool u1, .bool u2, .bool u3])) <| s_alloc fun b4 => s_sta (vs := #[.bool false, .bool u1, .bool u2, .bool u3]) (h1 := by intro u hu; simp at hu; rcases hu with rfl | rfl | rfl | rfl <;> rfl) ?_
    have hbad : ∀ {l2 : SH} {F : List (Nat × Value)} {Q : Exit → Act → World → Prop}, V.ok (.mk k n s l) = false → lkO F 2 = some (I 0) → lkO F 3 = some (.bool false) → QP 74 [] w [] (bodyPost Tryd.prog Tryd.f65 fun e w' => e = .returned (.tuple #[I (if V.ok (.mk k n s l) = true then ((V.mk k n s l).dep : Int) else 0), .bool (V.ok (.mk k n s l))]) ∧ St w [] w' []) .ret F l2 := by
      intro l2 F Q h9 h2 h3
      exact ret2 Tryd.results65 (rv_t h2) (rv_t h3) fun w' hw => ⟨by rw [h9]; rfl, hw.sub (List.nil_sublist _)⟩
    refine s_nil <| q_then <| c_seq <| c_seq <| c_reg <| s_y y_fa <| s_y y_ld <| s_ifd y_lss (fun h38 => ?_) (fun h38 => ?_)
    · refine s_y y_mv <| s_no <| s_no <| s_no <| s_y y_pk <| s_y y_mv <| s_no <| s_no <| s_no <| s_no <| s_no <| s_y y_pk <| s_nil <| q_then <| c_t <| c_seq <| c_reg <| s_y y_as <| s_y y_as <| s_nil <| q_then <| c_ret <| q_ret <| ?_
      exact hbad (Q := fun _ _ _ => True) (by rw [hok, decide_eq_false (show ¬ k = 1 by omega), decide_eq_false (show ¬ k = 2 by omega), decide_eq_false (show ¬ k = 3 by omega)]; rfl) rfl rfl
    · refine s_y y_mv <| s_y y_fa <| s_y y_ld <| s_ifd y_gtr (fun h42 => ?_) (fun h42 => ?_)
      · refine s_y y_pk <| s_y y_mv <| s_no <| s_no <| s_no <| s_no <| s_no <| s_y y_pk <| s_nil <| q_then <| c_t <| c_seq <| c_reg <| s_y y_as <| s_y y_as <| s_nil <| q_then <| c_ret <| q_ret <| ?_
        exact hbad (Q := fun _ _ _ => True) (by rw [hok, decide_eq_false (show ¬ k = 1 by omega), decide_eq_false (show ¬ k = 2 by omega), decide_eq_false (show ¬ k = 3 by omega)]; rfl) rfl rfl
      · have hk3 : k = 1 ∨ k = 2 ∨ k = 3 := by omega
        rcases hk3 with rfl | rfl | rfl
        · have hok' : V.ok (.mk 1 n s l) = u1 := by rw [hok]; simp
          refine s_y y_pk <| s_y y_mv <| s_y y_fa <| s_y y_ld <| s_y y_ixa1 <| s_y (y_ld (v := .bool u1)) <| s_y y_not <| s_y y_pk <| s_nil <| q_then <| c_if rfl (fun h50 => ?_) (fun h50 => ?_)
          · refine c_seq <| c_reg <| s_y y_as <| s_y y_as <| s_nil <| q_then <| c_ret <| q_ret <| ?_
            exact hbad (Q := fun _ _ _ => True) (by rw [hok']; simpa using h50) rfl rfl
          · have h51 : u1 = true := by simpa using h50
            refine c_skip <| q_then <| c_seq <| c_seq <| c_reg <| s_y y_fa <| s_y y_ld <| s_kt y_lss (by decide) <| s_nil <| q_then <| c_t <| c_seq <| c_reg <| s_y y_as <| s_y y_as <| s_nil <| q_then <| c_ret <| q_ret <| ?_
            exact ret2 Tryd.results65 rv_t rv_t fun w' hw => ⟨by rw [hok', h51]; rfl, hw.sub (List.nil_sublist _)⟩
        · have hok' : V.ok (.mk 2 n s l) = u2 := by rw [hok]; simp
          refine s_y y_pk <| s_y y_mv <| s_y y_fa <| s_y y_ld <| s_y y_ixa1 <| s_y (y_ld (v := .bool u2)) <| s_y y_not <| s_y y_pk <| s_nil <| q_then <| c_if rfl (fun h50 => ?_) (fun h50 => ?_)
          · refine c_seq <| c_reg <| s_y y_as <| s_y y_as <| s_nil <| q_then <| c_ret <| q_ret <| ?_
            exact hbad (Q := fun _ _ _ => True) (by rw [hok']; simpa using h50) rfl rfl
          · have h51 : u2 = true := by simpa using h50
            refine c_skip <| q_then <| c_seq <| c_seq <| c_reg <| s_y y_fa <| s_y y_ld <| s_kt y_lss (by decide) <| s_nil <| q_then <| c_t <| c_seq <| c_reg <| s_y y_as <| s_y y_as <| s_nil <| q_then <| c_ret <| q_ret <| ?_
            exact ret2 Tryd.results65 rv_t rv_t fun w' hw => ⟨by rw [hok', h51]; rfl, hw.sub (List.nil_sublist _)⟩
        · have hok' : V.ok (.mk 3 n s l) = (u3 && okL l) := by rw [hok]; simp
          have hde : (V.mk 3 n s l).dep = depL l + 1 := by rw [V.dep, if_pos rfl]
          refine s_y y_pk <| s_y y_mv <| s_y y_fa <| s_y y_ld <| s_y y_ixa1 <| s_y (y_ld (v := .bool u3)) <| s_y y_not <| s_y y_pk <| s_nil <| q_then <| c_if rfl (fun h50 => ?_) (fun h50 => ?_)
          · refine c_seq <| c_reg <| s_y y_as <| s_y y_as <| s_nil <| q_then <| c_ret <| q_ret <| ?_
            exact hbad (Q := fun _ _ _ => True) (by rw [hok', show u3 = false by simpa using h50]; rfl) rfl rfl
          · have h51 : u3 = true := by simpa using h50
            refine c_skip <| q_then <| c_seq <| c_seq <| c_reg <| s_y y_fa <| s_y y_ld <| s_kf y_lss (by decide) <| s_nil <| q_then <| c_f <| c_skip <| q_then <| c_seq <| c_seq <| c_reg <| s_y y_fa <| s_y y_ld <| s_y y_len <| s_y y_mv <| s_nil <| q_then <| c_block <| ?_
            refine c_loop (fun i : Nat => [(2, I ((depL (l.take i) : Nat) : Int)), (55, .slice a l.length c), (56, I l.length), (57, I i)]) (fun _ => []) (fun i => i ≤ l.length ∧ okL (l.take i) = true) (fun i => l.length - i) 0 ⟨by omega, rfl⟩ ⟨rfl, rfl, rfl, rfl, trivial⟩ (List.nil_sublist _) ?_
            rintro i ⟨hi, hoki⟩
            refine c_seq <| c_reg <| s_y y_lss <| s_nil <| q_then <| c_seq <| c_ifd (fun h58 => ?_) (fun h58 => ?_)
            · have hil : i < l.length := by omega
              obtain ⟨hvi, h4, hcell⟩ := Vv.get hcl hel hil
              have hone := Vv.one _ hvi
              have hdi := dep_le i hil
              have hdt := depL_take l i hil
              have hot := okL_take l i hil
              generalize (cells.drop (i * 4)).take 4 = cs at *
              refine c_skip <| q_then <| c_seq <| c_block <| c_seq <| c_reg <| s_y (y_ixs (xs := cells) (hl := by omega)) <| s_y (y_ldra (i := i * 4) (cs := cs) (rdW0 hr) h4 hcell) <| s_alloc fun b6 => s_sta (vs := cs.toArray) (h1 := hone) (hl := by rw [List.size_toArray, h4]; rfl) (hs1 := by rw [List.size_toArray, h4]) ?_
              refine s_nil <| q_then <| c_seq <| c_reg <| s_y (y_lda (cs := cs.toArray) (hl := by rw [List.size_toArray, h4])) <| s_pure (fun w' hw => ih i hil w' (.agg cs.toArray) (hvi.st hw) (by omega)) <| s_y y_mv <| s_y y_ext <| s_y y_ext <| s_y y_as <| s_y y_as <| s_nil <| q_then <| c_seq <| c_seq <| c_reg <| s_y y_mv <| s_y y_not <| s_nil <| q_then <| c_if rfl (fun h67 => ?_) (fun h67 => ?_)
              · have hoe : (l[i]).ok = false := by simpa using h67
                refine c_seq <| c_reg <| s_y y_as <| s_y y_as <| s_nil <| q_then <| c_ret <| q_ret <| q_retb <| q_ret <| q_ret <| q_retb <| q_ret <| ?_
                exact hbad (Q := fun _ _ _ => True) (by rw [hok', okL_not i hil hoe, Bool.and_false]) rfl rfl
              · have hoe : (l[i]).ok = true := by simpa using h67
                refine c_skip <| q_then <| c_reg <| s_y y_mv <| s_y y_mv <| s_y y_max <| ?_
                rw [hoe, if_pos rfl, show max ((depL (l.take i) : Nat) : Int) ((l[i]).dep : Int) = ((depL (l.take (i + 1)) : Nat) : Int) by rw [hdt]; omega]
                exact s_y y_as <| s_nil <| q_nb <| q_then <| c_reg <| s_y y_add <| s_y y_mv <| s_nil <| q_round (i + 1) ⟨by omega, by rw [hot, hoki, hoe]; rfl⟩ (by omega) ⟨rfl, rfl, rfl, rfl, trivial⟩ (List.nil_sublist _)
            · have hlt : l.take i = l := List.take_of_length_le (by omega)
              rw [hlt] at hoki
              rw [hlt]
              refine c_exit <| q_ex <| q_ex <| q_exb <| q_then <| c_seq <| c_reg <| s_y y_mv <| s_y y_add <| s_y y_as <| s_y y_as <| s_nil <| q_then <| c_ret <| ?_
              exact ret2 Tryd.results65 rv_t rv_t fun w' hw => ⟨by rw [hok', h51, hoki, hde]; rfl, hw⟩
end Go.Proofs.YtjfiggbgpplopaaDoor
