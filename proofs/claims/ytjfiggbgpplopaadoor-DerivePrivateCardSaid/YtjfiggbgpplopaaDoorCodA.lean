/- Numerals; rules for joins inside a region. -/
import Derived.Test.YtjfiggbgpplopaaDoorCodDef
import Derived.Test.YtjfiggbgpplopaaDoorConc
import Derived.Test.YtjfiggbgpplopaaDoorSha
namespace Eng
open Go Go.RowKit
section
variable {r : Option Nat} {P : Program} {n : Nat} {D : List Deferred} {W : World} {Bo : List Nat} {F G : List (Nat × Value)} {l l' l1 l2 : SH}
  {d : Option Tmp} {dd : Nat} {ty : TypeId} {ps : String} {af : Array Edge} {g : Option (Nat × Bool)} {x y z : Operand} {v u : Value} {ta tb t e : TypeId}
  {Q : Exit → Act → World → Prop} {ops : Array Oper} {rest : List Oper} {td : TypeDesc} {c : Code}

theorem wpListIn_app {K : Act → World → Prop} {post : List Oper} (hK : ∀ a w, K a w → wpListIn (Fw r) 0 P ops Q post a w) : ∀ (pre : List Oper) (a : Act) (w : World),
    wpListIn (Fw r) 0 P ops (Exit.then K Q) pre a w → wpListIn (Fw r) 0 P ops Q (pre ++ post) a w
  | [], a, w, h => hK a w (by simpa [wpListIn, Exit.then] using h)
  | o :: pre, a, w, h => by
    simp only [List.cons_append, wpListIn] at h ⊢
    split
    · rename_i hw
      rw [if_pos hw] at h
      have h1 := Oper.wpIn_mono (K' := wpListIn (Fw r) 0 P ops Q (pre ++ post)) (fun a w hk => wpListIn_app hK pre a w hk) h
      unfold Oper.wpIn at h1 ⊢
      refine ⟨h1.1, ?_⟩
      have h2 := h1.2
      generalize (o.semAt (Fw r).round a.eval).run P w = res at h2 ⊢
      cases res with
      | ok x w' =>
        cases x <;> simp only [Oper.uponIn] at h2 ⊢ <;>
          first
            | exact h2
            | exact ⟨h2.1, CallsIn.mono h2.2 (fun e w'' he => by cases e <;> exact he)⟩
            | exact ⟨h2.1, RoundIn.mono h2.2 (fun e w'' he => by cases e <;> exact he)⟩
      | halt x w' => cases x <;> simp only [Oper.uponIn] at h2 ⊢ <;> exact h2
    · rename_i hw
      rw [if_neg hw] at h
      exact ⟨h.1, wpListIn_app hK pre _ w h.2⟩

/-- ways inside a region that come together behind so many operations -/
theorem s_join (k : Nat) (G : List (Nat × Value)) (l2 : SH) (h1 : LP r P n D W Bo ops (Exit.then (Jn n D W Bo G l2) Q) (rest.take k) F l) (h2 : LP r P n D W Bo ops Q (rest.drop k) G l2) : LP r P n D W Bo ops Q rest F l := by
  intro a w ha hw
  have := wpListIn_app (K := Jn n D W Bo G l2) (post := rest.drop k) (fun a w hJ => h2 a w hJ.1 hJ.2) (rest.take k) a w (h1 a w ha hw)
  rwa [List.take_append_drop] at this

theorem y_max {p q : Int} (hx : evO F x = some (I p) := by rfl) (hy : evO F y = some (I q) := by rfl) : Y P n D W Bo ⟨d, .call ⟨.builtin .max, #[x, y], #[ta, tb]⟩, ty, ps, af, g⟩ F l (I (max p q)) :=
  y_b (vs := [I p, I q]) (by simp [evL, hx, hy]) fun w _ cs => by
    by_cases h : p < q
    · simp [builtin, Builtin.max_, Builtin.max2, h, Int.max_eq_right (Int.le_of_lt h)]
    · simp [builtin, Builtin.max_, Builtin.max2, h, Int.max_eq_left (Int.not_lt.1 h)]
theorem y_or8u {p q : UInt8} (hx : evO F x = some (B p) := by rfl) (hy : evO F y = some (B q) := by rfl) : Y P n D W Bo ⟨d, .binOp .or ta x y tb, ty, ps, af, g⟩ F l (B (p ||| q)) :=
  .mk (by simp) fun a w ha _ => by
    have h := bits8 p q (· ||| ·) (p ||| q) rfl
    simp only [execOp, ha.eval hx, ha.eval hy, eqGuard, binOp]
    show Result.ok (Next.value (.int .u8 (IntKind.u8.wrap _))) w = _
    exact congrArg (fun z => Result.ok (Next.value (.int .u8 z)) w) h
theorem y_add64 {p q : Nat} (hx : evO F x = some (U p) := by rfl) (hy : evO F y = some (U q) := by rfl) (hp : p + q < 18446744073709551616 := by omega) : Y P n D W Bo ⟨d, .binOp .add ta x y tb, ty, ps, af, g⟩ F l (U (p + q)) :=
  .mk (by simp) fun a w ha _ => by
    have e : IntKind.u64.wrap ((p : Int) + (q : Int)) = ((p + q : Nat) : Int) := by
      rw [← Int.natCast_add]; exact wrap_u64 (by omega) (by omega)
    simp [execOp, ha.eval hx, ha.eval hy, eqGuard, binOp, Op.intArith, e]
theorem y_quo64 {p q : Nat} (hx : evO F x = some (U p) := by rfl) (hy : evO F y = some (U q) := by rfl) (h1 : 0 < q := by omega) (hp : p < 18446744073709551616 := by omega) : Y P n D W Bo ⟨d, .binOp .quo ta x y tb, ty, ps, af, g⟩ F l (U (p / q)) :=
  .mk (by simp) fun a w ha _ => by
    have h5 : q ≠ 0 := by omega
    have h6 : IntKind.u64.wrap ((p : Int) / (q : Int)) = ((p / q : Nat) : Int) := by
      rw [← Int.natCast_ediv]
      have hm := Nat.div_le_self p q
      generalize p / q = m at hm ⊢
      exact wrap_u64 (by omega) (by omega)
    simp [execOp, ha.eval hx, ha.eval hy, eqGuard, binOp, Op.intDiv, h5, Int.tdiv_eq_ediv_of_nonneg, h6]
/-- a number shifted to the left, with what is lost -/
theorem y_shlw (m : Nat) {p : Int} {k k' : IntKind} (hx : evO F x = some (.int k p) := by rfl) (hy : evO F y = some (.int k' (m : Int)) := by rfl) (h1 : m ≤ k.bits := by decide) :
    Y P n D W Bo ⟨d, .binOp .shl ta x y tb, ty, ps, af, g⟩ F l (.int k (k.wrap (p * 2 ^ m))) :=
  .mk (by simp) fun a w ha _ => by
    have e2 : min m k.bits = m := by omega
    refine exec_bin P w w _ _ _ _ _ _ _ _ _ _ _ _ ⟨by simp, by simp⟩ ?_
    rw [ha.eval hx, ha.eval hy]
    refine (run_shl P w k k' _ m).trans ?_
    rw [e2]
theorem y_xorn {k : IntKind} {p q : Nat} (hx : evO F x = some (.int k (p : Int)) := by rfl) (hy : evO F y = some (.int k (q : Int)) := by rfl)
    (hp : p < 2 ^ k.bits := by (simp only [IntKind.bits]; omega)) (hq : q < 2 ^ k.bits := by (simp only [IntKind.bits]; omega)) (hw : k.wrap ((p ^^^ q : Nat) : Int) = ((p ^^^ q : Nat) : Int)) :
    Y P n D W Bo ⟨d, .binOp .xor ta x y tb, ty, ps, af, g⟩ F l (.int k ((p ^^^ q : Nat) : Int)) :=
  .mk (by simp) fun a w ha _ => by
    refine exec_bin P w w _ _ _ _ _ _ _ _ _ _ _ _ ⟨by simp, by simp⟩ ?_
    rw [ha.eval hx, ha.eval hy]
    simp only [binOp, ne_eq, not_true_eq_false, if_false, Op.intBits, Sem.run_pure]
    rw [BitVec.toNat_xor, bitsn hp, bitsn hq, hw]
end
theorem xor_ones (p : Nat) (h : p < 18446744073709551616) : p ^^^ 18446744073709551615 = 18446744073709551615 - p := by
  have e1 : (BitVec.ofNat 64 p ^^^ BitVec.allOnes 64) = ~~~ BitVec.ofNat 64 p := BitVec.xor_allOnes
  have e2 := congrArg BitVec.toNat e1
  rw [BitVec.toNat_xor, BitVec.toNat_not, BitVec.toNat_ofNat, Nat.mod_eq_of_lt h, BitVec.toNat_allOnes] at e2
  have e3 : (2 : Nat) ^ 64 - 1 = 18446744073709551615 := by decide
  rw [e3] at e2
  rw [e2]
theorem or128 (x : UInt8) : x ||| 128 = UInt8.ofNat (x.toNat % 128 + 128) := by
  have key : ∀ m : Fin 256, UInt8.ofNat m.val ||| 128 = UInt8.ofNat (m.val % 128 + 128) := by decide +kernel
  have := key ⟨x.toNat, x.toNat_lt⟩
  simpa using this
end Eng
namespace Go.Proofs.YtjfiggbgpplopaaDoor
open Go Eng Cod

theorem num_length : ∀ (k u : Nat), u < 128 ^ (k + 1) → (num u).length ≤ k + 1
  | 0, u, h => by rw [num, if_pos (by simpa using h)]; simp
  | k + 1, u, h => by
    rw [num]
    split
    · simp
    · have := num_length k (u / 128) (by rw [Nat.pow_succ] at h; omega)
      rw [List.length_cons]; omega
theorem num_le {u : Nat} (h : u < 18446744073709551616) : (num u).length ≤ 10 := num_length 9 u (by omega)

theorem codec_numeral_ok (w : World) (u : Nat) (a : Option Addr) (c : Nat) (q : List UInt8) (hu : u < 18446744073709551616) (hp : (Res.row a c 5 1 q.length (bs q)).holds w) (hl : q.length ≤ 140737488355000) :
    Gives Tryd.prog 67 [.slice a q.length c, U u] w (keys [.row a c 5 1 q.length (bs q)]) (fun x : Option Addr × Nat => .slice x.1 (q ++ num u).length x.2) (fun x => [.row x.1 x.2 5 1 (q ++ num u).length (bs (q ++ num u))]) (fun _ => True) := by
  refine enterR Tryd.func67 Tryd.ntmps67 hp ?_
  refine c_seq <| c_reg <| s_y y_as <| s_nil <| q_then <| c_seq <| c_block <| ?_
  refine c_loop4 (fun (u' : Nat) (q' : List UInt8) (a' : Option Addr) (c' : Nat) => [(0, .slice a' q'.length c'), (1, U u')]) (fun u' q' a' c' => [.row a' c' 5 1 q'.length (bs q')]) (fun u' q' _ _ => q' ++ num u' = q ++ num u ∧ u' < 18446744073709551616) (fun u' _ _ _ => u') u q a c ⟨rfl, hu⟩ ⟨rfl, rfl, trivial⟩ (List.Sublist.refl _) ?_
  rintro u' q' a' c' ⟨h1, h2⟩
  have hlen := congrArg List.length h1
  rw [List.length_append, List.length_append] at hlen
  have hn10 := num_le hu
  have hlast : num u' = if u' < 128 then [UInt8.ofNat u'] else UInt8.ofNat (u' % 128 + 128) :: num (u' / 128) := by rw [num]
  refine c_seq <| c_seq <| c_reg <| s_y y_mv <| s_y y_geq <| s_nil <| q_then <| c_ifd (fun h6 => ?_) (fun h6 => ?_)
  · have hb : UInt8.ofNat (((u' : Int) % 256).toNat) ||| 128 = UInt8.ofNat (u' % 128 + 128) := by
      rw [or128]
      congr 1
      rw [UInt8.toNat_ofNat']; omega
    rw [if_neg (by omega)] at hlast
    refine c_skip <| q_then <| c_seq <| c_block <| c_reg <| s_y y_mv <| s_y y_mv <| s_y y_cv8 <| s_y (y_or8u (q := 128)) <| ?_
    rw [hb]
    refine s_bslr (cs := bs [UInt8.ofNat (u' % 128 + 128)]) fun b13 => s_app (m := 1) (srcB (q := [UInt8.ofNat (u' % 128 + 128)]) (rdR (.head _))) (h1 := fun v hv => bs_one hv) fun a14 c14 h14 => s_y y_as <| s_nil <| q_nb <| q_then <| c_reg <| s_y y_mv <| s_y (y_shr (p := u')) <| s_y y_as <| s_nil <| ?_
    refine q_round4 (y := q') (z := a') (u := c') (u' / 128) (q' ++ [UInt8.ofNat (u' % 128 + 128)]) a14 c14 ⟨?_, by omega⟩ (by omega) ⟨?_, rfl, trivial⟩ ?_
    · show (q' ++ [UInt8.ofNat (u' % 128 + 128)]) ++ num (u' / 128) = _
      rw [← h1, hlast, List.append_assoc]; rfl
    · simp only [List.length_append, List.length_singleton]; rfl
    · simp only [List.length_append, List.length_singleton, bs_append]
      exact List.sublist_cons_self _ _
  · have hb : UInt8.ofNat (((u' : Int) % 256).toNat) = UInt8.ofNat u' := by
      apply UInt8.toNat_inj.1
      rw [UInt8.toNat_ofNat', UInt8.toNat_ofNat']; omega
    rw [if_pos (by omega)] at hlast
    have hq : q ++ num u = q' ++ [UInt8.ofNat u'] := by rw [← h1, hlast]
    rw [hq]
    refine c_exit <| q_ex <| q_ex <| q_exb <| q_then <| c_seq <| c_reg <| s_y y_mv <| s_y y_mv <| s_y y_cv8 <| ?_
    rw [hb]
    refine s_bslr (cs := bs [UInt8.ofNat u']) fun b18 => s_app (m := 1) (srcB (q := [UInt8.ofNat u']) (rdR (.head _))) (h1 := fun v hv => bs_one hv) fun a19 c19 h19 => s_y y_as <| s_nil <| q_then <| c_ret <| ?_
    refine ret1 Tryd.results67 rv_t fun w' hw => ⟨(a19, c19), trivial, ?_, ?_⟩
    · rw [List.length_append, List.length_singleton]
    · rw [List.length_append, List.length_singleton, bs_append]
      exact hw.sub (List.sublist_cons_self _ _)

theorem codec_unsigned_ok (w : World) (n : Int) (hn : R64 n) : Pure Tryd.prog 68 [I n] w (U (uns n)) := by
  unfold R64 at hn
  refine enter Tryd.func68 Tryd.ntmps68 ?_
  refine c_seq <| c_reg <| s_y y_as <| s_nil <| q_then <| c_seq <| c_reg <| s_y y_mv <| s_y y_cvw <| s_y (y_shlw 1) <| s_y y_mv <| s_y (y_shrc 63) <| s_y y_cvw <| ?_
  by_cases h : 0 ≤ n
  · obtain ⟨m, rfl⟩ := Int.eq_ofNat_of_zero_le h
    have e1 : IntKind.u64.wrap (IntKind.u64.wrap (m : Int) * 2 ^ 1) = ((2 * m : Nat) : Int) := by rw [wrap_u64', wrap_u64']; omega
    have e2 : IntKind.u64.wrap ((m : Int) / 2 ^ 63) = ((0 : Nat) : Int) := by rw [wrap_u64']; omega
    have e3 : uns (m : Int) = (2 * m) ^^^ 0 := by rw [uns, if_pos h, Nat.xor_zero]; omega
    rw [e1, e2, e3]
    refine s_y (y_xorn (hw := by rw [Nat.xor_zero]; exact wrap_u64 (by omega) (by omega))) <| s_y y_as <| s_nil <| q_then <| c_ret <| ?_
    exact ret1 Tryd.results68 rv_t fun w' hw => ⟨rfl, hw⟩
  · have e1 : IntKind.u64.wrap (IntKind.u64.wrap n * 2 ^ 1) = (((18446744073709551616 + 2 * n).toNat : Nat) : Int) := by rw [wrap_u64', wrap_u64']; omega
    have e2 : IntKind.u64.wrap (n / 2 ^ 63) = ((18446744073709551615 : Nat) : Int) := by rw [wrap_u64']; omega
    have e3 : uns n = (18446744073709551616 + 2 * n).toNat ^^^ 18446744073709551615 := by rw [uns, if_neg h, xor_ones _ (by omega)]; omega
    have e4 : uns n < 18446744073709551616 := by rw [uns, if_neg h]; omega
    rw [e1, e2]
    refine s_y (y_xorn (hw := by rw [← e3]; exact wrap_u64 (by omega) (by omega))) <| s_y y_as <| s_nil <| q_then <| c_ret <| ?_
    exact ret1 Tryd.results68 rv_t fun w' hw => ⟨by rw [e3], hw⟩

theorem uns_lt {n : Int} (hn : R64 n) : uns n < 18446744073709551616 := by
  unfold R64 at hn; unfold uns; split <;> omega
end Go.Proofs.YtjfiggbgpplopaaDoor
