/- Joined texts. -/
import Derived.Test.YtchpcabehchfjaaDoorBase
import Derived.Test.YtchpcabehchfjaaDoorConc
import Derived.Test.YtchpcabehchfjaaDoorShaX
/- Values and their encodings as plain functions; no program in sight. -/
namespace Cod
open Go Eng

inductive V where
  | mk (k n : Int) (s : List UInt8) (l : List V)
def V.k : V → Int | .mk k _ _ _ => k
def V.n : V → Int | .mk _ n _ _ => n
def V.s : V → List UInt8 | .mk _ _ s _ => s
def V.l : V → List V | .mk _ _ _ l => l

mutual
/-- is it well-formed? -/
def V.ok : V → Bool
  | .mk k n s l => (k == 1 && (s == [] && l.length == 0)) || (k == 2 && (n == 0 && l.length == 0)) || (k == 3 && (n == 0 && s == []) && okL l)
def okL : List V → Bool
  | [] => true
  | x :: r => V.ok x && okL r
end
mutual
/-- the depth of lists -/
def V.dep : V → Nat
  | .mk k _ _ l => if k = 3 then depL l + 1 else 0
def depL : List V → Nat
  | [] => 0
  | x :: r => max (V.dep x) (depL r)
end
/-- a numeral -/
def num (u : Nat) : List UInt8 := if u < 128 then [UInt8.ofNat u] else UInt8.ofNat (u % 128 + 128) :: num (u / 128)
termination_by u
decreasing_by omega
/-- the unsigned form of an int -/
def uns (n : Int) : Nat := if 0 ≤ n then (2 * n).toNat else (2 * (-(n + 1)) + 1).toNat
mutual
def V.enc : V → List UInt8
  | .mk k n s l => if k = 1 then 1 :: num (uns n) else if k = 2 then 2 :: (num s.length ++ s) else 3 :: (num l.length ++ encL l)
def encL : List V → List UInt8
  | [] => []
  | x :: r => V.enc x ++ encL r
end
/-- Check, Encode -/
def V.chk (v : V) : Int := if v.ok = true then (if 16 < v.dep then 2 else 0) else 1
def V.encd (v : V) : List UInt8 := if v.chk = 0 then v.enc else []

theorem okL_all (l : List V) : okL l = l.all V.ok := by
  induction l with
  | nil => rfl
  | cons x r ih => simp [okL, ih]
theorem okL_take (l : List V) (k : Nat) (h : k < l.length) : okL (l.take (k + 1)) = (okL (l.take k) && (l[k]).ok) := by
  simp only [okL_all]
  rw [List.take_add_one, List.getElem?_eq_getElem h, List.all_append]
  simp
theorem okL_get {l : List V} (h : okL l = true) (k : Nat) (hk : k < l.length) : (l[k]).ok = true := by
  rw [okL_all, List.all_eq_true] at h
  exact h _ (List.getElem_mem hk)
theorem okL_not {l : List V} (k : Nat) (hk : k < l.length) (h : (l[k]).ok = false) : okL l = false := by
  rw [okL_all, List.all_eq_false]
  exact ⟨_, List.getElem_mem hk, by rw [h]; decide⟩
theorem depL_app (a b : List V) : depL (a ++ b) = max (depL a) (depL b) := by
  induction a with
  | nil => simp [depL]
  | cons x r ih => simp [depL, ih]
theorem depL_take (l : List V) (k : Nat) (h : k < l.length) : depL (l.take (k + 1)) = max (depL (l.take k)) (l[k]).dep := by
  rw [List.take_add_one, List.getElem?_eq_getElem h, depL_app]
  exact congrArg _ (Nat.max_zero _)
theorem encL_app (a b : List V) : encL (a ++ b) = encL a ++ encL b := by
  induction a with
  | nil => simp [encL]
  | cons x r ih => simp [encL, ih]
theorem encL_take (l : List V) (k : Nat) (h : k < l.length) : encL (l.take (k + 1)) = encL (l.take k) ++ (l[k]).enc := by
  rw [List.take_add_one, List.getElem?_eq_getElem h, encL_app]
  simp [encL]
theorem encL_le (l : List V) (k : Nat) : (encL (l.take k)).length ≤ (encL l).length := by
  have : encL l = encL (l.take k) ++ encL (l.drop k) := by rw [← encL_app, List.take_append_drop]
  rw [this, List.length_append]; omega
theorem encL_ge (l : List V) (k : Nat) (h : k < l.length) : (encL (l.take k)).length + (l[k]).enc.length ≤ (encL l).length := by
  have := encL_le l (k + 1)
  rw [encL_take l k h, List.length_append] at this
  exact this
theorem dep_le {l : List V} (k : Nat) (h : k < l.length) : (l[k]).dep ≤ depL l := by
  have : depL l = max (depL (l.take (k + 1))) (depL (l.drop (k + 1))) := by rw [← depL_app, List.take_append_drop]
  rw [this, depL_take l k h]; omega
theorem size_lt {k n : Int} {s : List UInt8} {l : List V} (i : Nat) (h : i < l.length) : sizeOf (l[i]) < sizeOf (V.mk k n s l) := by
  have := List.sizeOf_lt_of_mem (List.getElem_mem h)
  simp only [V.mk.sizeOf_spec]; omega
theorem V.ind {M : V → Prop} (h : ∀ k n s l, (∀ i (hi : i < l.length), M l[i]) → M (.mk k n s l)) (v : V) : M v := by
  have key : ∀ m, ∀ v : V, sizeOf v < m → M v := by
    intro m
    induction m with
    | zero => intro v hv; omega
    | succ m ih =>
      intro v hv
      obtain ⟨k, n, s, l⟩ := v
      exact h k n s l fun i hi => ih _ (by have := size_lt (k := k) (n := n) (s := s) i hi; omega)
  exact key _ v (Nat.lt_succ_self _)

/-- a value in memory -/
def Vv (w : World) : V → Value → Prop
  | .mk k n s l, val => ∃ a c cells, val = .agg #[I k, I n, .string (sb s), .slice a l.length c] ∧ R64 n ∧ (s.length < 1152921504606846976 ∧ l.length < 1152921504606846976) ∧ Rd w a cells ∧ cells.length = l.length * 4 ∧ ∀ (i : Fin l.length), Vv w l[i] (.agg ((cells.drop (i.val * 4)).take 4).toArray)
termination_by v => sizeOf v
decreasing_by exact size_lt _ i.isLt

theorem Vv.congr {w w' : World} (hw : ∀ a xs, Rd w a xs → Rd w' a xs) : ∀ (v : V) (val : Value), Vv w v val → Vv w' v val :=
  V.ind fun k n s l ih val h => by
    rw [Vv] at h ⊢
    obtain ⟨a, c, cells, h1, h2, h6, h3, h4, h5⟩ := h
    exact ⟨a, c, cells, h1, h2, h6, hw _ _ h3, h4, fun i => ih i.val i.isLt _ (h5 i)⟩
theorem Vv.st {W w : World} {l : SH} {v : V} {val : Value} (h : Vv W v val) (hs : St W [] w l) : Vv w v val := h.congr fun _ _ hr => hr.st hs
end Cod
/- Numerals; rules for joins inside a region. -/
namespace Eng
open Go Go.RowKit
section
variable {r : Option Nat} {P : Program} {n : Nat} {D : List Deferred} {W : World} {Bo : List Nat} {F G : List (Nat × Value)} {l l' l1 l2 : SH}
  {d : Option Tmp} {dd : Nat} {ty : TypeId} {ps : String} {af : Array Edge} {g : Option (Nat × Bool)} {x y z : Operand} {v u : Value} {ta tb t e : TypeId}
  {Q : Exit → Act → World → Prop} {ops : Array Oper} {rest : List Oper} {td : TypeDesc} {c : Code}

theorem wpListIn_app {K : Act → World → Prop} {post : List Oper} (hK : ∀ a w, K a w → wpListIn (Fw r) 0 P ops Q post a w) : ∀ (pre : List Oper) (a : Act) (w : World),
    wpListIn (Fw r) 0 P ops (Exit.then K Q) pre a w → wpListIn (Fw r) 0 P ops Q (pre ++ post) a w
  | [], a, w, h => hK a w (by simpa [wpListIn, Exit.then] using h)
  | o :: pre, a, w, h => by
    simp only [List.cons_append, wpListIn] at h ⊢
    split
    · rename_i hw
      rw [if_pos hw] at h
      have h1 := Oper.wpIn_mono (K' := wpListIn (Fw r) 0 P ops Q (pre ++ post)) (fun a w hk => wpListIn_app hK pre a w hk) h
      unfold Oper.wpIn at h1 ⊢
      refine ⟨h1.1, ?_⟩
      have h2 := h1.2
      generalize (o.semAt (Fw r).round a.eval).run P w = res at h2 ⊢
      cases res with
      | ok x w' =>
        cases x <;> simp only [Oper.uponIn] at h2 ⊢ <;>
          first
            | exact h2
            | exact ⟨h2.1, CallsIn.mono h2.2 (fun e w'' he => by cases e <;> exact he)⟩
            | exact ⟨h2.1, RoundIn.mono h2.2 (fun e w'' he => by cases e <;> exact he)⟩
      | halt x w' => cases x <;> simp only [Oper.uponIn] at h2 ⊢ <;> exact h2
    · rename_i hw
      rw [if_neg hw] at h
      exact ⟨h.1, wpListIn_app hK pre _ w h.2⟩

/-- ways inside a region that come together behind so many operations -/
theorem s_join (k : Nat) (G : List (Nat × Value)) (l2 : SH) (h1 : LP r P n D W Bo ops (Exit.then (Jn n D W Bo G l2) Q) (rest.take k) F l) (h2 : LP r P n D W Bo ops Q (rest.drop k) G l2) : LP r P n D W Bo ops Q rest F l := by
  intro a w ha hw
  have := wpListIn_app (K := Jn n D W Bo G l2) (post := rest.drop k) (fun a w hJ => h2 a w hJ.1 hJ.2) (rest.take k) a w (h1 a w ha hw)
  rwa [List.take_append_drop] at this

theorem y_max {p q : Int} (hx : evO F x = some (I p) := by rfl) (hy : evO F y = some (I q) := by rfl) : Y P n D W Bo ⟨d, .call ⟨.builtin .max, #[x, y], #[ta, tb]⟩, ty, ps, af, g⟩ F l (I (max p q)) :=
  y_b (vs := [I p, I q]) (by simp [evL, hx, hy]) fun w _ cs => by
    by_cases h : p < q
    · simp [builtin, Builtin.max_, Builtin.max2, h, Int.max_eq_right (Int.le_of_lt h)]
    · simp [builtin, Builtin.max_, Builtin.max2, h, Int.max_eq_left (Int.not_lt.1 h)]
theorem y_or8u {p q : UInt8} (hx : evO F x = some (B p) := by rfl) (hy : evO F y = some (B q) := by rfl) : Y P n D W Bo ⟨d, .binOp .or ta x y tb, ty, ps, af, g⟩ F l (B (p ||| q)) :=
  .mk (by simp) fun a w ha _ => by
    have h := bits8 p q (· ||| ·) (p ||| q) rfl
    simp only [execOp, ha.eval hx, ha.eval hy, eqGuard, binOp]
    show Result.ok (Next.value (.int .u8 (IntKind.u8.wrap _))) w = _
    exact congrArg (fun z => Result.ok (Next.value (.int .u8 z)) w) h
theorem y_add64 {p q : Nat} (hx : evO F x = some (U p) := by rfl) (hy : evO F y = some (U q) := by rfl) (hp : p + q < 18446744073709551616 := by omega) : Y P n D W Bo ⟨d, .binOp .add ta x y tb, ty, ps, af, g⟩ F l (U (p + q)) :=
  .mk (by simp) fun a w ha _ => by
    have e : IntKind.u64.wrap ((p : Int) + (q : Int)) = ((p + q : Nat) : Int) := by
      rw [← Int.natCast_add]; exact wrap_u64 (by omega) (by omega)
    simp [execOp, ha.eval hx, ha.eval hy, eqGuard, binOp, Op.intArith, e]
theorem y_quo64 {p q : Nat} (hx : evO F x = some (U p) := by rfl) (hy : evO F y = some (U q) := by rfl) (h1 : 0 < q := by omega) (hp : p < 18446744073709551616 := by omega) : Y P n D W Bo ⟨d, .binOp .quo ta x y tb, ty, ps, af, g⟩ F l (U (p / q)) :=
  .mk (by simp) fun a w ha _ => by
    have h5 : q ≠ 0 := by omega
    have h6 : IntKind.u64.wrap ((p : Int) / (q : Int)) = ((p / q : Nat) : Int) := by
      rw [← Int.natCast_ediv]
      have hm := Nat.div_le_self p q
      generalize p / q = m at hm ⊢
      exact wrap_u64 (by omega) (by omega)
    simp [execOp, ha.eval hx, ha.eval hy, eqGuard, binOp, Op.intDiv, h5, Int.tdiv_eq_ediv_of_nonneg, h6]
/-- a number shifted to the left, with what is lost -/
theorem y_shlw (m : Nat) {p : Int} {k k' : IntKind} (hx : evO F x = some (.int k p) := by rfl) (hy : evO F y = some (.int k' (m : Int)) := by rfl) (h1 : m ≤ k.bits := by decide) :
    Y P n D W Bo ⟨d, .binOp .shl ta x y tb, ty, ps, af, g⟩ F l (.int k (k.wrap (p * 2 ^ m))) :=
  .mk (by simp) fun a w ha _ => by
    have e2 : min m k.bits = m := by omega
    refine exec_bin P w w _ _ _ _ _ _ _ _ _ _ _ _ ⟨by simp, by simp⟩ ?_
    rw [ha.eval hx, ha.eval hy]
    refine (run_shl P w k k' _ m).trans ?_
    rw [e2]
theorem y_xorn {k : IntKind} {p q : Nat} (hx : evO F x = some (.int k (p : Int)) := by rfl) (hy : evO F y = some (.int k (q : Int)) := by rfl)
    (hp : p < 2 ^ k.bits := by (simp only [IntKind.bits]; omega)) (hq : q < 2 ^ k.bits := by (simp only [IntKind.bits]; omega)) (hw : k.wrap ((p ^^^ q : Nat) : Int) = ((p ^^^ q : Nat) : Int)) :
    Y P n D W Bo ⟨d, .binOp .xor ta x y tb, ty, ps, af, g⟩ F l (.int k ((p ^^^ q : Nat) : Int)) :=
  .mk (by simp) fun a w ha _ => by
    refine exec_bin P w w _ _ _ _ _ _ _ _ _ _ _ _ ⟨by simp, by simp⟩ ?_
    rw [ha.eval hx, ha.eval hy]
    simp only [binOp, ne_eq, not_true_eq_false, if_false, Op.intBits, Sem.run_pure]
    rw [BitVec.toNat_xor, bitsn hp, bitsn hq, hw]
end
theorem xor_ones (p : Nat) (h : p < 18446744073709551616) : p ^^^ 18446744073709551615 = 18446744073709551615 - p := by
  have e1 : (BitVec.ofNat 64 p ^^^ BitVec.allOnes 64) = ~~~ BitVec.ofNat 64 p := BitVec.xor_allOnes
  have e2 := congrArg BitVec.toNat e1
  rw [BitVec.toNat_xor, BitVec.toNat_not, BitVec.toNat_ofNat, Nat.mod_eq_of_lt h, BitVec.toNat_allOnes] at e2
  have e3 : (2 : Nat) ^ 64 - 1 = 18446744073709551615 := by decide
  rw [e3] at e2
  rw [e2]
theorem or128 (x : UInt8) : x ||| 128 = UInt8.ofNat (x.toNat % 128 + 128) := by
  have key : ∀ m : Fin 256, UInt8.ofNat m.val ||| 128 = UInt8.ofNat (m.val % 128 + 128) := by decide +kernel
  have := key ⟨x.toNat, x.toNat_lt⟩
  simpa using this
end Eng
namespace Go.Proofs.YtchpcabehchfjaaDoor
open Go Eng Cod

theorem num_length : ∀ (k u : Nat), u < 128 ^ (k + 1) → (num u).length ≤ k + 1
  | 0, u, h => by rw [num, if_pos (by simpa using h)]; simp
  | k + 1, u, h => by
    rw [num]
    split
    · simp
    · have := num_length k (u / 128) (by rw [Nat.pow_succ] at h; omega)
      rw [List.length_cons]; omega
theorem num_le {u : Nat} (h : u < 18446744073709551616) : (num u).length ≤ 10 := num_length 9 u (by omega)

theorem codec_numeral_ok (w : World) (u : Nat) (a : Option Addr) (c : Nat) (q : List UInt8) (hu : u < 18446744073709551616) (hp : (Res.row a c 5 1 q.length (bs q)).holds w) (hl : q.length ≤ 140737488355000) :
    Gives Tryd.prog 94 [.slice a q.length c, U u] w (keys [.row a c 5 1 q.length (bs q)]) (fun x : Option Addr × Nat => .slice x.1 (q ++ num u).length x.2) (fun x => [.row x.1 x.2 5 1 (q ++ num u).length (bs (q ++ num u))]) (fun _ => True) := by
  refine enterR Tryd.func94 Tryd.ntmps94 hp ?_
  refine c_seq <| c_reg <| s_y y_as <| s_nil <| q_then <| c_seq <| c_block <| ?_
  refine c_loop4 (fun (u' : Nat) (q' : List UInt8) (a' : Option Addr) (c' : Nat) => [(0, .slice a' q'.length c'), (1, U u')]) (fun u' q' a' c' => [.row a' c' 5 1 q'.length (bs q')]) (fun u' q' _ _ => q' ++ num u' = q ++ num u ∧ u' < 18446744073709551616) (fun u' _ _ _ => u') u q a c ⟨rfl, hu⟩ ⟨rfl, rfl, trivial⟩ (List.Sublist.refl _) ?_
  rintro u' q' a' c' ⟨h1, h2⟩
  have hlen := congrArg List.length h1
  rw [List.length_append, List.length_append] at hlen
  have hn10 := num_le hu
  have hlast : num u' = if u' < 128 then [UInt8.ofNat u'] else UInt8.ofNat (u' % 128 + 128) :: num (u' / 128) := by rw [num]
  refine c_seq <| c_seq <| c_reg <| s_y y_mv <| s_y y_geq <| s_nil <| q_then <| c_ifd (fun h6 => ?_) (fun h6 => ?_)
  · have hb : UInt8.ofNat (((u' : Int) % 256).toNat) ||| 128 = UInt8.ofNat (u' % 128 + 128) := by
      rw [or128]
      congr 1
      rw [UInt8.toNat_ofNat']; omega
    rw [if_neg (by omega)] at hlast
    refine c_skip <| q_then <| c_seq <| c_block <| c_reg <| s_y y_mv <| s_y y_mv <| s_y y_cv8 <| s_y (y_or8u (q := 128)) <| ?_
    rw [hb]
    refine s_bslr (cs := bs [UInt8.ofNat (u' % 128 + 128)]) fun b13 => s_app (m := 1) (srcB (q := [UInt8.ofNat (u' % 128 + 128)]) (rdR (.head _))) (h1 := fun v hv => bs_one hv) fun a14 c14 h14 => s_y y_as <| s_nil <| q_nb <| q_then <| c_reg <| s_y y_mv <| s_y (y_shr (p := u')) <| s_y y_as <| s_nil <| ?_
    refine q_round4 (y := q') (z := a') (u := c') (u' / 128) (q' ++ [UInt8.ofNat (u' % 128 + 128)]) a14 c14 ⟨?_, by omega⟩ (by omega) ⟨?_, rfl, trivial⟩ ?_
    · show (q' ++ [UInt8.ofNat (u' % 128 + 128)]) ++ num (u' / 128) = _
      rw [← h1, hlast, List.append_assoc]; rfl
    · simp only [List.length_append, List.length_singleton]; rfl
    · simp only [List.length_append, List.length_singleton, bs_append]
      exact List.sublist_cons_self _ _
  · have hb : UInt8.ofNat (((u' : Int) % 256).toNat) = UInt8.ofNat u' := by
      apply UInt8.toNat_inj.1
      rw [UInt8.toNat_ofNat', UInt8.toNat_ofNat']; omega
    rw [if_pos (by omega)] at hlast
    have hq : q ++ num u = q' ++ [UInt8.ofNat u'] := by rw [← h1, hlast]
    rw [hq]
    refine c_exit <| q_ex <| q_ex <| q_exb <| q_then <| c_seq <| c_reg <| s_y y_mv <| s_y y_mv <| s_y y_cv8 <| ?_
    rw [hb]
    refine s_bslr (cs := bs [UInt8.ofNat u']) fun b18 => s_app (m := 1) (srcB (q := [UInt8.ofNat u']) (rdR (.head _))) (h1 := fun v hv => bs_one hv) fun a19 c19 h19 => s_y y_as <| s_nil <| q_then <| c_ret <| ?_
    refine ret1 Tryd.results94 rv_t fun w' hw => ⟨(a19, c19), trivial, ?_, ?_⟩
    · rw [List.length_append, List.length_singleton]
    · rw [List.length_append, List.length_singleton, bs_append]
      exact hw.sub (List.sublist_cons_self _ _)

theorem codec_unsigned_ok (w : World) (n : Int) (hn : R64 n) : Pure Tryd.prog 95 [I n] w (U (uns n)) := by
  unfold R64 at hn
  refine enter Tryd.func95 Tryd.ntmps95 ?_
  refine c_seq <| c_reg <| s_y y_as <| s_nil <| q_then <| c_seq <| c_reg <| s_y y_mv <| s_y y_cvw <| s_y (y_shlw 1) <| s_y y_mv <| s_y (y_shrc 63) <| s_y y_cvw <| ?_
  by_cases h : 0 ≤ n
  · obtain ⟨m, rfl⟩ := Int.eq_ofNat_of_zero_le h
    have e1 : IntKind.u64.wrap (IntKind.u64.wrap (m : Int) * 2 ^ 1) = ((2 * m : Nat) : Int) := by rw [wrap_u64', wrap_u64']; omega
    have e2 : IntKind.u64.wrap ((m : Int) / 2 ^ 63) = ((0 : Nat) : Int) := by rw [wrap_u64']; omega
    have e3 : uns (m : Int) = (2 * m) ^^^ 0 := by rw [uns, if_pos h, Nat.xor_zero]; omega
    rw [e1, e2, e3]
    refine s_y (y_xorn (hw := by rw [Nat.xor_zero]; exact wrap_u64 (by omega) (by omega))) <| s_y y_as <| s_nil <| q_then <| c_ret <| ?_
    exact ret1 Tryd.results95 rv_t fun w' hw => ⟨rfl, hw⟩
  · have e1 : IntKind.u64.wrap (IntKind.u64.wrap n * 2 ^ 1) = (((18446744073709551616 + 2 * n).toNat : Nat) : Int) := by rw [wrap_u64', wrap_u64']; omega
    have e2 : IntKind.u64.wrap (n / 2 ^ 63) = ((18446744073709551615 : Nat) : Int) := by rw [wrap_u64']; omega
    have e3 : uns n = (18446744073709551616 + 2 * n).toNat ^^^ 18446744073709551615 := by rw [uns, if_neg h, xor_ones _ (by omega)]; omega
    have e4 : uns n < 18446744073709551616 := by rw [uns, if_neg h]; omega
    rw [e1, e2]
    refine s_y (y_xorn (hw := by rw [← e3]; exact wrap_u64 (by omega) (by omega))) <| s_y y_as <| s_nil <| q_then <| c_ret <| ?_
    exact ret1 Tryd.results95 rv_t fun w' hw => ⟨by rw [e3], hw⟩

theorem uns_lt {n : Int} (hn : R64 n) : uns n < 18446744073709551616 := by
  unfold R64 at hn; unfold uns; split <;> omega
end Go.Proofs.YtchpcabehchfjaaDoor
/- Well-formed values: both programs. -/
namespace Go.Proofs.YtchpcabehchfjaaDoor
open Go Eng Cod

/-- the parts of ok -/
theorem ok_eq (k n : Int) (s : List UInt8) (l : List V) : V.ok (.mk k n s l) = (decide (k = 1) && (decide (sb s = sb []) && decide ((l.length : Int) = 0)) || decide (k = 2) && (decide (n = 0) && decide ((l.length : Int) = 0)) || decide (k = 3) && (decide (n = 0) && decide (sb s = sb [])) && okL l) := by
  have e1 : decide (sb s = sb []) = (s == []) := by
    rw [decide_eq_decide.2 (sb_inj (p := s) (q := []))]
    cases s <;> rfl
  have e2 : decide ((l.length : Int) = 0) = (l.length == 0) := by
    by_cases h : l.length = 0
    · simp [h]
    · simp [h]
  have e3 : ∀ j : Int, decide (k = j) = (k == j) := fun j => by by_cases h : k = j <;> simp [h]
  have e4 : decide (n = 0) = (n == 0) := by by_cases h : n = 0 <;> simp [h]
  rw [V.ok, e1, e2, e3, e3, e3, e4]

/-- the element of a list of values -/
theorem Vv.get {w : World} {l : List V} {cells : List Value} (hl : cells.length = l.length * 4) (h : ∀ (i : Fin l.length), Vv w l[i] (.agg ((cells.drop (i.val * 4)).take 4).toArray)) {i : Nat} (hi : i < l.length) :
    Vv w l[i] (.agg ((cells.drop (i * 4)).take 4).toArray) ∧ ((cells.drop (i * 4)).take 4).length = 4 ∧ ∀ (j : Nat) (v : Value), ((cells.drop (i * 4)).take 4)[j]? = some v → cells[i * 4 + j]? = some v := by
  refine ⟨h ⟨i, hi⟩, by rw [List.length_take, List.length_drop]; omega, fun j v hv => ?_⟩
  rw [List.getElem?_take] at hv
  split at hv
  · rwa [List.getElem?_drop] at hv
  · cases hv
theorem Vv.one {w : World} : ∀ (v : V) {val : Value}, Vv w v val → ∀ u ∈ val.cells.toList, u.oneCell' = true
  | .mk k n s l, val, h => by
    rw [Vv] at h
    obtain ⟨a, c, cells, rfl, _⟩ := h
    intro u hu
    simp [Value.cells] at hu
    rcases hu with rfl | rfl | rfl | rfl <;> rfl

theorem codec_formed_ok (v : V) : ∀ (w : World) (val : Value), Vv w v val → v.dep < 9000000000000000000 → Pure Tryd.prog 92 [val] w (.tuple #[I (if v.ok = true then (v.dep : Int) else 0), .bool v.ok]) := by
  induction v using V.ind with
  | h k n s l ih =>
    intro w val hv hdep
    rw [Vv] at hv
    obtain ⟨a, c, cells, rfl, hn, ⟨hsl, hll⟩, hr, hcl, hel⟩ := hv
    have hok := ok_eq k n s l
    refine enter Tryd.func92 Tryd.ntmps92 ?_
    refine c_seq <| c_reg <| s_box rfl fun b1 => s_y y_as <| s_y y_as <| s_nil <| q_then <| c_seq <| c_reg <| ?_
    refine s_join 9 [(2, I 0), (1, .pointer (some ⟨b1, 0, none⟩)), (17, .bool (decide (sb s = sb []) && decide ((l.length : Int) = 0)))] [.blk b1 (.cells #[I k, I n, .string (sb s), .slice a l.length c] 74 (0, 0))] (s_y y_fa <| s_y y_ld <| s_ifd (y_eqls (b := sb [])) (fun h11 => ?_) (fun h11 => ?_)) ?_
    · refine s_y y_mv <| s_y y_fa <| s_y y_ld <| s_y y_len <| s_y y_eql <| s_y y_pk <| s_nil <| q_join ⟨rfl, rfl, by rw [decide_eq_true h11]; rfl, trivial⟩ (List.Sublist.refl _)
    · refine s_y y_mv <| s_no <| s_no <| s_no <| s_no <| s_y y_pk <| s_nil <| q_join ⟨rfl, rfl, by rw [decide_eq_false h11]; rfl, trivial⟩ (List.Sublist.refl _)
    refine s_join 9 [(2, I 0), (1, .pointer (some ⟨b1, 0, none⟩)), (17, .bool (decide (sb s = sb []) && decide ((l.length : Int) = 0))), (26, .bool (decide (n = 0) && decide ((l.length : Int) = 0)))] [.blk b1 (.cells #[I k, I n, .string (sb s), .slice a l.length c] 74 (0, 0))] (s_y y_fa <| s_y y_ld <| s_ifd y_eql (fun h11 => ?_) (fun h11 => ?_)) ?_
    · refine s_y y_mv <| s_y y_fa <| s_y y_ld <| s_y y_len <| s_y y_eql <| s_y y_pk <| s_nil <| q_join ⟨rfl, rfl, rfl, by rw [decide_eq_true h11]; rfl, trivial⟩ (List.Sublist.refl _)
    · refine s_y y_mv <| s_no <| s_no <| s_no <| s_no <| s_y y_pk <| s_nil <| q_join ⟨rfl, rfl, rfl, by rw [decide_eq_false h11]; rfl, trivial⟩ (List.Sublist.refl _)
    refine s_join 8 [(2, I 0), (1, .pointer (some ⟨b1, 0, none⟩)), (17, .bool (decide (sb s = sb []) && decide ((l.length : Int) = 0))), (26, .bool (decide (n = 0) && decide ((l.length : Int) = 0))), (34, .bool (decide (n = 0) && decide (sb s = sb [])))] [.blk b1 (.cells #[I k, I n, .string (sb s), .slice a l.length c] 74 (0, 0))] (s_y y_fa <| s_y y_ld <| s_ifd y_eql (fun h11 => ?_) (fun h11 => ?_)) ?_
    · refine s_y y_mv <| s_y y_fa <| s_y y_ld <| s_y (y_eqls (b := sb [])) <| s_y y_pk <| s_nil <| q_join ⟨rfl, rfl, rfl, rfl, by rw [decide_eq_true h11]; rfl, trivial⟩ (List.Sublist.refl _)
    · refine s_y y_mv <| s_no <| s_no <| s_no <| s_y y_pk <| s_nil <| q_join ⟨rfl, rfl, rfl, rfl, by rw [decide_eq_false h11]; rfl, trivial⟩ (List.Sublist.refl _)
    generalize hu1 : (decide (sb s = sb []) && decide ((l.length : Int) = 0)) = u1 at *
    generalize hu2 : (decide (n = 0) && decide ((l.length : Int) = 0)) = u2 at *
    generalize hu3 : (decide (n = 0) && decide (sb s = sb [])) = u3 at *
    refine s_y (y_blda (cs := [.bool false, .bool u1, .bool u2, .bool u3])) <| s_alloc fun b4 => s_sta (vs := #[.bool false, .bool u1, .bool u2, .bool u3]) (h1 := by intro u hu; simp at hu; rcases hu with rfl | rfl | rfl | rfl <;> rfl) ?_
    have hbad : ∀ {l2 : SH} {F : List (Nat × Value)} {Q : Exit → Act → World → Prop}, V.ok (.mk k n s l) = false → lkO F 2 = some (I 0) → lkO F 3 = some (.bool false) → QP 74 [] w [] (bodyPost Tryd.prog Tryd.f92 fun e w' => e = .returned (.tuple #[I (if V.ok (.mk k n s l) = true then ((V.mk k n s l).dep : Int) else 0), .bool (V.ok (.mk k n s l))]) ∧ St w [] w' []) .ret F l2 := by
      intro l2 F Q h9 h2 h3
      exact ret2 Tryd.results92 (rv_t h2) (rv_t h3) fun w' hw => ⟨by rw [h9]; rfl, hw.sub (List.nil_sublist _)⟩
    refine s_nil <| q_then <| c_seq <| c_seq <| c_reg <| s_y y_fa <| s_y y_ld <| s_ifd y_lss (fun h38 => ?_) (fun h38 => ?_)
    · refine s_y y_mv <| s_no <| s_no <| s_no <| s_y y_pk <| s_y y_mv <| s_no <| s_no <| s_no <| s_no <| s_no <| s_y y_pk <| s_nil <| q_then <| c_t <| c_seq <| c_reg <| s_y y_as <| s_y y_as <| s_nil <| q_then <| c_ret <| q_ret <| ?_
      exact hbad (Q := fun _ _ _ => True) (by rw [hok, decide_eq_false (show ¬ k = 1 by omega), decide_eq_false (show ¬ k = 2 by omega), decide_eq_false (show ¬ k = 3 by omega)]; rfl) rfl rfl
    · refine s_y y_mv <| s_y y_fa <| s_y y_ld <| s_ifd y_gtr (fun h42 => ?_) (fun h42 => ?_)
      · refine s_y y_pk <| s_y y_mv <| s_no <| s_no <| s_no <| s_no <| s_no <| s_y y_pk <| s_nil <| q_then <| c_t <| c_seq <| c_reg <| s_y y_as <| s_y y_as <| s_nil <| q_then <| c_ret <| q_ret <| ?_
        exact hbad (Q := fun _ _ _ => True) (by rw [hok, decide_eq_false (show ¬ k = 1 by omega), decide_eq_false (show ¬ k = 2 by omega), decide_eq_false (show ¬ k = 3 by omega)]; rfl) rfl rfl
      · have hk3 : k = 1 ∨ k = 2 ∨ k = 3 := by omega
        rcases hk3 with rfl | rfl | rfl
        · have hok' : V.ok (.mk 1 n s l) = u1 := by rw [hok]; simp
          refine s_y y_pk <| s_y y_mv <| s_y y_fa <| s_y y_ld <| s_y y_ixa1 <| s_y (y_ld (v := .bool u1)) <| s_y y_not <| s_y y_pk <| s_nil <| q_then <| c_if rfl (fun h50 => ?_) (fun h50 => ?_)
          · refine c_seq <| c_reg <| s_y y_as <| s_y y_as <| s_nil <| q_then <| c_ret <| q_ret <| ?_
            exact hbad (Q := fun _ _ _ => True) (by rw [hok']; simpa using h50) rfl rfl
          · have h51 : u1 = true := by simpa using h50
            refine c_skip <| q_then <| c_seq <| c_seq <| c_reg <| s_y y_fa <| s_y y_ld <| s_kt y_lss (by decide) <| s_nil <| q_then <| c_t <| c_seq <| c_reg <| s_y y_as <| s_y y_as <| s_nil <| q_then <| c_ret <| q_ret <| ?_
            exact ret2 Tryd.results92 rv_t rv_t fun w' hw => ⟨by rw [hok', h51]; rfl, hw.sub (List.nil_sublist _)⟩
        · have hok' : V.ok (.mk 2 n s l) = u2 := by rw [hok]; simp
          refine s_y y_pk <| s_y y_mv <| s_y y_fa <| s_y y_ld <| s_y y_ixa1 <| s_y (y_ld (v := .bool u2)) <| s_y y_not <| s_y y_pk <| s_nil <| q_then <| c_if rfl (fun h50 => ?_) (fun h50 => ?_)
          · refine c_seq <| c_reg <| s_y y_as <| s_y y_as <| s_nil <| q_then <| c_ret <| q_ret <| ?_
            exact hbad (Q := fun _ _ _ => True) (by rw [hok']; simpa using h50) rfl rfl
          · have h51 : u2 = true := by simpa using h50
            refine c_skip <| q_then <| c_seq <| c_seq <| c_reg <| s_y y_fa <| s_y y_ld <| s_kt y_lss (by decide) <| s_nil <| q_then <| c_t <| c_seq <| c_reg <| s_y y_as <| s_y y_as <| s_nil <| q_then <| c_ret <| q_ret <| ?_
            exact ret2 Tryd.results92 rv_t rv_t fun w' hw => ⟨by rw [hok', h51]; rfl, hw.sub (List.nil_sublist _)⟩
        · have hok' : V.ok (.mk 3 n s l) = (u3 && okL l) := by rw [hok]; simp
          have hde : (V.mk 3 n s l).dep = depL l + 1 := by rw [V.dep, if_pos rfl]
          refine s_y y_pk <| s_y y_mv <| s_y y_fa <| s_y y_ld <| s_y y_ixa1 <| s_y (y_ld (v := .bool u3)) <| s_y y_not <| s_y y_pk <| s_nil <| q_then <| c_if rfl (fun h50 => ?_) (fun h50 => ?_)
          · refine c_seq <| c_reg <| s_y y_as <| s_y y_as <| s_nil <| q_then <| c_ret <| q_ret <| ?_
            exact hbad (Q := fun _ _ _ => True) (by rw [hok', show u3 = false by simpa using h50]; rfl) rfl rfl
          · have h51 : u3 = true := by simpa using h50
            refine c_skip <| q_then <| c_seq <| c_seq <| c_reg <| s_y y_fa <| s_y y_ld <| s_kf y_lss (by decide) <| s_nil <| q_then <| c_f <| c_skip <| q_then <| c_seq <| c_seq <| c_reg <| s_y y_fa <| s_y y_ld <| s_y y_len <| s_y y_mv <| s_nil <| q_then <| c_block <| ?_
            refine c_loop (fun i : Nat => [(2, I ((depL (l.take i) : Nat) : Int)), (55, .slice a l.length c), (56, I l.length), (57, I i)]) (fun _ => []) (fun i => i ≤ l.length ∧ okL (l.take i) = true) (fun i => l.length - i) 0 ⟨by omega, rfl⟩ ⟨rfl, rfl, rfl, rfl, trivial⟩ (List.nil_sublist _) ?_
            rintro i ⟨hi, hoki⟩
            refine c_seq <| c_reg <| s_y y_lss <| s_nil <| q_then <| c_seq <| c_ifd (fun h58 => ?_) (fun h58 => ?_)
            · have hil : i < l.length := by omega
              obtain ⟨hvi, h4, hcell⟩ := Vv.get hcl hel hil
              have hone := Vv.one _ hvi
              have hdi := dep_le i hil
              have hdt := depL_take l i hil
              have hot := okL_take l i hil
              generalize (cells.drop (i * 4)).take 4 = cs at *
              refine c_skip <| q_then <| c_seq <| c_block <| c_seq <| c_reg <| s_y (y_ixs (xs := cells) (hl := by omega)) <| s_y (y_ldra (i := i * 4) (cs := cs) (rdW0 hr) h4 hcell) <| s_alloc fun b6 => s_sta (vs := cs.toArray) (h1 := hone) (hl := by rw [List.size_toArray, h4]; rfl) (hs1 := by rw [List.size_toArray, h4]) ?_
              refine s_nil <| q_then <| c_seq <| c_reg <| s_y (y_lda (cs := cs.toArray) (hl := by rw [List.size_toArray, h4])) <| s_pure (fun w' hw => ih i hil w' (.agg cs.toArray) (hvi.st hw) (by omega)) <| s_y y_mv <| s_y y_ext <| s_y y_ext <| s_y y_as <| s_y y_as <| s_nil <| q_then <| c_seq <| c_seq <| c_reg <| s_y y_mv <| s_y y_not <| s_nil <| q_then <| c_if rfl (fun h67 => ?_) (fun h67 => ?_)
              · have hoe : (l[i]).ok = false := by simpa using h67
                refine c_seq <| c_reg <| s_y y_as <| s_y y_as <| s_nil <| q_then <| c_ret <| q_ret <| q_retb <| q_ret <| q_ret <| q_retb <| q_ret <| ?_
                exact hbad (Q := fun _ _ _ => True) (by rw [hok', okL_not i hil hoe, Bool.and_false]) rfl rfl
              · have hoe : (l[i]).ok = true := by simpa using h67
                refine c_skip <| q_then <| c_reg <| s_y y_mv <| s_y y_mv <| s_y y_max <| ?_
                rw [hoe, if_pos rfl, show max ((depL (l.take i) : Nat) : Int) ((l[i]).dep : Int) = ((depL (l.take (i + 1)) : Nat) : Int) by rw [hdt]; omega]
                exact s_y y_as <| s_nil <| q_nb <| q_then <| c_reg <| s_y y_add <| s_y y_mv <| s_nil <| q_round (i + 1) ⟨by omega, by rw [hot, hoki, hoe]; rfl⟩ (by omega) ⟨rfl, rfl, rfl, rfl, trivial⟩ (List.nil_sublist _)
            · have hlt : l.take i = l := List.take_of_length_le (by omega)
              rw [hlt] at hoki
              rw [hlt]
              refine c_exit <| q_ex <| q_ex <| q_exb <| q_then <| c_seq <| c_reg <| s_y y_mv <| s_y y_add <| s_y y_as <| s_y y_as <| s_nil <| q_then <| c_ret <| ?_
              exact ret2 Tryd.results92 rv_t rv_t fun w' hw => ⟨by rw [hok', h51, hoki, hde]; rfl, hw⟩
end Go.Proofs.YtchpcabehchfjaaDoor
/- Checks of values: both programs. -/
namespace Go.Proofs.YtchpcabehchfjaaDoor
open Go Eng Cod

theorem Vv.agg {w : World} {v : V} {val : Value} (h : Vv w v val) : ∃ cs : Array Value, val = .agg cs ∧ cs.size = 4 := by
  obtain ⟨k, n, s, l⟩ := v
  rw [Vv] at h
  obtain ⟨a, c, cells, rfl, _⟩ := h
  exact ⟨_, rfl, rfl⟩

theorem codec_Check_ok (w : World) (v : V) (val : Value) (hv : Vv w v val) (hd : v.dep < 9000000000000000000) : Pure Tryd.prog 71 [val] w (I v.chk) := by
  obtain ⟨cs, rfl, hcs⟩ := Vv.agg hv
  refine enter Tryd.func71 Tryd.ntmps71 ?_
  refine c_seq <| c_reg <| s_box rfl fun b1 => s_y y_as <| s_nil <| q_then <| c_seq <| c_reg <| s_y (y_lda (cs := cs) (hl := hcs)) <| s_pure (fun w' hw => codec_formed_ok v w' (.agg cs) (hv.st hw) hd) <| s_y y_mv <| s_y y_ext <| s_y y_ext <| s_y y_as <| s_y y_as <| s_nil <| q_then <| c_seq <| c_block <| c_seq <| c_reg <| s_y y_mv <| s_y y_not <| s_y y_as <| s_nil <| q_then <| c_if rfl (fun h10 => ?_) (fun h10 => ?_)
  · have hno : v.ok = false := by simpa using h10
    refine c_seq <| c_reg <| s_y y_as <| s_nil <| q_then <| c_ret <| q_retb <| q_ret <| ?_
    exact ret1 Tryd.results71 rv_t fun w' hw => ⟨by simp [V.chk, hno], hw.sub (List.nil_sublist _)⟩
  · have hyes : v.ok = true := by simpa using h10
    rw [hyes, if_pos rfl]
    refine c_seq <| c_reg <| s_y y_mv <| s_y y_gtr <| s_y y_as <| s_nil <| q_then <| c_ifd (fun h13 => ?_) (fun h13 => ?_)
    · refine c_seq <| c_reg <| s_y y_as <| s_nil <| q_then <| c_ret <| q_retb <| q_ret <| ?_
      exact ret1 Tryd.results71 rv_t fun w' hw => ⟨by rw [V.chk, if_pos hyes, if_pos (by omega)], hw.sub (List.nil_sublist _)⟩
    · refine c_skip <| q_nb <| q_then <| c_seq <| c_reg <| s_y y_as <| s_nil <| q_then <| c_ret <| ?_
      exact ret1 Tryd.results71 rv_t fun w' hw => ⟨by rw [V.chk, if_pos hyes, if_neg (by omega)], hw.sub (List.nil_sublist _)⟩

end Go.Proofs.YtchpcabehchfjaaDoor
/- Encodings: the specification. -/
namespace Go.Proofs.YtchpcabehchfjaaDoor
open Go Eng Cod

theorem len_app {α : Type} (a b : List α) : (a ++ b).length = a.length + b.length := List.length_append

theorem enc_ge (k n : Int) (s : List UInt8) (l : List V) (h1 : ¬ k = 1) : (if k = 2 then (num s.length).length + s.length + 1 else (num l.length).length + (encL l).length + 1) = (V.enc (.mk k n s l)).length := by
  rw [V.enc, if_neg h1]
  split
  · simp
  · simp

end Go.Proofs.YtchpcabehchfjaaDoor
/- Encodings: the program. -/
namespace Go.Proofs.YtchpcabehchfjaaDoor
open Go Eng Cod

/-- the writers, in memory -/
def wcells (b1 : Nat) : List Value := [.nilFunc, .func (.func 93) #[] #[], .func (.func 96) #[] #[], .func (.func 97) #[] #[.pointer (some ⟨b1, 0, none⟩)]]
def Wr (W0 : World) (b1 bw : Nat) : Prop := Rd W0 (some ⟨b1, 0, none⟩) [.pointer (some ⟨bw, 0, none⟩)] ∧ Rd W0 (some ⟨bw, 0, none⟩) (wcells b1)
def wf (k : Int) : FuncId := if k = 1 then 93 else if k = 2 then 96 else 97
def wc (k : Int) (b1 : Nat) : List Value := if k = 3 then [.pointer (some ⟨b1, 0, none⟩)] else []
theorem hfW (k : Int) : HF Tryd.prog (wf k) := by
  unfold wf
  split
  · infer_instance
  · split <;> infer_instance
theorem wcell {k : Int} (b1 : Nat) (h : k = 1 ∨ k = 2 ∨ k = 3) : (wcells b1)[k.toNat]? = some (.func (.func (wf k)) #[] (wc k b1).toArray) := by
  rcases h with rfl | rfl | rfl <;> rfl
theorem ok_kind {v : V} (h : v.ok = true) : v.k = 1 ∨ v.k = 2 ∨ v.k = 3 := by
  obtain ⟨k, n, s, l⟩ := v
  rw [ok_eq] at h
  show k = 1 ∨ k = 2 ∨ k = 3
  by_cases h1 : k = 1
  · exact .inl h1
  · by_cases h2 : k = 2
    · exact .inr (.inl h2)
    · by_cases h3 : k = 3
      · exact .inr (.inr h3)
      · rw [decide_eq_false h1, decide_eq_false h2, decide_eq_false h3] at h; cases h
theorem Vv.kind {w : World} {v : V} {cs : List Value} (h : Vv w v (.agg cs.toArray)) : cs[0]? = some (I v.k) := by
  obtain ⟨k, n, s, l⟩ := v
  rw [Vv] at h
  obtain ⟨a, c, cells, he, _⟩ := h
  simp only [Value.agg.injEq] at he
  have := congrArg Array.toList he
  simp only at this
  rw [this]; rfl

theorem write_ok (v : V) : ∀ (W0 w : World) (val : Value) (b1 bw : Nat) (a : Option Addr) (c : Nat) (q : List UInt8), Vv W0 v val → v.ok = true → Wr W0 b1 bw → St W0 [] w [.row a c 5 1 q.length (bs q)] → q.length + v.enc.length ≤ 140737488355000 →
    Gives Tryd.prog (wf v.k) ([.slice a q.length c, val] ++ wc v.k b1) w (keys [.row a c 5 1 q.length (bs q)]) (fun x : Option Addr × Nat => .slice x.1 (q ++ v.enc).length x.2) (fun x => [.row x.1 x.2 5 1 (q ++ v.enc).length (bs (q ++ v.enc))]) (fun _ => True) := by
  induction v using V.ind with
  | h k n s l ih =>
    intro W0 w val b1 bw a c q hv hok hwr hs hlen
    have hkind : k = 1 ∨ k = 2 ∨ k = 3 := ok_kind hok
    rw [Vv] at hv
    obtain ⟨av, cv, cells, rfl, hn, ⟨hsl, hll⟩, hr, hcl, hel⟩ := hv
    have hrow := (hs.own _ (.head _)).1
    rcases hkind with rfl | rfl | rfl
    · have henc : V.enc (.mk 1 n s l) = [1] ++ num (uns n) := by rw [V.enc, if_pos rfl]; rfl
      rw [henc] at hlen ⊢
      have hn10 := num_le (uns_lt hn)
      refine enterR Tryd.func93 Tryd.ntmps93 hrow ?_
      refine c_seq <| c_reg <| s_box rfl fun b3 => s_y y_as <| s_nil <| q_then <| c_seq <| c_regL [.blk b3 (.cells #[I 1, I n, .string (sb s), .slice av l.length cv] 74 (0, 0))] <| r_y 0 rfl y_mv <| r_y 3 rfl y_fa <| r_y 4 rfl (y_ld (v := I n)) <| r_W 1 rfl <| s_bslr (cs := bs [1]) fun b6 => r_K <| r_W 2 rfl <| s_app (m := 1) (srcB (q := [1]) (rdR (.head _))) (h1 := fun v hv => bs_one hv) (hfit := by unfold maxLen; simp at hlen; omega) (hby := by simp at hlen; omega) fun a7 c7 h7 => ?_
      rw [← bs_append, show q.length + 1 = (q ++ [1]).length by simp]
      refine r_K <| r_W 5 rfl <| s_pure (fun w' hw => codec_unsigned_ok w' n hn) <| r_K <| r_W 6 rfl <| s_upd (fun w' hw => codec_numeral_ok w' (uns n) a7 c7 (q ++ [1]) (uns_lt hn) (hw.own _ (.tail _ (.tail _ (.head _)))).1 (by simp at hlen ⊢; omega)) (fun _ => .tail _ (.tail _ (.head _))) (fun x _ => ?_)
      rw [List.append_assoc]
      refine r_K <| r_y 7 rfl y_as <| r_E <| q_then <| c_ret <| ?_
      exact ret1 Tryd.results93 rv_t fun w' hw => ⟨x, trivial, rfl, hw.sub (.cons _ (.cons _ (.refl _)))⟩
    · have henc : V.enc (.mk 2 n s l) = [2] ++ num s.length ++ s := by rw [V.enc, if_neg (by decide), if_pos rfl]; simp
      rw [henc] at hlen ⊢
      have hn10 := num_le (u := s.length) (by omega)
      have hle : q.length + (1 + (num s.length).length + s.length) ≤ 140737488355000 := by simp at hlen; omega
      refine enterR Tryd.func96 Tryd.ntmps96 hrow ?_
      refine c_seq <| c_reg <| s_box rfl fun b3 => s_y y_as <| s_nil <| q_then <| c_seq <| c_regL [.blk b3 (.cells #[I 2, I n, .string (sb s), .slice av l.length cv] 74 (0, 0))] <| r_y 0 rfl y_mv <| r_y 3 rfl y_fa <| r_y 4 rfl (y_ld (v := .string (sb s))) <| r_y 5 rfl y_lens <| ?_
      rw [sb_size]
      refine r_y 6 rfl (y_cvn (p := (s.length : Int))) <| r_y 8 rfl y_fa <| r_y 9 rfl (y_ld (v := .string (sb s))) <| r_W 1 rfl <| s_bslr (cs := bs [2]) fun b6 => r_K <| r_W 2 rfl <| s_app (m := 1) (srcB (q := [2]) (rdR (.head _))) (h1 := fun v hv => bs_one hv) fun a7 c7 h7 => ?_
      rw [← bs_append, show q.length + 1 = (q ++ [2]).length by simp]
      refine r_K <| r_W 7 rfl <| s_upd (fun w' hw => codec_numeral_ok w' s.length a7 c7 (q ++ [2]) (by omega) (hw.own _ (.tail _ (.tail _ (.head _)))).1 (by simp; omega)) (fun _ => .tail _ (.tail _ (.head _))) (fun x _ => ?_)
      have hq2 : (q ++ [2] ++ num s.length).length = q.length + 1 + (num s.length).length := by rw [len_app, len_app]; rfl
      refine r_K <| r_W 10 rfl <| s_app (m := (sb s).size) (srcS (b := sb s)) (h1 := fun v hv => bs_one hv) (hfit := by rw [sb_size]; unfold maxLen; omega) (hby := by rw [sb_size]; omega) fun a15 c15 h15 => ?_
      have hall : q ++ ([2] ++ num s.length ++ s) = q ++ [2] ++ num s.length ++ s := by simp only [List.append_assoc]
      rw [hall]
      refine r_K <| r_y 11 rfl y_as <| r_E <| q_then <| c_ret <| ?_
      refine ret1 Tryd.results96 rv_t fun w' hw => ⟨(a15, c15), trivial, ?_, ?_⟩
      · rw [len_app (q ++ [2] ++ num s.length), sb_size]
      · rw [len_app (q ++ [2] ++ num s.length), bs_append (q ++ [2] ++ num s.length)]
        exact hw.sub (.cons _ (.cons _ (.refl _)))
    · have henc : V.enc (.mk 3 n s l) = [3] ++ num l.length ++ encL l := by rw [V.enc, if_neg (by decide), if_neg (by decide)]; simp
      have hokl : okL l = true := by
        rw [ok_eq] at hok
        simp at hok
        exact hok.2
      rw [henc] at hlen ⊢
      have hn10 := num_le (u := l.length) (by omega)
      have hle : q.length + (1 + (num l.length).length + (encL l).length) ≤ 140737488355000 := by simp at hlen; omega
      refine enterR Tryd.func97 Tryd.ntmps97 hrow ?_
      refine c_seq <| c_reg <| s_box rfl fun b4 => s_y y_as <| s_nil <| q_then <| c_seq <| c_regL [.blk b4 (.cells #[I 3, I n, .string (sb s), .slice av l.length cv] 74 (0, 0))] <| r_y 0 rfl y_mv <| r_y 3 rfl y_fa <| r_y 4 rfl (y_ld (v := .slice av l.length cv)) <| r_y 5 rfl y_len <| r_y 6 rfl y_cvn <| r_W 1 rfl <| s_bslr (cs := bs [3]) fun b9 => r_K <| r_W 2 rfl <| s_app (m := 1) (srcB (q := [3]) (rdR (.head _))) (h1 := fun v hv => bs_one hv) fun a10 c10 h10 => ?_
      rw [← bs_append, show q.length + 1 = (q ++ [3]).length by simp]
      refine r_K <| r_W 7 rfl <| s_upd (fun w' hw => codec_numeral_ok w' l.length a10 c10 (q ++ [3]) (by omega) (hw.own _ (.tail _ (.tail _ (.head _)))).1 (by simp; omega)) (fun _ => .tail _ (.tail _ (.head _))) (fun x _ => ?_)
      have h0 : q ++ [3] ++ num l.length = q ++ [3] ++ num l.length ++ encL (l.take 0) := by simp [encL]
      rw [h0]
      refine r_K <| r_y 8 rfl y_as <| r_E <| q_then <| c_seq <| c_seq <| c_reg <| s_y y_fa <| s_y (y_ld (v := .slice av l.length cv)) <| s_y y_len <| s_y y_mv <| s_nil <| q_then <| c_block <| ?_
      refine c_loop3 (fun (i : Nat) (a' : Option Addr) (c' : Nat) => [(0, .slice a' (q ++ [3] ++ num l.length ++ encL (l.take i)).length c'), (2, .pointer (some ⟨b1, 0, none⟩)), (17, .slice av l.length cv), (18, I l.length), (19, I i)]) (fun i a' c' => [.row a' c' 5 1 (q ++ [3] ++ num l.length ++ encL (l.take i)).length (bs (q ++ [3] ++ num l.length ++ encL (l.take i)))]) (fun i _ _ => i ≤ l.length) (fun i _ _ => l.length - i) 0 x.1 x.2 (by omega) ⟨rfl, rfl, rfl, rfl, rfl, trivial⟩ (.cons _ (.cons _ (.refl _))) ?_
      intro i a' c' hi
      refine c_seq <| c_reg <| s_y y_lss <| s_nil <| q_then <| c_seq <| c_ifd (fun h20 => ?_) (fun h20 => ?_)
      · have hil : i < l.length := by omega
        obtain ⟨hvi, h4, hcell⟩ := Vv.get hcl hel hil
        have hel2 := encL_ge l i hil
        have het := encL_take l i hil
        have hoki := okL_get hokl i hil
        have hki := ok_kind hoki
        have hcs0 := Vv.kind hvi
        have hone := Vv.one _ hvi
        generalize (cells.drop (i * 4)).take 4 = cs at *
        haveI := hfW (l[i]).k
        have hal : (q ++ [3] ++ num l.length ++ encL (l.take i)).length = q.length + 1 + (num l.length).length + (encL (l.take i)).length := by simp only [List.length_append, List.length_singleton]
        have hae : q ++ [3] ++ num l.length ++ encL (l.take (i + 1)) = q ++ [3] ++ num l.length ++ encL (l.take i) ++ (l[i]).enc := by rw [het]; simp
        obtain ⟨qq, hqq⟩ : ∃ qq, q ++ [3] ++ num l.length ++ encL (l.take i) = qq := ⟨_, rfl⟩
        rw [hqq] at hal hae
        rw [hqq]
        have hk0 : 0 ≤ (l[i]).k ∧ (l[i]).k < 4 := by omega
        refine c_skip <| q_then <| c_seq <| c_block <| c_seq <| c_reg <| s_y (y_ixs (xs := cells) (hr := rdO hs hr) (hl := by omega)) <| s_y (y_ldra (i := i * 4) (cs := cs) (rdO hs hr) h4 hcell) <| s_alloc fun b7 => s_sta (vs := cs.toArray) (h1 := hone) (hl := by rw [List.size_toArray, h4]; rfl) (hs1 := by rw [List.size_toArray, h4]) ?_
        refine s_nil <| q_then <| c_regL [.blk b7 (.cells cs.toArray 74 (0, 0))] <| r_y 0 rfl (y_ldr (a := some ⟨b1, 0, none⟩) (i := 0) (xs := [.pointer (some ⟨bw, 0, none⟩)]) rfl (hr := rdO hs hwr.1)) <| r_y 1 rfl y_fa <| r_y 2 rfl (y_ld (v := I (l[i]).k) (hv := by rw [List.getElem?_toArray]; exact hcs0)) <| r_y 3 rfl y_nc <| r_y 4 rfl (y_ixa1 (h0 := hk0.1) (h1 := hk0.2)) <| r_y 5 rfl y_fa <| r_y 6 rfl (y_ldr (a := some ⟨bw, 0, none⟩) (i := ((l[i]).k).toNat) (xs := wcells b1) (wcell b1 hki) (hr := rdO hs hwr.2)) <| r_y 7 rfl y_mv <| r_y 8 rfl (y_lda (cs := cs.toArray) (hl := by rw [List.size_toArray, h4])) <| r_W 9 rfl <| ?_
        refine s_upd (k := wf (l[i]).k) (fs := []) (cs := wc (l[i]).k b1) (fun w' hw => ih i hil W0 w' (.agg cs.toArray) b1 bw a' c' qq hvi hoki hwr (St.over hs hw (.tail _ (.head _))) (by omega)) (fun _ => .tail _ (.head _)) (fun x _ => ?_)
        refine r_K <| r_y 10 rfl y_as <| r_E <| q_nb <| q_then <| c_reg <| s_y y_add <| s_y y_mv <| s_nil <| ?_
        refine q_round3 (y := a') (z := c') (i + 1) x.1 x.2 (by omega) (by omega) ⟨?_, rfl, rfl, rfl, rfl, trivial⟩ ?_
        · rw [hae]; rfl
        · rw [hae]; exact .cons _ (.refl _)
      · have hlt : l.take i = l := List.take_of_length_le (by omega)
        have hall : q ++ ([3] ++ num l.length ++ encL l) = q ++ [3] ++ num l.length ++ encL l := by simp only [List.append_assoc]
        rw [hlt, hall]
        refine c_exit <| q_ex <| q_ex <| q_exb <| q_then <| c_seq <| c_reg <| s_y y_mv <| s_y y_as <| s_nil <| q_then <| c_ret <| ?_
        exact ret1 Tryd.results97 rv_t fun w' hw => ⟨(a', c'), trivial, rfl, hw⟩

theorem codec_newWriter_ok (w : World) : Gives Tryd.prog 72 [] w [] (fun x : Nat × Nat => .pointer (some ⟨x.2, 0, none⟩)) (fun x => [.blk x.1 (.cells #[.pointer (some ⟨x.2, 0, none⟩)] 110 (0, 0)), .blk x.2 (.cells (wcells x.1).toArray 138 (0, 0))]) (fun _ => True) := by
  refine enter Tryd.func72 Tryd.ntmps72 ?_
  refine c_seq <| c_reg <| s_y y_as <| s_nil <| q_then <| c_seq <| c_reg <| s_y (y_blda (cs := [.nilFunc, .nilFunc, .nilFunc, .nilFunc])) <| s_box rfl fun b3 => s_alloc fun b1 => s_st ?_
  refine s_nil <| q_then <| c_seq <| c_reg <| s_y (y_ld (v := .pointer (some ⟨b3, 0, none⟩))) <| s_y y_nc <| s_y y_ixa1 <| s_y y_fa <| s_st ?_
  refine s_nil <| q_then <| c_seq <| c_reg <| s_y (y_ld (v := .pointer (some ⟨b3, 0, none⟩))) <| s_y y_nc <| s_y y_ixa1 <| s_y y_fa <| s_st ?_
  refine s_nil <| q_then <| c_seq <| c_reg <| s_y (y_ld (v := .pointer (some ⟨b3, 0, none⟩))) <| s_y y_func <| s_y y_nc <| s_y y_ixa1 <| s_y y_fa <| s_st ?_
  refine s_nil <| q_then <| c_seq <| c_reg <| s_y (y_ld (v := .pointer (some ⟨b3, 0, none⟩))) <| s_y y_as <| s_nil <| q_then <| c_ret <| ?_
  exact ret1 Tryd.results72 rv_t fun w' hw => ⟨(b1, b3), trivial, rfl, hw⟩

theorem codec_Encode_ok (w : World) (v : V) (val : Value) (hv : Vv w v val) (hd : v.dep < 9000000000000000000) (hlen : v.enc.length ≤ 140737488355000) :
    Gives Tryd.prog 54 [val] w [] (fun x : Option Addr × Nat => .tuple #[.slice x.1 v.encd.length x.2, I v.chk]) (fun x => [.row x.1 x.2 5 1 v.encd.length (bs v.encd)]) (fun _ => True) := by
  obtain ⟨cs, rfl, hcs⟩ := Vv.agg hv
  have hcs0 : cs[0]? = some (I v.k) := by
    have := Vv.kind (cs := cs.toList) (by simpa using hv)
    rwa [Array.getElem?_toList] at this
  refine enter Tryd.func54 Tryd.ntmps54 ?_
  refine c_seq <| c_reg <| s_box rfl fun b1 => s_y y_as <| s_y y_as <| s_nil <| q_then <| c_seq <| c_seq <| c_reg <| s_y (y_lda (cs := cs) (hl := hcs)) <| s_pure (fun w' hw => codec_Check_ok w' v (.agg cs) (hv.st hw) hd) <| s_y y_as <| s_nil <| q_then <| c_seq <| c_reg <| s_y y_mv <| s_y y_neq <| s_nil <| q_then <| c_ifn (fun h8 => ?_) (fun h8 => ?_)
  · have he : v.encd = [] := by rw [V.encd, if_neg h8]
    rw [he]
    refine c_seq <| c_reg <| s_y y_mv <| s_y y_as <| s_y y_as <| s_nil <| q_then <| c_ret <| q_ret <| ?_
    exact ret2 Tryd.results54 rv_t rv_t fun w' hw => ⟨(none, 0), trivial, rfl, (hw.sub (List.nil_sublist _)).nilRow _ _⟩
  · have he : v.encd = v.enc := by rw [V.encd, if_pos h8]
    have hok : v.ok = true := by
      cases h : v.ok with
      | true => rfl
      | false => rw [V.chk, if_neg (by rw [h]; decide)] at h8; cases h8
    have hki := ok_kind hok
    have hk0 : 0 ≤ v.k ∧ v.k < 4 := by omega
    haveI := hfW v.k
    rw [he, h8]
    refine c_skip <| q_then <| c_seq <| c_regL [.blk b1 (.cells cs 74 (0, 0))] <| r_y 1 rfl y_fa <| r_y 2 rfl (y_ld (v := I v.k) (hv := hcs0)) <| r_y 7 rfl (y_lda (cs := cs) (hl := hcs)) <| r_W 0 rfl <| s_gives (fun w' hw => codec_newWriter_ok w') fun x _ => ?_
    refine r_kl (hlp := .cons _ (.cons _ (.refl _))) <| r_y 3 rfl y_nc <| r_y 4 rfl (y_ixa1 (h0 := hk0.1) (h1 := hk0.2)) <| r_y 5 rfl y_fa <| r_y 6 rfl (y_ld (v := .func (.func (wf v.k)) #[] (wc v.k x.1).toArray) (hv := by rw [List.getElem?_toArray, Nat.zero_add, Nat.add_zero]; exact wcell x.1 hki)) <| r_W 8 rfl <| s_nilrow 5 1 <| ?_
    refine s_upd (k := wf v.k) (fs := []) (cs := wc v.k x.1) (p := .row none 0 5 1 0 []) (fun w' hw => write_ok v w' w' (.agg cs) x.1 x.2 none 0 [] (hv.st hw) hok ⟨rdB (.tail _ (.head _)) (fun i v h => by rw [Nat.zero_add]; simpa using h) w' hw, rdB (.tail _ (.tail _ (.head _))) (fun i v h => by rw [Nat.zero_add]; simpa using h) w' hw⟩ ((St.refl w').nilRow _ _) (by simp; omega)) (fun _ => .head _) (fun y _ => ?_)
    rw [List.nil_append]
    refine r_K <| r_y 9 rfl y_as <| r_y 10 rfl y_as <| r_E <| q_then <| c_ret <| ?_
    exact ret2 Tryd.results54 rv_t rv_t fun w' hw => ⟨y, trivial, rfl, hw.sub (.cons_cons _ (List.nil_sublist _))⟩
end Go.Proofs.YtchpcabehchfjaaDoor
