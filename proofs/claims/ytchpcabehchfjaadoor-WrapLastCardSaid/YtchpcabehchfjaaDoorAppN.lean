/- Append where there is no room: the old memory is only read. -/
import Derived.Test.YtchpcabehchfjaaDoorBase
namespace Eng
open Go Go.RowKit
/-- append of so many zeros, without room -/
theorem run_apzN {P : Program} {t u ty e : TypeId} {kd ku : IntKind} {s by' : Nat} {z : Value} {w : World} (ht : P.underlying t = some (.slice e)) (hu : P.underlying u = some (.int kd))
    (hs : HS P e s by') (hz : HZ P e z) (hzs : z.cells.size = s) {a : Option Addr} {n c m : Nat} {xs : List Value}
    (hrd : Rd w a xs) (hxl : xs.length = n * s) (hc : c ≤ maxLen) (hroom : ¬ n + m ≤ c) (hfit : n + m ≤ maxLen) (hby : (n + m) * by' ≤ 140737488355328) :
    ∃ cc cur, (Builtin.append_ #[t, u] ty #[.slice a n c, .int ku (m : Int)]).run P w = .ok (.slice (some ⟨w.heap.size, 0, none⟩) (n + m) cc) (w.drew.alloc (.cells cur e)) ∧
      (Res.row (some ⟨w.heap.size, 0, none⟩) cc e s (n + m) (xs ++ repL m z.cells.toList)).holds (w.drew.alloc (.cells cur e)) := by
  obtain ⟨i, hi, hsz, hbz⟩ := hs.h
  have hyl : (repL m z.cells.toList).length = m * s := by rw [repL_length, Array.length_toList, hzs]
  have hw : IntKind.i64.wrap (m : Int) = m := wrap_i64 (by simp only [maxLen] at hfit; unfold R64; omega)
  have hm0 : ¬ ((m : Int) < 0) := by omega
  have hmb : ¬ (281474976710656 < (m : Int) * (i.bytes : Int)) := by
    have h3 : m * by' ≤ (n + m) * by' := Nat.mul_le_mul_right _ (by omega)
    have h4 : ((m * by' : Nat) : Int) ≤ 140737488355328 := by omega
    rw [hbz]
    rw [Int.natCast_mul] at h4
    omega
  have hzz := fun w => hz.h w
  have has : ∀ w, (asInt (.int ku (m : Int))).run P w = .ok (m : Int) w := fun _ => rfl
  have hz1 : m * s = 0 → repL m z.cells.toList = [] := fun h0 => List.eq_nil_of_length_eq_zero (by rw [hyl, h0])
  have hz2 : ¬ (m * s = 0) → Builtin.zeroCells z.cells m = (repL m z.cells.toList).toArray := fun h0 => by
    have := zeros_eq z.cells s m hzs
    rwa [if_neg h0] at this
  generalize hys : repL m z.cells.toList = ys at *
  have h63' : ¬ (9223372036854775807 < ((n : Int) + (m : Int))) := by simp only [maxLen] at hfit; omega
  have hns : Builtin.nextslicecap (n + m) c * i.bytes ≤ 281474976710656 := growslice_fits (by omega) (by rw [hbz]; exact hby)
  have h48' : ¬ (281474976710656 < Builtin.nextslicecap (n + m) c * i.bytes) := by omega
  have hold : (Builtin.firstCells s n (.slice a n c)).run P w.drew = .ok xs.toArray w.drew :=
    (Src.slice (Rd.congr (w := w) (w' := w.drew) hrd (fun b _ => rfl)) hxl).2.1
  have hge := grownCap_ge w (n + m) c e
  have hcm : grownCap w (n + m) c e ≤ maxLen := grownCap_le_maxLen w (n + m) c e hfit
  refine ⟨grownCap w (n + m) c e, xs.toArray ++ ys.toArray ++ Builtin.zeroCells z.cells (grownCap w (n + m) c e - (n + m)), ?_, ⟨by simp [hxl, hyl, Nat.add_mul], hge, .inr ⟨w.heap.size, _, rfl, heap_alloc_new w.drew _, hcm, ?_, ?_⟩⟩⟩
  · have hni : ¬ (n + m ≤ c) := hroom
    by_cases h0 : m * s = 0
    · have e0 := hz1 h0
      subst e0
      simp [Builtin.append_, run_underlying ht, run_underlying hu, Go.sizeOf, typeInfo, hi, hsz, hni, h63', h48', Question.forced, hold, hzz, newRow, grownCap, hw, hm0, hmb, has, h0] <;> (congr 2; apply Array.ext'; simp)
    · have e0 := hz2 h0
      simp [Builtin.append_, run_underlying ht, run_underlying hu, Go.sizeOf, typeInfo, hi, hsz, hni, h63', h48', Question.forced, hold, hzz, newRow, grownCap, hw, hm0, hmb, has, h0, e0] <;> (congr 2; apply Array.ext'; simp)
  · simp only [Array.size_append, List.size_toArray, size_zeroCells, hzs, hxl, hyl, ← Nat.add_mul]
    congr 1; omega
  · simp only [Array.toList_append]
    rw [List.take_append_of_le_length (by simp [hxl, hyl, Nat.add_mul]), List.take_of_length_le (by simp [hxl, hyl, Nat.add_mul])]
/-- append, without room -/
theorem run_appN {P : Program} {t u ty e : TypeId} {ud : TypeDesc} {s by' : Nat} {z : Value} {w : World} (ht : P.underlying t = some (.slice e)) (hu : P.underlying u = some ud) (hud : (∃ e', ud = .slice e') ∨ ud = .string)
    (hs : HS P e s by') (hz : HZ P e z) (hzs : z.cells.size = s) {a : Option Addr} {n c m : Nat} {xs ys : List Value} {x : Value}
    (hrd : Rd w a xs) (hxl : xs.length = n * s) (hc : c ≤ maxLen) (hroom : ¬ n + m ≤ c) (hx : Src P w s x m ys) (hxd : Src P w.drew s x m ys) (hfit : n + m ≤ maxLen) (hby : (n + m) * by' ≤ 140737488355328) :
    ∃ cc cur, (Builtin.append_ #[t, u] ty #[.slice a n c, x]).run P w = .ok (.slice (some ⟨w.heap.size, 0, none⟩) (n + m) cc) (w.drew.alloc (.cells cur e)) ∧
      (Res.row (some ⟨w.heap.size, 0, none⟩) cc e s (n + m) (xs ++ ys)).holds (w.drew.alloc (.cells cur e)) := by
  obtain ⟨i, hi, hsz, hbz⟩ := hs.h
  have hsrcl := hx.2.2
  have h63' : ¬ (9223372036854775807 < ((n : Int) + (m : Int))) := by simp only [maxLen] at hfit; omega
  have hns : Builtin.nextslicecap (n + m) c * i.bytes ≤ 281474976710656 := growslice_fits (by omega) (by rw [hbz]; exact hby)
  have h48' : ¬ (281474976710656 < Builtin.nextslicecap (n + m) c * i.bytes) := by omega
  have hold : (Builtin.firstCells s n (.slice a n c)).run P w.drew = .ok xs.toArray w.drew :=
    (Src.slice (Rd.congr (w := w) (w' := w.drew) hrd (fun b _ => rfl)) hxl).2.1
  have hge := grownCap_ge w (n + m) c e
  have hcm : grownCap w (n + m) c e ≤ maxLen := grownCap_le_maxLen w (n + m) c e hfit
  refine ⟨grownCap w (n + m) c e, xs.toArray ++ ys.toArray ++ Builtin.zeroCells z.cells (grownCap w (n + m) c e - (n + m)), ?_, ⟨by simp [hxl, hsrcl, Nat.add_mul], hge, .inr ⟨w.heap.size, _, rfl, heap_alloc_new w.drew _, hcm, ?_, ?_⟩⟩⟩
  · have hzz := hz.h w.drew
    have hni : ¬ (n + m ≤ c) := hroom
    rcases hud with ⟨e', rfl⟩ | rfl <;> simp [Builtin.append_, run_underlying ht, run_underlying hu, Go.sizeOf, typeInfo, hi, hx.1, hsz, hni, h63', h48', Question.forced, hold, hxd.2.1, hzz, newRow, grownCap] <;> (congr 2; apply Array.ext'; simp)
  · simp only [Array.size_append, List.size_toArray, size_zeroCells, hzs, hxl, hsrcl, ← Nat.add_mul]
    congr 1; omega
  · simp only [Array.toList_append]
    rw [List.take_append_of_le_length (by simp [hxl, hsrcl, Nat.add_mul]), List.take_of_length_le (by simp [hxl, hsrcl, Nat.add_mul])]
section
variable {r : Option Nat} {P : Program} {n : Nat} {D : List Deferred} {W : World} {Bo : List Nat} {F : List (Nat × Value)} {l l' : SH}
  {d : Option Tmp} {dd : Nat} {ty : TypeId} {ps : String} {af : Array Edge} {g : Option (Nat × Bool)} {x y z : Operand} {v u : Value} {ta tb t e : TypeId}
  {Q : Exit → Act → World → Prop} {ops : Array Oper} {rest : List Oper} {td : TypeDesc} {c : Code}
theorem s_apzN [ht : HU P ta (.slice e)] {kd : IntKind} [hu : HU P tb (.int kd)] {s by' : Nat} [hs : HS P e s by'] {zz : Value} [hz : HZ P e zz] {a : Option Addr} {k cc m : Nat} {xs : List Value} {ku : IntKind}
    (hr : RdS W Bo l a xs)
    (h : ∀ b c', LP r P n D W Bo ops Q rest ((dd, .slice (some ⟨b, 0, none⟩) (k + m) c') :: F) (.row (some ⟨b, 0, none⟩) c' e s (k + m) (xs ++ repL m zz.cells.toList) :: l))
    (hx : evO F x = some (.slice a k cc) := by rfl) (hy : evO F y = some (.int ku (m : Int)) := by rfl)
    (hl : xs.length = k * s := by first | rfl | simp [bs_length]) (hc : cc ≤ maxLen := by (unfold maxLen; omega)) (hroom : ¬ k + m ≤ cc := by omega) (hfit : k + m ≤ maxLen := by (unfold maxLen; omega)) (hby : (k + m) * by' ≤ 140737488355328 := by omega)
    (hzs : zz.cells.size = s := by rfl) (hn : Nat.blt dd n = true := by rfl) (hg : Wn ops F g := by first | exact .none | exact .some rfl rfl) :
    LP r P n D W Bo ops Q (⟨some dd, .call ⟨.builtin .append, #[x, y], #[ta, tb]⟩, ty, ps, af, g⟩ :: rest) F l := by
  refine s_new (σ := Nat × Nat) (fun p => .slice (some ⟨p.1, 0, none⟩) (k + m) p.2) (fun p => .row (some ⟨p.1, 0, none⟩) p.2 e s (k + m) (xs ++ repL m zz.cells.toList) :: l) (fun _ => True) (by simp) ?_ (hn := hn) (hg := hg) (h := fun p _ => h p.1 p.2)
  intro ac w ha hw
  obtain ⟨c', cur, hrun, hrow⟩ := run_apzN (ty := ty) (ku := ku) (m := m) ht.h hu.h hs hz hzs (hr w hw) hl hc hroom hfit hby
  refine ⟨(w.heap.size, c'), w.drew.alloc (.cells cur e), trivial, ?_, hw.drew.add ((Below.refl _ _).alloc (Nat.le_refl _) _) hrow (fun j hj => by cases hj; exact Nat.le_refl _)⟩
  have e1 : #[x, y].map ac.eval = #[.slice a k cc, .int ku (m : Int)] := by simp [ha.eval hx, ha.eval hy]
  simp only [execOp, resolve, e1, Sem.run_bind, Sem.run_pure, Result.andThen_ok, invoke, builtin, hrun]
theorem s_appN [ht : HU P ta (.slice e)] [hu : HU P tb td] {s by' : Nat} [hs : HS P e s by'] {zz : Value} [hz : HZ P e zz] {a : Option Addr} {k cc m : Nat} {xs ys : List Value} {sv : Value}
    (hr : RdS W Bo l a xs) (hsrc : ∀ w, St W Bo w l → Src P w s sv m ys)
    (h : ∀ b c', LP r P n D W Bo ops Q rest ((dd, .slice (some ⟨b, 0, none⟩) (k + m) c') :: F) (.row (some ⟨b, 0, none⟩) c' e s (k + m) (xs ++ ys) :: l))
    (hx : evO F x = some (.slice a k cc) := by rfl) (hy : evO F y = some sv := by rfl)
    (hl : xs.length = k * s := by first | rfl | simp [bs_length]) (hc : cc ≤ maxLen := by (unfold maxLen; omega)) (hroom : ¬ k + m ≤ cc := by omega) (hfit : k + m ≤ maxLen := by (unfold maxLen; omega)) (hby : (k + m) * by' ≤ 140737488355328 := by omega)
    (hud : (∃ e', td = .slice e') ∨ td = .string := by first | exact .inl ⟨_, rfl⟩ | exact .inr rfl) (hzs : zz.cells.size = s := by rfl) (hn : Nat.blt dd n = true := by rfl) (hg : Wn ops F g := by first | exact .none | exact .some rfl rfl) :
    LP r P n D W Bo ops Q (⟨some dd, .call ⟨.builtin .append, #[x, y], #[ta, tb]⟩, ty, ps, af, g⟩ :: rest) F l := by
  refine s_new (σ := Nat × Nat) (fun p => .slice (some ⟨p.1, 0, none⟩) (k + m) p.2) (fun p => .row (some ⟨p.1, 0, none⟩) p.2 e s (k + m) (xs ++ ys) :: l) (fun _ => True) (by simp) ?_ (hn := hn) (hg := hg) (h := fun p _ => h p.1 p.2)
  intro ac w ha hw
  obtain ⟨c', cur, hrun, hrow⟩ := run_appN (ty := ty) (m := m) ht.h hu.h hud hs hz hzs (hr w hw) hl hc hroom (hsrc w hw) (hsrc w.drew hw.drew) hfit hby
  refine ⟨(w.heap.size, c'), w.drew.alloc (.cells cur e), trivial, ?_, hw.drew.add ((Below.refl _ _).alloc (Nat.le_refl _) _) hrow (fun j hj => by cases hj; exact Nat.le_refl _)⟩
  have e1 : #[x, y].map ac.eval = #[.slice a k cc, sv] := by simp [ha.eval hx, ha.eval hy]
  simp only [execOp, resolve, e1, Sem.run_bind, Sem.run_pure, Result.andThen_ok, invoke, builtin, hrun]
end
end Eng
