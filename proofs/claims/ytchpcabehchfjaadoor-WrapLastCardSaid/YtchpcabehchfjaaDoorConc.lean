/- Bytes of a string; Concat and Grow of package slices. -/
import Derived.Test.YtchpcabehchfjaaDoorBase
import Derived.Test.YtchpcabehchfjaaDoorTypes
import Derived.Laws.IdiomStrings
namespace Eng
open Go Go.RowKit
section
variable {r : Option Nat} {P : Program} {n : Nat} {D : List Deferred} {W : World} {Bo : List Nat} {F : List (Nat × Value)} {l l' : SH}
  {d : Option Tmp} {dd : Nat} {ty : TypeId} {ps : String} {af : Array Edge} {g : Option (Nat × Bool)} {x y z : Operand} {v u : Value} {ta tb t e : TypeId}
  {Q : Exit → Act → World → Prop} {ops : Array Oper} {rest : List Oper} {td : TypeDesc} {c : Code}

/-- the bytes of a string, in new memory -/
theorem s_s2b [hs : HU P ta .string] [ht : HU P tb (.slice e)] [he : HU P e (.int .u8)] {q : List UInt8}
    (h : ∀ (b cap : Nat) (cs : Array Value) (fz : Nat × Nat), (∀ (i : Nat) (v : Value), (bs q)[i]? = some v → cs[i]? = some v) → q.length ≤ cap → LP r P n D W Bo ops Q rest ((dd, .slice (some ⟨b, 0, none⟩) q.length cap) :: F) (.blk b (.cells cs e fz) :: l))
    (hx : evO F x = some (.string (sb q)) := by rfl) (hn : Nat.blt dd n = true := by rfl) (hg : Wn ops F g := by first | exact .none | exact .some rfl rfl) :
    LP r P n D W Bo ops Q (⟨some dd, .convert ta tb x, ty, ps, af, g⟩ :: rest) F l :=
  s_new (σ := Nat × Nat × Array Value × (Nat × Nat)) (fun p => .slice (some ⟨p.1, 0, none⟩) q.length p.2.1) (fun p => .blk p.1 (.cells p.2.2.1 e p.2.2.2) :: l) (fun p => (∀ (i : Nat) (v : Value), (bs q)[i]? = some v → p.2.2.1[i]? = some v) ∧ q.length ≤ p.2.1) (by simp)
    (fun a w ha hw => ⟨(w.heap.size, grownCap w q.length 0 e, bytesRow (sb q) (grownCap w q.length 0 e), _), w.drew.alloc (.cells (bytesRow (sb q) (grownCap w q.length 0 e)) e _), ⟨by
        intro i v hv
        have e1 : bytesRow (sb q) (grownCap w q.length 0 e) = (bs q ++ List.replicate (grownCap w q.length 0 e - q.length) (Value.int .u8 0)).toArray := by
          apply Array.ext'
          simp only [bytesRow, sb, bs, Array.toList_append, Array.toList_map, Array.toList_replicate, sb_size]
          rfl
        rw [e1, List.getElem?_toArray, List.getElem?_append_left (by exact (List.getElem?_eq_some_iff.1 hv).1)]
        exact hv, grownCap_ge w q.length 0 e⟩, by
        have := run_bytes_of_string w ta tb e (sb q) hs.h ht.h he.h
        simp only [execOp, ha.eval hx, Sem.run_bind, this, Result.andThen_ok, Sem.run_pure]
        rfl, hw.drew.alloc _⟩)
    (hn := hn) (hg := hg) (h := fun p hp => h p.1 p.2.1 p.2.2.1 p.2.2.2 hp.1 hp.2)

/-- less is known of a slice that owns its memory -/
theorem St.trunc {w : World} (hw : St W Bo w l) {a : Option Addr} {cc s m : Nat} {xs : List Value} (k : Nat) (hk : k ≤ m) (hr : Rep (.row a cc e s m xs) (.row a cc e s k (xs.take (k * s))) l l') : St W Bo w l' := by
  have hrow := (hw.own _ hr.mem).1
  refine hw.change hr rfl rfl rfl (Nat.le_refl _) (fun _ _ _ => rfl) ?_ (fun k hk => .inl hk)
  obtain ⟨h1, h2, h3⟩ := hrow
  have hle : k * s ≤ m * s := Nat.mul_le_mul_right _ hk
  refine ⟨by rw [List.length_take]; omega, by omega, ?_⟩
  rcases h3 with h3 | ⟨g, cur, h4, h5, h6, h7, h8⟩
  · exact .inl h3
  · refine .inr ⟨g, cur, h4, h5, h6, h7, ?_⟩
    rw [← h8, List.take_take, Nat.min_eq_left hle]
theorem s_trunc {a : Option Addr} {cc s m : Nat} {xs : List Value} (k : Nat) (h : LP r P n D W Bo ops Q rest F l') (hk : k ≤ m := by omega)
    (hr : Rep (.row a cc e s m xs) (.row a cc e s k (xs.take (k * s))) l l' := by repeat (first | exact .head _ | apply Rep.tail)) : LP r P n D W Bo ops Q rest F l :=
  fun a w ha hw => h a w ha (hw.trunc k hk hr)
end

/-- slices of bytes in memory -/
def SlL (w : World) (vs : List Value) (qs : List (List UInt8)) : Prop :=
  vs.length = qs.length ∧ ∀ (i : Nat) (q : List UInt8), qs[i]? = some q → ∃ a c, vs[i]? = some (.slice a q.length c) ∧ Rd w a (bs q)
theorem SlL.nil (w : World) : SlL w [] [] := ⟨rfl, fun i q h => by simp at h⟩
theorem SlL.cons {w : World} {a : Option Addr} {c : Nat} {q : List UInt8} {vs : List Value} {qs : List (List UInt8)} (h : Rd w a (bs q)) (h2 : SlL w vs qs) : SlL w (.slice a q.length c :: vs) (q :: qs) := by
  refine ⟨by simp [h2.1], fun i p hp => ?_⟩
  cases i with
  | zero => simp at hp; subst hp; exact ⟨a, c, rfl, h⟩
  | succ i => exact h2.2 i p (by simpa using hp)
theorem flat_take (qs : List (List UInt8)) (k : Nat) (h : k < qs.length) : (qs.take (k + 1)).flatten = (qs.take k).flatten ++ qs[k] := by
  have e : qs.take (k + 1) = qs.take k ++ [qs[k]] := by rw [List.take_add_one, List.getElem?_eq_getElem h]; rfl
  rw [e, List.flatten_append, List.flatten_cons, List.flatten_nil, List.append_nil]
theorem flat_le (qs : List (List UInt8)) (k : Nat) : (qs.take k).flatten.length ≤ qs.flatten.length := by
  have : qs.flatten = (qs.take k).flatten ++ (qs.drop k).flatten := by rw [← List.flatten_append, List.take_append_drop]
  rw [this, List.length_append]; omega
end Eng
namespace Go.Proofs.YtchpcabehchfjaaDoor
open Go Eng

/-- a call that gives new bytes -/
abbrev GivesB (P : Program) (k : FuncId) (args : List Value) (w : World) (q : List UInt8) : Prop :=
  Gives P k args w [] (fun x : Option Addr × Nat => .slice x.1 q.length x.2) (fun x => [.row x.1 x.2 5 1 q.length (bs q)]) (fun _ => True)

theorem slices_Grow_ok (w : World) (m : Nat) (hm : m ≤ 140737488355328) :
    Gives Tryd.prog 67 [.slice none 0 0, I m] w [] (fun x : Option Addr × Nat => .slice x.1 0 x.2) (fun x => [.row x.1 x.2 5 1 0 []]) (fun _ => True) := by
  refine enter Tryd.func67 Tryd.ntmps67 ?_
  refine c_seq <| c_reg <| s_y y_as <| s_nil <| q_then <| c_seq <| c_seq <| c_reg <| s_y y_mv <| s_kf y_lss (by omega) <| s_nil <| q_then <| c_f <| c_skip <| q_then <| c_seq <| c_seq <| c_reg <| s_y y_mv <| s_y y_mv <| s_y y_cap <| s_y y_mv <| s_y y_len <| s_y y_sub <| s_y y_sub <| s_y y_as <| s_nil <| q_then <| c_seq <| c_reg <| s_y y_mv <| s_y y_gtr <| s_nil <| q_then <| c_ifd (fun h16 => ?_) (fun h16 => ?_)
  · refine c_reg <| s_y y_mv <| s_y y_mv <| s_y y_cap <| s_y y_slh <| s_y y_mv <| s_nilrow 5 1 <| ?_
    rw [show (m : Int) - (((0 : Nat) : Int) - ((0 : Nat) : Int)) = (m : Int) by omega]
    refine s_apz (m := m) fun a22 c22 h22 => s_y y_mv <| s_y y_len <| s_y y_slh <| s_y y_as <| s_nil <| q_then <| c_seq <| c_reg <| s_y y_mv <| s_y y_as <| s_nil <| q_then <| c_ret <| ?_
    exact ret1 Tryd.results67 rv_t fun w' hw => ⟨(a22, c22), trivial, rfl, hw.trunc 0 (by omega) (.head _)⟩
  · refine c_skip <| q_then <| c_seq <| c_reg <| s_y y_mv <| s_y y_as <| s_nil <| q_then <| c_ret <| ?_
    exact ret1 Tryd.results67 rv_t fun w' hw => ⟨(none, 0), trivial, rfl, hw.nilRow _ _⟩

theorem slices_Concat_ok (w : World) (A : Option Addr) (C : Nat) (vs : List Value) (qs : List (List UInt8)) (hA : Rd w A vs) (hvs : SlL w vs qs) (hl : qs.flatten.length ≤ 140737488355328) (hn : vs.length < 1000000000) :
    GivesB Tryd.prog 44 [.slice A vs.length C] w qs.flatten := by
  have hlen := hvs.1
  refine enter Tryd.func44 Tryd.ntmps44 ?_
  refine c_seq <| c_reg <| s_y y_as <| s_nil <| q_then <| c_seq <| c_reg <| s_y y_as <| s_nil <| q_then <| c_seq <| c_seq <| c_reg <| s_y y_mv <| s_y y_len <| s_y y_mv <| s_nil <| q_then <| c_block <| ?_
  refine c_loop (fun k : Nat => [(0, .slice A vs.length C), (3, I ((qs.take k).flatten.length : Nat)), (9, .slice A vs.length C), (10, I vs.length), (11, I k)]) (fun _ => []) (fun k => k ≤ vs.length) (fun k => vs.length - k) 0 (by omega) ⟨rfl, rfl, rfl, rfl, rfl, trivial⟩ (List.Sublist.refl _) ?_
  intro k hk
  refine c_seq <| c_reg <| s_y y_lss <| s_nil <| q_then <| c_seq <| c_ifd (fun h12 => ?_) (fun h12 => ?_)
  · have hk2 : k < qs.length := by omega
    obtain ⟨ak, ck, hvk, hrk⟩ := hvs.2 k qs[k] (List.getElem?_eq_getElem hk2)
    have hfl := flat_le qs (k + 1)
    have hfe : (qs.take (k + 1)).flatten.length = (qs.take k).flatten.length + qs[k].length := by rw [flat_take qs k hk2, List.length_append]
    refine c_skip <| q_then <| c_seq <| c_block <| c_seq <| c_reg <| s_y (y_ixs1 (xs := vs)) <| s_y (y_ldr (v := .slice ak qs[k].length ck) (xs := vs) (i := (k : Int).toNat) hvk) <| s_y y_as <| s_nil <| q_then <| c_seq <| c_reg <| s_y y_mv <| s_y y_mv <| s_y y_len <| s_y y_add <| s_y y_as <| s_nil <| q_then <| c_seq <| c_reg <| s_y y_mv <| s_kf y_lss (by omega) <| s_nil <| q_then <| c_f <| c_skip <| q_nb <| q_then <| c_reg <| s_y y_add <| s_y y_mv <| s_nil <| ?_
    rw [show (((qs.take k).flatten.length : Nat) : Int) + ((qs[k].length : Nat) : Int) = ((qs.take (k + 1)).flatten.length : Nat) by omega]
    exact q_round (k + 1) (by omega) (by omega) ⟨rfl, rfl, rfl, rfl, rfl, trivial⟩ (List.Sublist.refl _)
  · have hk3 : qs.take k = qs := List.take_of_length_le (by omega)
    rw [hk3]
    refine c_exit <| q_ex <| q_ex <| q_exb <| q_then <| c_seq <| c_reg <| s_y y_mv <| s_gives (fun w' hw => slices_Grow_ok w' qs.flatten.length hl) fun x0 _ => s_y y_as <| s_nil <| q_then <| c_seq <| c_seq <| c_reg <| s_y y_mv <| s_y y_len <| s_y y_mv <| s_nil <| q_then <| c_block <| ?_
    refine c_loop3 (fun (k : Nat) (a' : Option Addr) (c' : Nat) => [(6, .slice a' (qs.take k).flatten.length c'), (25, .slice A vs.length C), (26, I vs.length), (27, I k)]) (fun k a' c' => [.row a' c' 5 1 (qs.take k).flatten.length (bs (qs.take k).flatten)]) (fun k _ _ => k ≤ vs.length) (fun k _ _ => vs.length - k) 0 x0.1 x0.2 (by omega) ⟨rfl, rfl, rfl, rfl, trivial⟩ (List.Sublist.refl _) ?_
    intro k a' c' hk
    refine c_seq <| c_reg <| s_y y_lss <| s_nil <| q_then <| c_seq <| c_ifd (fun h28 => ?_) (fun h28 => ?_)
    · have hk2 : k < qs.length := by omega
      obtain ⟨ak, ck, hvk, hrk⟩ := hvs.2 k qs[k] (List.getElem?_eq_getElem hk2)
      have hfl := flat_le qs (k + 1)
      have hfe : (qs.take (k + 1)).flatten.length = (qs.take k).flatten.length + qs[k].length := by rw [flat_take qs k hk2, List.length_append]
      refine c_skip <| q_then <| c_seq <| c_block <| c_seq <| c_reg <| s_y (y_ixs1 (xs := vs)) <| s_y (y_ldr (v := .slice ak qs[k].length ck) (xs := vs) (i := (k : Int).toNat) hvk) <| s_y y_as <| s_nil <| q_then <| c_reg <| s_y y_mv <| s_y y_mv <| s_app (m := qs[k].length) (srcB (q := qs[k]) (rdW0 hrk) rfl) (h1 := fun v hv => bs_one hv) fun a33 c33 h33 => s_y y_as <| s_nil <| ?_
      rw [← hfe, ← bs_append, ← flat_take qs k hk2]
      exact q_nb <| q_then <| c_reg <| s_y y_add <| s_y y_mv <| s_nil <| q_round3 (y := a') (z := c') (k + 1) a33 c33 (by omega) (by omega) ⟨rfl, rfl, rfl, rfl, trivial⟩ (List.Sublist.refl _)
    · have hk3 : qs.take k = qs := List.take_of_length_le (by omega)
      rw [hk3]
      refine c_exit <| q_ex <| q_ex <| q_exb <| q_then <| c_seq <| c_reg <| s_y y_mv <| s_y y_as <| s_nil <| q_then <| c_ret <| ?_
      exact ret1 Tryd.results44 rv_t fun w' hw => ⟨(a', c'), trivial, rfl, hw⟩
end Go.Proofs.YtchpcabehchfjaaDoor
