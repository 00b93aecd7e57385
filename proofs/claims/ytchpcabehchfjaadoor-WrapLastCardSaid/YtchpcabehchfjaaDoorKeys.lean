/- Lists of keys; names of purposes. -/
import Derived.Test.YtchpcabehchfjaaDoorEqA
import Derived.Test.YtchpcabehchfjaaDoorDerC
import Derived.Test.YtchpcabehchfjaaDoorScalX
namespace Eng
open Go Go.RowKit
/-- the cells of a list of keys -/
def kcs (l : List (List UInt8)) : List Value := l.flatMap bs
def K32 (l : List (List UInt8)) : Prop := ∀ k ∈ l, k.length = 32
theorem K32.nil : K32 [] := fun _ h => by cases h
theorem K32.app {a b : List (List UInt8)} (ha : K32 a) (hb : K32 b) : K32 (a ++ b) := fun k h => (List.mem_append.1 h).elim (ha k) (hb k)
theorem K32.one {k : List UInt8} (h : k.length = 32) : K32 [k] := fun x hx => by rw [List.mem_singleton] at hx; rw [hx]; exact h
theorem K32.get {l : List (List UInt8)} (h : K32 l) {i : Nat} (hi : i < l.length) : (l.getD i []).length = 32 := by
  rw [List.getD_eq_getElem?_getD, List.getElem?_eq_getElem hi]; exact h _ (List.getElem_mem hi)
theorem K32.drop {l : List (List UInt8)} (h : K32 l) (i : Nat) : K32 (l.drop i) := fun k hk => h k (List.mem_of_mem_drop hk)
theorem kcs_append (a b : List (List UInt8)) : kcs (a ++ b) = kcs a ++ kcs b := by simp [kcs]
theorem kcs_one (k : List UInt8) : kcs [k] = bs k := by simp [kcs]
theorem kcs_length : ∀ {l : List (List UInt8)}, K32 l → (kcs l).length = l.length * 32
  | [], _ => rfl
  | k :: r, h => by
    have := kcs_length (l := r) fun x hx => h x (.tail _ hx)
    have h1 := h k (.head _)
    rw [show kcs (k :: r) = bs k ++ kcs r from rfl, List.length_append, bs_length, this, List.length_cons]; omega
theorem kcs_drop : ∀ {l : List (List UInt8)} (i : Nat), K32 l → (kcs l).drop (i * 32) = kcs (l.drop i)
  | [], i, _ => by simp [kcs]
  | k :: r, 0, _ => by rw [Nat.zero_mul]; rfl
  | k :: r, i + 1, h => by
    have h1 := h k (.head _)
    rw [show kcs (k :: r) = bs k ++ kcs r from rfl, List.drop_append, bs_length, List.drop_eq_nil_of_le (by rw [bs_length]; omega), List.nil_append, show (i + 1) * 32 - k.length = i * 32 by omega]
    exact kcs_drop i fun x hx => h x (.tail _ hx)
theorem kcs_one_cell {l : List (List UInt8)} {v : Value} (h : v ∈ kcs l) : v.oneCell' = true := by
  obtain ⟨k, _, hk⟩ := List.mem_flatMap.1 h
  exact bs_one hk
theorem kcs_get {l : List (List UInt8)} (h : K32 l) {i : Nat} (hi : i < l.length) : ∀ (j : Nat) (v : Value), (bs (l.getD i []))[j]? = some v → (kcs l)[i * 32 + j]? = some v := fun j v hv => by
  have h1 := kcs_drop i h
  have h2 : l.drop i = l.getD i [] :: l.drop (i + 1) := by rw [List.drop_eq_getElem_cons hi, List.getD_eq_getElem?_getD, List.getElem?_eq_getElem hi]; rfl
  rw [h2, show kcs (l.getD i [] :: l.drop (i + 1)) = bs (l.getD i []) ++ kcs (l.drop (i + 1)) from rfl] at h1
  have h3 : ((kcs l).drop (i * 32))[j]? = some v := by
    rw [h1, List.getElem?_append_left (List.getElem?_eq_some_iff.1 hv).1]; exact hv
  rwa [List.getElem?_drop] at h3
theorem rd_sak {w : World} {a : Option Addr} {c n : Nat} {e : TypeId} {ks : List (List UInt8)} (h : (Res.row a c e 32 n (kcs ks)).holds w) (hk : K32 ks) (hn : n = ks.length) (i : Nat) : Rd w (sa a i c 32) (kcs (ks.drop i)) := by
  have h1 := Res.rd h
  have h2 := h.2.1
  rw [← kcs_drop i hk]
  unfold sa
  split
  · rename_i e1
    rw [List.drop_eq_nil_of_le (by rw [kcs_length hk]; omega)]
    exact Rd.nil _ _
  · exact h1.drop _
section
variable {r : Option Nat} {P : Program} {n : Nat} {D : List Deferred} {W : World} {Bo : List Nat} {F : List (Nat × Value)} {l l' : SH}
  {d : Option Tmp} {dd : Nat} {ty : TypeId} {ps : String} {af : Array Edge} {g : Option (Nat × Bool)} {x y z : Operand} {v u : Value} {ta tb t e : TypeId}
  {Q : Exit → Act → World → Prop} {ops : Array Oper} {rest : List Oper} {td : TypeDesc} {c : Code}
theorem y_ixar1 {m : Nat} [hu : HU P t (.array m e)] {by' : Nat} [hs : HS P e 1 by'] {a : Option Addr} {j : Nat} {k : IntKind} {i : Int} (hx : evO F x = some (.pointer (some (ad a j))) := by rfl) (hy : evO F y = some (.int k i) := by rfl)
    (h0 : 0 ≤ i := by omega) (h1 : i < m := by omega) : Y P n D W Bo ⟨d, .indexAddr t x y, ty, ps, af, g⟩ F l (.pointer (some (ad a (j + i.toNat)))) := by
  have := y_ixar (t := t) (e := e) (P := P) (n := n) (D := D) (d := d) (ty := ty) (ps := ps) (af := af) (g := g) (W := W) (Bo := Bo) (l := l) hx hy h0 h1
  rwa [Nat.mul_one] at this
/-- a key in a list of keys -/
theorem y_ldk [hu : HT P t false] {by' : Nat} [hs : HS P t 32 by'] {a : Option Addr} {i : Nat} {ks : List (List UInt8)} (h32 : K32 ks) (hi : i < ks.length) (hr : RdS W Bo l a (kcs ks))
    (hx : evO F x = some (.pointer (some (ad a (i * 32)))) := by rfl) : Y P n D W Bo ⟨d, .load t x, ty, ps, af, g⟩ F l (.agg (bs (ks.getD i [])).toArray) :=
  y_ldra hr (by rw [bs_length]; exact h32.get hi) (kcs_get h32 hi) hx
/-- the place of a key in a list of keys -/
theorem y_ixk [hu : HU P t (.slice e)] {by' : Nat} [hs : HS P e 32 by'] {a : Option Addr} {ks : List (List UInt8)} {m c : Nat} {k : IntKind} {i : Nat} (h32 : K32 ks) (hr : RdS W Bo l a (kcs ks)) (h1 : i < m) (hl : m = ks.length)
    (hx : evO F x = some (.slice a m c) := by rfl) (hy : evO F y = some (.int k (i : Int)) := by rfl) :
    Y P n D W Bo ⟨d, .indexAddr t x y, ty, ps, af, g⟩ F l (.pointer (some (ad a (i * 32)))) := by
  have := y_ixs (t := t) (e := e) (P := P) (n := n) (D := D) (d := d) (ty := ty) (ps := ps) (af := af) (g := g) (i := (i : Int)) hx hy hr (by omega) (by omega) (by rw [kcs_length h32]; omega)
  rwa [Int.toNat_natCast] at this
section
variable {lp : SH} {fuel : Nat} {listed : Array Bool}
theorem r_kt {op : Op} {p : Prop} [dp : Decidable p] (i : Nat) (hi : ops[i]? = some ⟨some dd, op, ty, ps, af, g⟩) (hy : Y P n D W Bo ⟨some dd, op, ty, ps, af, g⟩ F lp (.bool (decide p))) (hp : p) (h : DC P n D W Bo ops Q lp fuel (listed.setIfInBounds i true) ((dd, .bool true) :: F) l)
    (hn : Nat.blt dd n = true := by rfl) (hg : Wn ops F g := by first | exact .none | exact .some rfl rfl)
    (hr : (Region.ready .any ops listed).contains i = true := by kernel_rfl) (hf : Region.free .any ops listed i = true := by kernel_rfl) : DC P n D W Bo ops Q lp (fuel + 1) listed F l :=
  r_y i hi hy (by rw [decide_eq_true hp]; exact h) hn hg hr hf
theorem r_kf {op : Op} {p : Prop} [dp : Decidable p] (i : Nat) (hi : ops[i]? = some ⟨some dd, op, ty, ps, af, g⟩) (hy : Y P n D W Bo ⟨some dd, op, ty, ps, af, g⟩ F lp (.bool (decide p))) (hp : ¬ p) (h : DC P n D W Bo ops Q lp fuel (listed.setIfInBounds i true) ((dd, .bool false) :: F) l)
    (hn : Nat.blt dd n = true := by rfl) (hg : Wn ops F g := by first | exact .none | exact .some rfl rfl)
    (hr : (Region.ready .any ops listed).contains i = true := by kernel_rfl) (hf : Region.free .any ops listed i = true := by kernel_rfl) : DC P n D W Bo ops Q lp (fuel + 1) listed F l :=
  r_y i hi hy (by rw [decide_eq_false hp]; exact h) hn hg hr hf
theorem r_nt {op : Op} {p : Prop} [dp : Decidable p] (i : Nat) (hi : ops[i]? = some ⟨some dd, op, ty, ps, af, g⟩) (hy : Y P n D W Bo ⟨some dd, op, ty, ps, af, g⟩ F lp (.bool (!decide p))) (hp : ¬ p) (h : DC P n D W Bo ops Q lp fuel (listed.setIfInBounds i true) ((dd, .bool true) :: F) l)
    (hn : Nat.blt dd n = true := by rfl) (hg : Wn ops F g := by first | exact .none | exact .some rfl rfl)
    (hr : (Region.ready .any ops listed).contains i = true := by kernel_rfl) (hf : Region.free .any ops listed i = true := by kernel_rfl) : DC P n D W Bo ops Q lp (fuel + 1) listed F l :=
  r_y i hi hy (by rw [decide_eq_false hp]; exact h) hn hg hr hf
theorem r_nf {op : Op} {p : Prop} [dp : Decidable p] (i : Nat) (hi : ops[i]? = some ⟨some dd, op, ty, ps, af, g⟩) (hy : Y P n D W Bo ⟨some dd, op, ty, ps, af, g⟩ F lp (.bool (!decide p))) (hp : p) (h : DC P n D W Bo ops Q lp fuel (listed.setIfInBounds i true) ((dd, .bool false) :: F) l)
    (hn : Nat.blt dd n = true := by rfl) (hg : Wn ops F g := by first | exact .none | exact .some rfl rfl)
    (hr : (Region.ready .any ops listed).contains i = true := by kernel_rfl) (hf : Region.free .any ops listed i = true := by kernel_rfl) : DC P n D W Bo ops Q lp (fuel + 1) listed F l :=
  r_y i hi hy (by rw [decide_eq_true hp]; exact h) hn hg hr hf
end
end
theorem fillK {k : List UInt8} (h : k.length = 32) : fillL (fun i => some (i * 32, 32)) (repL 1 (Value.cells (.agg (List.replicate 32 (.int .u8 0)).toArray)).toList) [(0, .agg (bs k).toArray)] = some (bs k) := by
  have e1 : (Value.cells (.agg (bs k).toArray)).toList = bs k := rfl
  have e2 : (repL 1 (Value.cells (.agg (List.replicate 32 (.int .u8 0)).toArray)).toList) = List.replicate 32 (.int .u8 0) := rfl
  rw [e2]
  unfold fillL
  simp only [Nat.zero_mul, e1, bs_length, h, Nat.zero_add, List.length_replicate]
  rw [show (Nat.beq 32 32 && Nat.ble 32 32) = true from rfl]
  simp only [cond_true, List.take_zero, List.nil_append]
  rw [show List.drop 32 (List.replicate 32 (Value.int .u8 0)) = [] from rfl, List.append_nil]
  rfl
end Eng
namespace Go.Proofs.YtchpcabehchfjaaDoor
open Go Eng Sha Cod
theorem hz32 {k : List UInt8} (h : k.length = 32) : (bs k).toArray.size = 32 := by simp [bs_length, h]
theorem hone32 (k : List UInt8) : ∀ u ∈ (bs k).toArray.toList, u.oneCell' = true := fun v hv => bs_one (by simpa using hv)
theorem mix_length (t a b : List UInt8) : (mix t a b).length = 32 := tagged_length _ _
abbrev lbPath : List UInt8 := [112, 97, 116, 104]
abbrev lbNode : List UInt8 := [110, 111, 100, 101]
abbrev lbEpoch : List UInt8 := [101, 112, 111, 99, 104]
abbrev lbCommit : List UInt8 := [99, 111, 109, 109, 105, 116]
abbrev lbInit : List UInt8 := [105, 110, 105, 116]
abbrev lbChild : List UInt8 := [99, 104, 105, 108, 100]
abbrev lbItem : List UInt8 := [105, 116, 101, 109]
abbrev lbLink : List UInt8 := [108, 105, 110, 107]
abbrev lbConfirm : List UInt8 := [99, 111, 110, 102, 105, 114, 109]
end Go.Proofs.YtchpcabehchfjaaDoor
