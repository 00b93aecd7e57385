/- The package derive: rules it needs, and what it computes. -/
import Derived.Test.YtchpcabehchfjaaDoorBufX
import Derived.Test.YtchpcabehchfjaaDoorTag
import Derived.Test.YtchpcabehchfjaaDoorCodX
namespace Eng
open Go Go.RowKit
section
variable {r : Option Nat} {P : Program} {n : Nat} {D : List Deferred} {W : World} {Bo : List Nat} {F : List (Nat × Value)} {l : SH} {e : TypeId}
  {d : Option Tmp} {ty : TypeId} {ps : String} {af : Array Edge} {g : Option (Nat × Bool)} {t : TypeId}
/-- a struct that is written out -/
theorem y_blds {fs : Array Field} {places : Array (Nat × Nat)} {zz : Value} [hz : HZ P t zz] {parts : Array (Nat × Operand)} {vs : List (Nat × Value)} {cs : List Value}
    (hu : P.underlying t = some (.struct fs)) (hpl : ∀ w, (fs.mapM (fun f => do pure (f.offset, ← Go.sizeOf f.type)) : Sem (Array (Nat × Nat))).run P w = .ok places w)
    (hp : evP F parts.toList = some vs := by rfl) (hf : fillL (fun i => places[i]?) zz.cells.toList vs = some cs := by rfl) : Y P n D W Bo ⟨d, .build t parts, ty, ps, af, g⟩ F l (.agg cs.toArray) :=
  .mk (by simp) fun a w ha hw => by
    have e1 : (parts.map fun (i, x) => (i, a.eval x)).toList = vs := by
      rw [Array.toList_map]
      exact evP_eval ha hp
    have e2 := fill_of hf
    simp only [execOp, Instr.build, Sem.run_bind, hz.h, run_underlying hu, Result.andThen_ok, e1, hpl]
    rw [show zz.cells = zz.cells.toList.toArray by simp, e2]
    rfl

theorem St.has {w : World} {p1 l2 : SH} (h : St W Bo w (p1 ++ l2)) : (∀ r ∈ p1, r.holds w) ∧ (keys p1).Nodup := by
  refine ⟨fun r hr => (h.own r (List.mem_append_left _ hr)).1, ?_⟩
  have := h.nd
  rw [keys_app, List.nodup_append] at this
  exact this.1
theorem St.sep {w : World} {p1 l2 : SH} (h : St W Bo w (p1 ++ l2)) {q : Res} (hq : q ∈ l2) {k : Nat} (hk : k ∈ keys p1) : q.key ≠ some k := fun e => by
  have := h.nd
  rw [keys_app, List.nodup_append] at this
  exact this.2.2 k hk k (mem_keys.2 ⟨q, hq, e⟩) rfl
end
end Eng
namespace Cod
open Go Eng
/-- a text and ints, as a value -/
def leaves (t : List UInt8) (ns : List Int) : List V := .mk 2 0 t [] :: ns.map fun n => .mk 1 n [] []
def der (t : List UInt8) (ns : List Int) : V := .mk 3 0 [] (leaves t ns)
def vcell : V → List Value | .mk k n s _ => [I k, I n, .string (sb s), .slice none 0 0]
def vcells (t : List UInt8) (ns : List Int) : List Value := (leaves t ns).flatMap vcell
theorem vcell_length (v : V) : (vcell v).length = 4 := by obtain ⟨k, n, s, l⟩ := v; rfl
theorem vcells_length : ∀ l : List V, (l.flatMap vcell).length = l.length * 4
  | [] => rfl
  | v :: r => by rw [List.flatMap_cons, List.length_append, vcell_length, vcells_length r, List.length_cons]; omega
theorem flat4 : ∀ (l : List V) (i : Nat) (h : i < l.length), ((l.flatMap vcell).drop (i * 4)).take 4 = vcell l[i]
  | v :: r, 0, _ => by
    rw [List.flatMap_cons, Nat.zero_mul, List.drop_zero, List.take_append_of_le_length (by rw [vcell_length]; exact Nat.le_refl _), List.take_of_length_le (by rw [vcell_length]; exact Nat.le_refl _)]
    rfl
  | v :: r, i + 1, h => by
    rw [List.flatMap_cons, List.drop_append, vcell_length, List.drop_eq_nil_of_le (by rw [vcell_length]; omega), List.nil_append, show (i + 1) * 4 - 4 = i * 4 by omega]
    exact flat4 r i (by simpa using h)
theorem leaves_length (t : List UInt8) (ns : List Int) : (leaves t ns).length = ns.length + 1 := by simp [leaves]
theorem vcells_succ (t : List UInt8) (ns : List Int) (i : Nat) (h : i < ns.length) : vcells t (ns.take i) ++ [I 1, I (ns.getD i 0), .string (sb []), .slice none 0 0] = vcells t (ns.take (i + 1)) := by
  unfold vcells leaves
  rw [List.take_add_one, List.getElem?_eq_getElem h, List.map_append, List.flatMap_cons, List.flatMap_cons, List.flatMap_append, List.append_assoc]
  congr 2
  simp [vcell, List.getD_eq_getElem?_getD, List.getElem?_eq_getElem h]
theorem Vv.leaf {w : World} (t : List UInt8) (ns : List Int) (i : Nat) (h : i < (leaves t ns).length) (hns : ∀ n ∈ ns, R64 n) (ht : t.length < 1152921504606846976) : Vv w (leaves t ns)[i] (.agg (vcell (leaves t ns)[i]).toArray) := by
  have hm := List.getElem_mem h
  generalize (leaves t ns)[i] = v at hm
  unfold leaves at hm
  rcases List.mem_cons.1 hm with rfl | hm
  · rw [Vv]
    exact ⟨none, 0, [], rfl, by unfold R64; omega, ⟨ht, by simp⟩, Rd.nil _ _, rfl, fun i => i.elim0⟩
  · obtain ⟨n, hn, rfl⟩ := List.mem_map.1 hm
    rw [Vv]
    exact ⟨none, 0, [], rfl, hns n hn, ⟨by simp, by simp⟩, Rd.nil _ _, rfl, fun i => i.elim0⟩
theorem Vv.der {w : World} {a : Option Addr} {c : Nat} (t : List UInt8) (ns : List Int) (hr : Rd w a (vcells t ns)) (hns : ∀ n ∈ ns, R64 n) (ht : t.length < 1152921504606846976) (hnl : ns.length < 1000000000) :
    Vv w (der t ns) (.agg #[I 3, I 0, .string (sb []), .slice a (ns.length + 1) c]) := by
  rw [Cod.der, Vv]
  refine ⟨a, c, vcells t ns, by rw [leaves_length], by unfold R64; omega, ⟨by simp, by rw [leaves_length]; omega⟩, hr, vcells_length _, fun i => ?_⟩
  have := flat4 (leaves t ns) i.val i.isLt
  unfold vcells
  rw [this]
  exact Vv.leaf t ns i.val i.isLt hns ht
theorem okL_ints (ns : List Int) : okL (ns.map fun n => V.mk 1 n [] []) = true ∧ depL (ns.map fun n => V.mk 1 n [] []) = 0 := by
  induction ns with
  | nil => exact ⟨rfl, rfl⟩
  | cons n r ih => rw [List.map_cons, okL, depL, ih.1, ih.2]; exact ⟨by simp [V.ok], by simp [V.dep]⟩
theorem der_dep (t : List UInt8) (ns : List Int) : (der t ns).dep = 1 := by
  rw [der, V.dep, leaves, depL, (okL_ints ns).2]; simp [V.dep]
theorem der_chk (t : List UInt8) (ns : List Int) : (der t ns).chk = 0 := by
  have h1 : (der t ns).ok = true := by rw [der, V.ok, leaves, okL, (okL_ints ns).1]; simp [V.ok]
  rw [V.chk, if_pos h1, der_dep]; rfl
theorem der_encd (t : List UInt8) (ns : List Int) : (der t ns).encd = (der t ns).enc := by rw [V.encd, if_pos (der_chk t ns)]
theorem der_enc_pos (t : List UInt8) (ns : List Int) : 0 < (der t ns).enc.length := by
  rw [der, V.enc, if_neg (by decide), if_neg (by decide)]; simp
theorem encL_ints : ∀ ns : List Int, (∀ n ∈ ns, R64 n) → (encL (ns.map fun n => V.mk 1 n [] [])).length ≤ ns.length * 11
  | [], _ => by simp [encL]
  | n :: r, h => by
    have := encL_ints r fun x hx => h x (.tail _ hx)
    rw [List.map_cons, encL, List.length_append, V.enc, if_pos rfl, List.length_cons, List.length_cons]
    have h2 := Go.Proofs.YtchpcabehchfjaaDoor.num_le (Go.Proofs.YtchpcabehchfjaaDoor.uns_lt (h n (.head _)))
    omega
theorem der_enc_le (t : List UInt8) (ns : List Int) (hns : ∀ n ∈ ns, R64 n) (ht : t.length ≤ 1000000) (hnl : ns.length ≤ 1000000) : (der t ns).enc.length ≤ 20000000 := by
  have h1 := encL_ints ns hns
  have h2 := Go.Proofs.YtchpcabehchfjaaDoor.num_le (u := t.length) (by omega)
  have h3 := Go.Proofs.YtchpcabehchfjaaDoor.num_le (u := (leaves t ns).length) (by rw [leaves_length]; omega)
  rw [der, V.enc, if_neg (by decide), if_neg (by decide)]
  rw [List.length_cons, List.length_append]
  obtain ⟨m, hm⟩ : ∃ m, (num (leaves t ns).length).length = m := ⟨_, rfl⟩
  rw [hm] at h3 ⊢
  rw [leaves, encL, V.enc, if_neg (by decide), if_pos rfl]
  simp only [List.length_cons, List.length_append]
  omega
end Cod
namespace Go.Proofs.YtchpcabehchfjaaDoor
open Go Eng Sha Cod

abbrev deriveS : List UInt8 := [100, 101, 114, 105, 118, 101]
abbrev seedS : List UInt8 := [115, 101, 101, 100]
abbrev mixS : List UInt8 := [109, 105, 120]
abbrev stepS : List UInt8 := [115, 116, 101, 112]
abbrev scalarS : List UInt8 := [115, 99, 97, 108, 97, 114]
/-- Expand, Mix, Step -/
def expand (k t : List UInt8) (ns : List Int) : List UInt8 := tagged deriveS (k ++ (der t ns).enc)
def mix (t a b : List UInt8) : List UInt8 := tagged mixS (Sha.sum t ++ a ++ b)
def stepN (k : List UInt8) : Nat → List UInt8
  | 0 => k
  | n + 1 => expand (stepN k n) stepS []
theorem expand_length (k t : List UInt8) (ns : List Int) : (expand k t ns).length = 32 := tagged_length _ _
theorem stepN_length {k : List UInt8} (h : k.length = 32) (n : Nat) : (stepN k n).length = 32 := by cases n with | zero => exact h | succ n => exact expand_length _ _ _
theorem stepN_add (k : List UInt8) (m n : Nat) : stepN (stepN k m) n = stepN k (m + n) := by
  induction n with
  | zero => rfl
  | succ n ih => show expand (stepN (stepN k m) n) stepS [] = expand (stepN k (m + n)) stepS []; rw [ih]

theorem y_bval {n : Nat} {D : List Deferred} {W : World} {Bo : List Nat} {F : List (Nat × Value)} {l : SH} {d : Option Tmp} {ty : TypeId} {ps : String} {af : Array Edge} {g : Option (Nat × Bool)} {parts : Array (Nat × Operand)} {vs : List (Nat × Value)} {cs : List Value}
    (hp : evP F parts.toList = some vs := by rfl) (hf : fillL (fun i => (#[(0, 1), (1, 1), (2, 1), (3, 1)] : Array (Nat × Nat))[i]?) [I 0, I 0, .string .empty, .slice none 0 0] vs = some cs := by rfl) :
    Y Tryd.prog n D W Bo ⟨d, .build 74 parts, ty, ps, af, g⟩ F l (.agg cs.toArray) :=
  y_blds Tryd.underlying74 (fun w => by kernel_rfl) hp hf

theorem key_ok (w : World) (b : Nat) (T : TypeId) (a : Option Addr) (c : Nat) (q k : List UInt8) (hs : ∀ r ∈ [bblk b T a q.length c, .row a c 5 1 q.length (bs q)], r.holds w) (hnd : (keys [bblk b T a q.length c, .row a c 5 1 q.length (bs q)]).Nodup)
    (hk : k.length = 32) (hcase : (a = none ∧ q = [] ∧ c = 0) ∨ (∃ g, a = some ⟨g, 0, none⟩ ∧ 0 < q.length ∧ c ≤ 64)) :
    Gives Tryd.prog 55 [.pointer (some ⟨b, 0, none⟩), .agg (bs k).toArray] w (keys [bblk b T a q.length c, .row a c 5 1 q.length (bs q)]) (fun _ : Nat × Nat => .pointer (some ⟨b, 0, none⟩))
      (fun x => [bblk b T (some ⟨x.1, 0, none⟩) (q ++ k).length x.2, .row (some ⟨x.1, 0, none⟩) x.2 5 1 (q ++ k).length (bs (q ++ k))]) (fun x => (a = none → x.2 = 64) ∧ (q.length + 32 ≤ c → x.2 = c)) := by
  have hqc : q.length ≤ c := (hs _ (.tail _ (.head _))).2.1
  have hsz : q.length ≤ 64 := by
    rcases hcase with ⟨_, h2, _⟩ | ⟨_, _, _, h2⟩
    · subst h2; simp
    · omega
  refine enterL Tryd.func55 Tryd.ntmps55 hs hnd ?_
  refine c_seq <| c_reg <| s_box rfl fun b3 => s_y y_as <| s_nil <| q_then <| c_seq <| c_regL [] <| r_y 0 rfl y_mv <| r_y 1 rfl y_nc <| r_y 2 rfl y_fa <| r_y 3 rfl y_sla <| r_W 4 rfl <| ?_
  refine s_updL (ps0 := [bblk b T a q.length c, .row a c 5 1 q.length (bs q)]) (l2 := [.blk b3 (.cells (bs k).toArray 32 (0, 0))]) (List.perm_append_comm (l₁ := [_])) (args := [.pointer (some ⟨b, 0, none⟩), .slice (some ⟨b3, 0, none⟩) 32 32]) (fun w' hw => by
    have h1 := Buffer_Write_ok w' b T a c q k (some ⟨b3, 0, none⟩) 32 hw.has.1 hw.has.2 (rd_blkB (e := 32) (.tail _ (.tail _ (.head _))) w' hw) (fun k' hk' => hw.sep (.head _) hk') (by omega) (by
      rcases hcase with ⟨h1, h2, h3⟩ | h1
      · exact .inl ⟨h1, h2, h3, by omega⟩
      · exact .inr h1) (by omega)
    rw [hk] at h1
    exact h1) (fun x hx => ?_)
  refine r_K <| r_E <| q_then <| c_seq <| c_reg <| s_y y_mv <| s_y y_as <| s_nil <| q_then <| c_ret <| ?_
  exact ret1 Tryd.results55 rv_t fun w' hw => ⟨x, hx, rfl, hw.sub (.cons_cons _ (.cons_cons _ (List.nil_sublist _)))⟩

theorem under_ok (w : World) (b : Nat) (a : Option Addr) (c : Nat) (t q : List UInt8) (hb : Rd w (some ⟨b, 0, none⟩) (bufc a q.length c).toList) (hr : Rd w a (bs q)) (hg : LS w) (ht : t.length < 1152921504606846976) (hl : q.length ≤ 140737488355000) :
    Pure Tryd.prog 57 [.pointer (some ⟨b, 0, none⟩), .string (sb t)] w (.agg (bs (tagged t q)).toArray) := by
  have hs33 : (bs (tagged t q)).toArray.size = 32 := by simp [bs_length, tagged_length]
  refine enter Tryd.func57 Tryd.ntmps57 ?_
  refine c_seq <| c_reg <| s_alloc fun b4 => s_nil <| q_then <| c_seq <| c_reg <| s_y y_mv <| s_y y_mv <| s_y y_nc <| s_y y_fa <| s_pure (fun w' hw => Buffer_Bytes_ok w' b a q.length c (hb.st hw)) <| s_pure (fun w' hw => digest_Tagged_ok w' t a c q (hg.st hw) ht (hr.st hw) hl) <| s_sta (vs := (bs (tagged t q)).toArray) (h1 := fun v hv => bs_one (by simpa using hv)) (hl := by rw [hs33]; rfl) ?_
  refine s_nil <| q_then <| c_ret <| ?_
  exact ret1 Tryd.results57 (rv_ca (hl := hs33)) fun w' hw => ⟨rfl, hw.sub (List.nil_sublist _)⟩
end Go.Proofs.YtchpcabehchfjaaDoor
