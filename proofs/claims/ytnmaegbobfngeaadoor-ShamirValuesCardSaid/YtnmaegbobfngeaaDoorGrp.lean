/- The group, in the program and in the reference. -/
import Derived.Test.YtnmaegbobfngeaaDoorGf
namespace Go.Proofs.YtnmaegbobfngeaaDoor
open Go Eng Gf

/-- a step of a power -/
theorem pow_odd {a c k m : Nat} (h : k % 2 = 1) : (c * a % m) * (a * a % m) ^ (k / 2) % m = c * a ^ k % m := by
  have e : c * a ^ k = (c * a) * (a * a) ^ (k / 2) := by
    rw [Nat.mul_pow, ← Nat.pow_add, Nat.mul_assoc, ← Nat.pow_add_one']; congr 2; omega
  rw [e, Nat.mul_mod, Nat.mod_mod, ← Nat.pow_mod, ← Nat.mul_mod]
theorem pow_even {a c k m : Nat} (h : k % 2 = 0) : c * (a * a % m) ^ (k / 2) % m = c * a ^ k % m := by
  have e : c * a ^ k = c * (a * a) ^ (k / 2) := by
    rw [Nat.mul_pow, ← Nat.pow_add]; congr 2; omega
  rw [e, Nat.mul_mod, ← Nat.pow_mod, ← Nat.mul_mod]
theorem r3Scalar_yes (w : World) (x : Nat) (h : x < 2305843009213688669) : Pure Tryd.prog 53 [I x] w (.bool true) := by
  refine enter Tryd.func53 Tryd.ntmps53 ?_
  refine c_seq <| c_reg <| s_y y_as <| s_nil <| q_then <| c_seq <| c_reg <| s_y y_mv <| s_kt (y_geq (p := (x : Int)) (q := 0)) (by omega) <| s_y y_mv <| s_y y_mv <| s_kt (y_lss (p := (x : Int)) (q := 2305843009213688669)) (by omega) <| s_y y_pk <| s_y y_as <| s_nil <| q_then <| c_ret <| ?_
  exact ret1 Tryd.results53 rv_t fun w' hw => ⟨rfl, hw.sub (List.nil_sublist _)⟩

theorem r3Scalar_lo (w : World) (a : Int) (h : a < 0) : Pure Tryd.prog 53 [I a] w (.bool false) := by
  refine enter Tryd.func53 Tryd.ntmps53 ?_
  refine c_seq <| c_reg <| s_y y_as <| s_nil <| q_then <| c_seq <| c_reg <| s_y y_mv <| s_kf (y_geq (p := a) (q := 0)) (by omega) <| s_y y_mv <| s_no <| s_no <| s_y y_pk <| s_y y_as <| s_nil <| q_then <| c_ret <| ?_
  exact ret1 Tryd.results53 rv_t fun w' hw => ⟨rfl, hw.sub (List.nil_sublist _)⟩

theorem r3Scalar_hi (w : World) (a : Int) (h : 2305843009213688669 ≤ a) : Pure Tryd.prog 53 [I a] w (.bool false) := by
  refine enter Tryd.func53 Tryd.ntmps53 ?_
  refine c_seq <| c_reg <| s_y y_as <| s_nil <| q_then <| c_seq <| c_reg <| s_y y_mv <| s_kt (y_geq (p := a) (q := 0)) (by omega) <| s_y y_mv <| s_y y_mv <| s_kf (y_lss (p := a) (q := 2305843009213688669)) (by omega) <| s_y y_pk <| s_y y_as <| s_nil <| q_then <| c_ret <| ?_
  exact ret1 Tryd.results53 rv_t fun w' hw => ⟨rfl, hw.sub (List.nil_sublist _)⟩

theorem r3Scalar_ok (w : World) (a : Int) : Pure Tryd.prog 53 [I a] w (.bool (sc a)) := by
  by_cases h1 : a < 0
  · rw [sc_lo h1]; exact r3Scalar_lo w a h1
  by_cases h2 : 2305843009213688669 ≤ a
  · rw [sc_hi h2]; exact r3Scalar_hi w a h2
  obtain ⟨x, rfl⟩ : ∃ x : Nat, a = (x : Int) := ⟨a.toNat, by omega⟩
  rw [sc_of (by omega)]
  exact r3Scalar_yes w x (by omega)

end Go.Proofs.YtnmaegbobfngeaaDoor
