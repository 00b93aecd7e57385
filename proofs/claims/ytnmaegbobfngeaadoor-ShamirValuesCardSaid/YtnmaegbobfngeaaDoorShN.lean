/- Shares: the function that Fits looks through them with. -/
import Derived.Test.YtnmaegbobfngeaaDoorShM
namespace Go.Proofs.YtnmaegbobfngeaaDoor
open Go Eng Gf
set_option maxRecDepth 100000
theorem Fits1_ok (w : World) (b7 : Nat) (fa : Option Addr) (fc : Nat) (l : List (Nat × Nat)) (x y : Nat) (hv : Vld l) (hx : x < 2305843009213688669) (hb : Rd w (some ⟨b7, 0, none⟩) [.slice fa l.length fc]) (hr : Rd w fa (shc (sN l))) :
    Pure Tryd.prog 30 [.agg #[I x, I y], .pointer (some ⟨b7, 0, none⟩)] w (.bool (!decide (((valQ l x : Nat) : Int) = (y : Int)))) := by
  refine enter Tryd.func30 Tryd.ntmps30 ?_
  refine c_seq <| c_reg <| s_box rfl fun b2 => s_y y_as <| s_nil <| q_then <| c_seq <| c_regd <| d_y (y_ldr (a := some ⟨b7, 0, none⟩) (i := 0) (xs := [.slice fa l.length fc]) (v := .slice fa l.length fc) rfl rfl (rdW0 hb)) <| d_y y_fa <| d_y (y_ld (b := b2) (v := I x)) <| d_pure (fun w' hw => s_valueV w' fa fc l x hv (hr.st hw) hx) <| d_y y_fa <| d_y (y_ld (b := b2) (v := I y)) <| d_y (y_neq (p := ((valQ l x : Nat) : Int)) (q := (y : Int))) <| d_y y_as <| d_nil <| q_then <| c_ret <| ?_
  exact ret1 Tryd.results30 rv_t fun w' hw => ⟨rfl, hw.sub (List.nil_sublist _)⟩
end Go.Proofs.YtnmaegbobfngeaaDoor
