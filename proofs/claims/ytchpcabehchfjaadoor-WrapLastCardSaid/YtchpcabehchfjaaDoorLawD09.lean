/- The laws on wraps, for any arguments. -/
import Derived.Test.YtchpcabehchfjaaDoorLawC09
namespace Go.Proofs.YtchpcabehchfjaaDoor
open Go Eng Gf Sha Cha Wr Cod
set_option maxRecDepth 100000
section
variable (w : World) (ha ca : Option Addr) (hc cc : Nat) (h c : List UInt8) (hg : LC w) (hrh : Rd w ha (bs h)) (hrc : Rd w ca (bs c)) (hlh : h.length < 1000000000000000000) (hlc : c.length < 1000000000000000000)
include hg hrh hrc hlh hlc
theorem law_WrapUnwrapSpec_ok (n u : Int) (hcc : c.length ≤ cc) : Pure Tryd.prog 3 [I n, .slice ha h.length hc, .agg #[I u, .slice ca c.length cc]] w (.bool true) := by
  cases hf : decide (h.length + c.length ≤ 600) with
  | false => exact law_UnwrapSpec_few w ha ca hc cc h c n u hg hrh hrc hlh hlc hf
  | true =>
    cases hn : pvB n with
    | false => exact law_UnwrapSpec_no1 w ha ca hc cc h c n u hg hrh hrc hlh hlc hf hn
    | true =>
      obtain ⟨x, rfl, hx0, hx⟩ := pvB_nat hn
      by_cases hck : wchk u c.length = 0
      · obtain ⟨v, rfl, hv, _, _⟩ := wchk_0 hck
        cases hop : opOk (uK x v) z12 h c with
        | false => exact law_UnwrapSpec_no3 w ha ca hc cc h c x v hg hrh hrc hlh hlc hf hx0 hx hv hcc hck hop
        | true => exact law_UnwrapSpec_yes w ha ca hc cc h c x v hg hrh hrc hlh hlc hf hx0 hx hv hcc hck hop
      · exact law_UnwrapSpec_no2 w ha ca hc cc h c x u hg hrh hrc hlh hlc hf hx0 hx hck
theorem law_WrapTag_ok (n u : Int) (hcc : c.length ≤ cc) : Pure Tryd.prog 6 [I n, .slice ha h.length hc, .agg #[I u, .slice ca c.length cc]] w (.bool true) := by
  cases hf : decide (h.length + c.length ≤ 600) with
  | false => exact law_Tag_few w ha ca hc cc h c n u hg hrh hrc hlh hlc hf
  | true =>
    by_cases hck : wchk u c.length = 0
    · obtain ⟨v, rfl, hv, _, _⟩ := wchk_0 hck
      cases hop : opOk (uK (k5N n) v) z12 h c with
      | false => exact law_Tag_off w ha ca hc cc h c n v hg hrh hrc hlh hlc hf hv hcc hck (fun x hx => by rw [← hx]; exact hop)
      | true => exact law_Tag_on w ha ca hc cc h c n v hg hrh hrc hlh hlc hf hv hcc hck (fun x hx => by rw [← hx]; exact hop)
    · exact law_Tag_no w ha ca hc cc h c n u hg hrh hrc hlh hlc hf hck
variable (s : List UInt8) (hs : s.length = 32)
include hs
theorem law_WrapOpens_ok (n : Int) : Pure Tryd.prog 4 [I n, .agg (bs s).toArray, .slice ha h.length hc, .slice ca c.length cc] w (.bool true) := by
  cases hf : decide (h.length + c.length ≤ 600) with
  | false => exact law_Opens_few w ha ca hc cc h c s n hg hrh hrc hlh hlc hf hs
  | true => exact law_Opens_yes w ha ca hc cc h c s n hg hrh hrc hlh hlc hf hs
theorem law_WrapBothSides_ok (n : Int) : Pure Tryd.prog 5 [I n, .agg (bs s).toArray, .slice ha h.length hc, .slice ca c.length cc] w (.bool true) := by
  cases hf : decide (h.length + c.length ≤ 600) with
  | false => exact law_BothSides_few w ha ca hc cc h c s n hg hrh hrc hlh hlc hf hs
  | true => exact law_BothSides_yes w ha ca hc cc h c s n hg hrh hrc hlh hlc hf hs
theorem law_WrapLast_ok (n : Int) (at' y : UInt8) : Pure Tryd.prog 8 [I n, .agg (bs s).toArray, .slice ha h.length hc, .slice ca c.length cc, B at', B y] w (.bool true) := by
  cases hf : decide (h.length + c.length ≤ 600) with
  | false => exact law_Last_few w ha ca hc cc h c s n at' y hg hrh hrc hlh hlc hf hs
  | true =>
    by_cases hy : y = 0
    · exact law_Last_zero w ha ca hc cc h c s n at' y hg hrh hrc hlh hlc hf hs hy
    · exact law_Last_yes w ha ca hc cc h c s n at' y hg hrh hrc hlh hlc hf hs hy
theorem law_WrapSeed_ok (p q : Int) : Pure Tryd.prog 7 [I p, I q, .agg (bs s).toArray, .slice ha h.length hc, .slice ca c.length cc] w (.bool true) := by
  cases hf : decide (h.length + c.length ≤ 600) with
  | false => exact law_Seed_few w ha ca hc cc h c s p q hg hrh hrc hlh hlc hf hs
  | true =>
    cases hp : el p with
    | false =>
      cases hq : el q with
      | false => exact law_Seed_nn w ha ca hc cc h c s p q hg hrh hrc hlh hlc hf hs hp hq
      | true =>
        obtain ⟨y, rfl, hy⟩ := el_El hq
        exact law_Seed_ny w ha ca hc cc h c s p y hg hrh hrc hlh hlc hf hs hp hy
    | true =>
      obtain ⟨x, rfl, hx⟩ := el_El hp
      cases hq : el q with
      | false => exact law_Seed_yn w ha ca hc cc h c s x q hg hrh hrc hlh hlc hf hs hx hq
      | true =>
        obtain ⟨y, rfl, hy⟩ := el_El hq
        exact law_Seed_yy w ha ca hc cc h c s x y hg hrh hrc hlh hlc hf hs hx hy
end
end Go.Proofs.YtchpcabehchfjaaDoor
