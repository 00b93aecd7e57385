/- The laws on shares: Fits, Sum. -/
import Derived.Test.YtnmaegbobfngeaaGreatDoorLaw08
namespace Go.Proofs.YtnmaegbobfngeaaGreatDoor
open Go Eng Gf Cod Sha
set_option maxRecDepth 100000
theorem spl_hor (cs : List Nat) (m : Nat) : ∀ s ∈ spl cs m, s.2 = hor cs s.1 := fun s hs => by
  obtain ⟨i, _, rfl⟩ := List.mem_map.1 hs
  rfl
theorem smL_lt (p q : List (Int × Int)) : (smL p q).length < 1000000000000000000 := by
  unfold smL
  split
  · rename_i h
    by_cases hp : chS p = 0
    · have := (chS_len hp).2
      unfold smS
      rw [List.length_zipWith, toN_length]
      omega
    · rw [smE, if_neg hp] at h; exact absurd h hp
  · decide
theorem few_le {n : Nat} (h : fewS n = true) : n ≤ 100 := by
  unfold fewS at h
  simp only [Bool.or_eq_true, Bool.and_eq_true, decide_eq_true_eq] at h
  omega
end Go.Proofs.YtnmaegbobfngeaaGreatDoor
