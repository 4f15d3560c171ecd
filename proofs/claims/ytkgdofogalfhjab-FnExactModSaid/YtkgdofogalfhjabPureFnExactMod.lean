/- The printed law FnExactMod, as a function of numbers and lists, answers true for all arguments that a call can be given; no conditions beyond the sizes that memory allows. -/
import Derived.Test.YtkgdofogalfhjabPFnExactModx1
namespace Go.Proofs.Ytkgdofogalfhjab.PureFnExactMod
open Go.RowKit Go.Proofs.Ytkgdofogalfhjab.PFnExactMod Go.Proofs.YtkgdofogalfhjabW.PrintWords Go.Proofs.YtkgdofogalfhjabW.PrintLast Go.Proofs.YtkgdofogalfhjabW.PrintMore
set_option linter.unusedVariables false
set_option linter.unusedSimpArgs false

def inr (a b c : Int) : Bool := decide (b ≤ a) && decide (a ≤ c)
theorem inr_iff (a b c : Int) : inr a b c = true ↔ b ≤ a ∧ a ≤ c := by unfold inr; simp
theorem l1In_eq (a b c : Int) : spec_l1In.f a b c = some (inr a b c) := by
  unfold spec_l1In.f inr
  by_cases h : b ≤ a <;> simp [h]
theorem inRange_eq (a b c : Int) : impl_InRange.f a b c = some (inr a b c) := by
  unfold impl_InRange.f inr
  by_cases h : b ≤ a <;> simp [h]
theorem tmod_range (a b : Int) (hb : 0 < b) : -b < Int.tmod a b ∧ Int.tmod a b < b := by
  rcases Int.le_total 0 a with h | h
  · have h1 := Int.tmod_nonneg b h
    have h2 := Int.tmod_lt_of_pos a hb
    omega
  · have h1 := Int.tmod_nonneg b (a := -a) (by omega)
    have h2 := Int.tmod_lt_of_pos (-a) hb
    rw [Int.neg_tmod] at h1 h2
    omega
def modOf (a b : Int) : Int := if inr b 1 1000000000000 = true then (if Int.tmod a b < 0 then Int.tmod a b + b else Int.tmod a b) else 0
theorem iMod (a b : Int) : impl_Mod.f a b = some (modOf a b) := by
  unfold impl_Mod.f modOf
  simp only [inRange_eq, Option.bind_some]
  by_cases h : inr b 1 1000000000000 = true
  · rw [if_pos h, if_pos h]
    rw [inr_iff] at h
    have hr := tmod_range a b (by omega)
    rw [if_neg (by omega)]
    by_cases n : Int.tmod a b < 0
    · rw [if_pos n, if_pos n]
      congr 1
      unfold wrap64
      omega
    · rw [if_neg n, if_neg n]
  · rw [if_neg h, if_neg h]
theorem sMod (a b : Int) : spec_Mod.f a b = some (modOf a b) := by
  unfold spec_Mod.f modOf
  simp only [l1In_eq, Option.bind_some]
  by_cases h : inr b 1 1000000000000 = true
  · rw [if_pos h, if_pos h]
    rw [inr_iff] at h
    have hr := tmod_range a b (by omega)
    rw [if_neg (by omega)]
    congr 1
    rw [show wrap64 (Int.tmod a b + b) = Int.tmod a b + b by unfold wrap64; omega]
    by_cases n : Int.tmod a b < 0
    · rw [if_pos n, Int.tmod_eq_emod_of_nonneg (by omega), Int.emod_eq_of_lt (by omega) (by omega)]
    · rw [if_neg n, Int.tmod_eq_emod_of_nonneg (by omega), Int.add_emod_right, Int.emod_eq_of_lt (by omega) (by omega)]
  · rw [if_neg h, if_neg h]
theorem main : laws_FnExactMod.Pure := by
  intro a b _ _
  unfold laws_FnExactMod.f
  simp only [Option.bind_some, sMod, iMod]
  simp

end Go.Proofs.Ytkgdofogalfhjab.PureFnExactMod
namespace Go.Proofs.Ytkgdofogalfhjab.Pure
/-- The pure statement. -/
theorem FnExactMod : Go.Proofs.Ytkgdofogalfhjab.PFnExactMod.laws_FnExactMod.Pure := Go.Proofs.Ytkgdofogalfhjab.PureFnExactMod.main
end Go.Proofs.Ytkgdofogalfhjab.Pure
