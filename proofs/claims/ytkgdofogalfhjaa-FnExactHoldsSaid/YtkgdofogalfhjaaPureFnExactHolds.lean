/- The printed law FnExactHolds, as a function of numbers and lists, answers true for all arguments that a call can be given; no conditions beyond the sizes that memory allows. -/
import Derived.Test.YtkgdofogalfhjaaPFnExactHoldsx1
namespace Go.Proofs.Ytkgdofogalfhjaa.PureFnExactHolds
open Go.RowKit Go.Proofs.Ytkgdofogalfhjaa.PFnExactHolds Go.Proofs.YtkgdofogalfhjaaW.PrintWords Go.Proofs.YtkgdofogalfhjaaW.PrintLast Go.Proofs.YtkgdofogalfhjaaW.PrintMore
set_option linter.unusedVariables false
set_option linter.unusedSimpArgs false

/-- The pure statement of laws_FnExactHolds, typed by lawfill.py as print.sh types it where it does. -/
def laws_FnExactHolds.Pure : Prop := ∀ (a0_0 a0_1 : Int) (a1 : Int), (Lit.int .i64 a0_0).wf = true → (Lit.int .i64 a0_1).wf = true → (Lit.int .i64 a1).wf = true → laws_FnExactHolds.f a0_0 a0_1 a1 = some true

def inr (a b c : Int) : Bool := decide (b ≤ a) && decide (a ≤ c)
theorem inr_iff (a b c : Int) : inr a b c = true ↔ b ≤ a ∧ a ≤ c := by unfold inr; simp
theorem l1In_eq (a b c : Int) : spec_l1In.f a b c = some (inr a b c) := by
  unfold spec_l1In.f inr
  by_cases h : b ≤ a <;> simp [h]
theorem inRange_eq (a b c : Int) : impl_InRange.f a b c = some (inr a b c) := by
  unfold impl_InRange.f inr
  by_cases h : b ≤ a <;> simp [h]
def okSpan (a b : Int) : Bool := inr a 0 100000 && inr b 0 100000 && decide (a ≤ b)
theorem sIsSpan (a b : Int) : spec_IsSpan.f a b = some (okSpan a b) := by
  unfold spec_IsSpan.f okSpan
  simp only [l1In_eq, Option.bind_some]
  cases inr a 0 100000 <;> cases inr b 0 100000 <;> simp
theorem iIsSpan (a b : Int) : impl_IsSpan.f a b = some (okSpan a b) := by
  unfold impl_IsSpan.f okSpan
  simp only [inRange_eq, Option.bind_some]
  cases inr a 0 100000 <;> cases inr b 0 100000 <;> simp
theorem main : laws_FnExactHolds.Pure := by
  intro a b h _ _ _
  unfold laws_FnExactHolds.f laws_toSpan.f spec_Holds.f impl_Holds.f
  simp only [Option.bind_some, sIsSpan, iIsSpan, l1In_eq, inRange_eq]
  cases okSpan a b <;> simp

end Go.Proofs.Ytkgdofogalfhjaa.PureFnExactHolds
namespace Go.Proofs.Ytkgdofogalfhjaa.Pure
/-- The pure statement. -/
theorem FnExactHolds : Go.Proofs.Ytkgdofogalfhjaa.PureFnExactHolds.laws_FnExactHolds.Pure := Go.Proofs.Ytkgdofogalfhjaa.PureFnExactHolds.main
end Go.Proofs.Ytkgdofogalfhjaa.Pure
