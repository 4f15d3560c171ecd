/- The printed law FnExactIsSpan, as a function of numbers and lists, answers true for all arguments that a call can be given; no conditions beyond the sizes that memory allows. -/
import Derived.Test.YtkgdofogalfhjaaPFnExactIsSpanx1
namespace Go.Proofs.Ytkgdofogalfhjaa.PureFnExactIsSpan
open Go.RowKit Go.Proofs.Ytkgdofogalfhjaa.PFnExactIsSpan Go.Proofs.YtkgdofogalfhjaaW.PrintWords Go.Proofs.YtkgdofogalfhjaaW.PrintLast Go.Proofs.YtkgdofogalfhjaaW.PrintMore
set_option linter.unusedVariables false
set_option linter.unusedSimpArgs false

/-- The pure statement of laws_FnExactIsSpan, typed by lawfill.py as print.sh types it where it does. -/
def laws_FnExactIsSpan.Pure : Prop := ∀ (a0_0 a0_1 : Int), (Lit.int .i64 a0_0).wf = true → (Lit.int .i64 a0_1).wf = true → laws_FnExactIsSpan.f a0_0 a0_1 = some true

theorem range (a b c : Int) : impl_InRange.f a b c = spec_l1In.f a b c := by
  unfold impl_InRange.f spec_l1In.f
  rfl
theorem l1In (a b c : Int) : spec_l1In.f a b c = some (decide (b ≤ a) && decide (a ≤ c)) := by
  unfold spec_l1In.f
  by_cases h : b ≤ a <;> simp [h]
theorem same (a b : Int) : impl_IsSpan.f a b = spec_IsSpan.f a b := by
  unfold impl_IsSpan.f spec_IsSpan.f
  simp only [range]
theorem tells (a b : Int) : ∃ r, spec_IsSpan.f a b = some r := by
  unfold spec_IsSpan.f
  simp only [l1In, Option.bind_some]
  split
  · split <;> exact ⟨_, rfl⟩
  · exact ⟨_, rfl⟩
theorem main : laws_FnExactIsSpan.Pure := by
  intro a b _ _
  unfold laws_FnExactIsSpan.f laws_toSpan.f
  simp only [Option.bind_some, same]
  obtain ⟨r, hr⟩ := tells a b
  simp [hr]

end Go.Proofs.Ytkgdofogalfhjaa.PureFnExactIsSpan
namespace Go.Proofs.Ytkgdofogalfhjaa.Pure
/-- The pure statement. -/
theorem FnExactIsSpan : Go.Proofs.Ytkgdofogalfhjaa.PureFnExactIsSpan.laws_FnExactIsSpan.Pure := Go.Proofs.Ytkgdofogalfhjaa.PureFnExactIsSpan.main
end Go.Proofs.Ytkgdofogalfhjaa.Pure
