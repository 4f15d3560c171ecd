/- The numbers that the printed law FnExactInRange computes are such that it answers true, for all arguments; no conditions. -/
import Derived.Test.YtncpcbkkdnmcdaaPFnExactInRangex1
namespace Go.Proofs.Ytncpcbkkdnmcdaa.PureFnExactInRange
open Go.RowKit Go.Proofs.Ytncpcbkkdnmcdaa.PFnExactInRange Go.Proofs.YtncpcbkkdnmcdaaW.PrintWords Go.Proofs.YtncpcbkkdnmcdaaW.PrintLast Go.Proofs.YtncpcbkkdnmcdaaW.PrintMore
set_option linter.unusedVariables false
set_option linter.unusedSimpArgs false

theorem main : laws_FnExactInRange.Pure := by
  intro a b c _ _ _
  unfold laws_FnExactInRange.f spec_InRange.f impl_InRange.f
  by_cases h1 : b ≤ a
  · simp [h1]
  · simp [h1]

end Go.Proofs.Ytncpcbkkdnmcdaa.PureFnExactInRange
namespace Go.Proofs.Ytncpcbkkdnmcdaa.Pure
/-- The pure statement. -/
theorem FnExactInRange : Go.Proofs.Ytncpcbkkdnmcdaa.PFnExactInRange.laws_FnExactInRange.Pure := Go.Proofs.Ytncpcbkkdnmcdaa.PureFnExactInRange.main
end Go.Proofs.Ytncpcbkkdnmcdaa.Pure
