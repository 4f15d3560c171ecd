/- The numbers that the printed law FnExactIsValidKey computes are such that it answers true, for all arguments; no conditions. -/
import Derived.Test.YtncpcbkkdnmcdaaPFnExactIsValidKeyx1
namespace Go.Proofs.Ytncpcbkkdnmcdaa.PureFnExactIsValidKey
open Go.RowKit Go.Proofs.Ytncpcbkkdnmcdaa.PFnExactIsValidKey Go.Proofs.YtncpcbkkdnmcdaaW.PrintWords Go.Proofs.YtncpcbkkdnmcdaaW.PrintLast Go.Proofs.YtncpcbkkdnmcdaaW.PrintMore
set_option linter.unusedVariables false
set_option linter.unusedSimpArgs false

theorem main : laws_FnExactIsValidKey.Pure := by
  intro a _
  unfold laws_FnExactIsValidKey.f spec_IsValidKey.f impl_IsValidKey.f spec_l1In.f impl_InRange.f
  by_cases h1 : 1 ≤ a
  · simp [h1]
  · simp [h1]

end Go.Proofs.Ytncpcbkkdnmcdaa.PureFnExactIsValidKey
namespace Go.Proofs.Ytncpcbkkdnmcdaa.Pure
/-- The pure statement. -/
theorem FnExactIsValidKey : Go.Proofs.Ytncpcbkkdnmcdaa.PFnExactIsValidKey.laws_FnExactIsValidKey.Pure := Go.Proofs.Ytncpcbkkdnmcdaa.PureFnExactIsValidKey.main
end Go.Proofs.Ytncpcbkkdnmcdaa.Pure
