/- The numbers that the printed law FnExactMax computes are such that it answers true, for all arguments; no conditions. -/
import Derived.Test.YtncpcbkkdnmcdaaPFnExactMaxx1
namespace Go.Proofs.Ytncpcbkkdnmcdaa.PureFnExactMax
open Go.RowKit Go.Proofs.Ytncpcbkkdnmcdaa.PFnExactMax Go.Proofs.YtncpcbkkdnmcdaaW.PrintWords Go.Proofs.YtncpcbkkdnmcdaaW.PrintLast Go.Proofs.YtncpcbkkdnmcdaaW.PrintMore
set_option linter.unusedVariables false
set_option linter.unusedSimpArgs false

theorem main : laws_FnExactMax.Pure := by
  intro a b _ _
  unfold laws_FnExactMax.f spec_Max.f impl_Max.f mx
  by_cases h1 : a < b
  · simp [h1]
  · simp [h1]

end Go.Proofs.Ytncpcbkkdnmcdaa.PureFnExactMax
namespace Go.Proofs.Ytncpcbkkdnmcdaa.Pure
/-- The pure statement. -/
theorem FnExactMax : Go.Proofs.Ytncpcbkkdnmcdaa.PFnExactMax.laws_FnExactMax.Pure := Go.Proofs.Ytncpcbkkdnmcdaa.PureFnExactMax.main
end Go.Proofs.Ytncpcbkkdnmcdaa.Pure
