/- The numbers that the printed law FnExactMin computes are such that it answers true, for all arguments; no conditions. -/
import Derived.Test.YtncpcbkkdnmcdaaPFnExactMinx1
namespace Go.Proofs.Ytncpcbkkdnmcdaa.PureFnExactMin
open Go.RowKit Go.Proofs.Ytncpcbkkdnmcdaa.PFnExactMin Go.Proofs.YtncpcbkkdnmcdaaW.PrintWords Go.Proofs.YtncpcbkkdnmcdaaW.PrintLast Go.Proofs.YtncpcbkkdnmcdaaW.PrintMore
set_option linter.unusedVariables false
set_option linter.unusedSimpArgs false

theorem main : laws_FnExactMin.Pure := by
  intro a b _ _
  unfold laws_FnExactMin.f spec_Min.f impl_Min.f mn
  by_cases h1 : b < a
  · simp [h1]
  · simp [h1]

end Go.Proofs.Ytncpcbkkdnmcdaa.PureFnExactMin
namespace Go.Proofs.Ytncpcbkkdnmcdaa.Pure
/-- The pure statement. -/
theorem FnExactMin : Go.Proofs.Ytncpcbkkdnmcdaa.PFnExactMin.laws_FnExactMin.Pure := Go.Proofs.Ytncpcbkkdnmcdaa.PureFnExactMin.main
end Go.Proofs.Ytncpcbkkdnmcdaa.Pure
