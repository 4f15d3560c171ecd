/- The numbers that the printed law FnExactConstants computes are such that it answers true, for all arguments; no conditions. -/
import Derived.Test.YtncpcbkkdnmcdaaPFnExactConstantsx1
namespace Go.Proofs.Ytncpcbkkdnmcdaa.PureFnExactConstants
open Go.RowKit Go.Proofs.Ytncpcbkkdnmcdaa.PFnExactConstants Go.Proofs.YtncpcbkkdnmcdaaW.PrintWords Go.Proofs.YtncpcbkkdnmcdaaW.PrintLast Go.Proofs.YtncpcbkkdnmcdaaW.PrintMore
set_option linter.unusedVariables false
set_option linter.unusedSimpArgs false

theorem main : laws_FnExactConstants.Pure := rfl

end Go.Proofs.Ytncpcbkkdnmcdaa.PureFnExactConstants
namespace Go.Proofs.Ytncpcbkkdnmcdaa.Pure
/-- The pure statement. -/
theorem FnExactConstants : Go.Proofs.Ytncpcbkkdnmcdaa.PFnExactConstants.laws_FnExactConstants.Pure := Go.Proofs.Ytncpcbkkdnmcdaa.PureFnExactConstants.main
end Go.Proofs.Ytncpcbkkdnmcdaa.Pure
