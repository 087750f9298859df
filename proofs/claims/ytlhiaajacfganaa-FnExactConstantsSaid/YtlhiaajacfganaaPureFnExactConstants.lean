/-
  The pure law of the constants: each has the value given. No condition.
-/
import Derived.Test.YtlhiaajacfganaaPFnExactConstantsx1
namespace Go.Proofs.Ytlhiaajacfganaa.Pure
open Go.RowKit Go.Proofs.Ytlhiaajacfganaa.PFnExactConstants Go.Proofs.YtlhiaajacfganaaW.PrintWords Go.Proofs.YtlhiaajacfganaaW.PrintLast

theorem FnExactConstants : laws_FnExactConstants.Pure := rfl

end Go.Proofs.Ytlhiaajacfganaa.Pure
