/- FnExactConstants: the law's function answers true. No conditions. -/
import Derived.Test.YtlioeidipcdkcaaPFnExactConstantsx1
namespace Go.Proofs.Ytlioeidipcdkcaa.Pure
open Go.RowKit Go.Proofs.Ytlioeidipcdkcaa.PFnExactConstants Go.Proofs.YtlioeidipcdkcaaW.PrintWords Go.Proofs.YtlioeidipcdkcaaW.PrintLast

theorem FnExactConstants : laws_FnExactConstants.Pure := by
  unfold laws_FnExactConstants.Pure
  rfl

end Go.Proofs.Ytlioeidipcdkcaa.Pure
