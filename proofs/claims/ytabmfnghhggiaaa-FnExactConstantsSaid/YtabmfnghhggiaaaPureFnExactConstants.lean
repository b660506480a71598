/- Proved: laws.FnExactConstants answers true (it takes no arguments). Conditions: none. -/
import Derived.Test.YtabmfnghhggiaaaPFnExactConstantsx1
namespace Go.Proofs.Ytabmfnghhggiaaa.Pure
open Go.RowKit Go.Proofs.Ytabmfnghhggiaaa.PFnExactConstants Go.Proofs.YtabmfnghhggiaaaW.PrintWords Go.Proofs.YtabmfnghhggiaaaW.PrintLast

theorem FnExactConstants : laws_FnExactConstants.Pure := by
  rfl

end Go.Proofs.Ytabmfnghhggiaaa.Pure
