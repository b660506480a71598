/- What is proved here: contracts of JsonOk and JsonSize, and of the reference's test of a value's names. Conditions: none. -/
import Derived.Test.YtkgefjjgjjmklaaDoorXGb
namespace Go.Proofs.YtkgefjjgjjmklaaDoor.X
open Go.RowKit Go.Sort
set_option linter.unusedVariables false
set_option linter.unusedSimpArgs false
open Ty
def jsonOk (x : J) : Bool := decide (sizeN 6 x ≤ 400)
def jsonSize (x : J) : Int := if sizeN 6 x ≤ 400 then sizeN 6 x else 0
def namesOkB (x : J) : Bool := if x.kind == 5 then namesB x.names && ((x.names.length : Int) == x.list.length) else ((x.names.length : Int) == 0)
end Go.Proofs.YtkgefjjgjjmklaaDoor.X
