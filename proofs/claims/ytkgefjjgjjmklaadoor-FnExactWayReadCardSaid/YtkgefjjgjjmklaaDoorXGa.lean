/- What is proved here: contracts of the test of a value's own fields. Conditions: none. -/
import Derived.Test.YtkgefjjgjjmklaaDoorXG

namespace Go.Proofs.YtkgefjjgjjmklaaDoor.X
open Go.RowKit Go.Sort
set_option linter.unusedVariables false
set_option linter.unusedSimpArgs false
open Ty
def ownB (j : J) : Bool :=
  if 0 < j.list.length && (j.kind != 4 && j.kind != 5) then false
  else if 0 < j.names.length && j.kind != 5 then false
  else if j.n != 0 && (j.kind != 1 && j.kind != 2) then false
  else if (!(j.s.toList == [])) && j.kind != 3 then false
  else if j.kind == 1 then inB j.n 0 1
  else if j.kind == 2 then isNumB j.n
  else if j.kind == 3 then textB j.s
  else if j.kind == 5 then ((j.names.length : Int) == j.list.length) && namesB j.names
  else j.kind == 0 || j.kind == 4
end Go.Proofs.YtkgefjjgjjmklaaDoor.X
