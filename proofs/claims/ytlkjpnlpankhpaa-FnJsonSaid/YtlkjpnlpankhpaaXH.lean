/- What is proved here: contracts of RowPut. Conditions: none. -/
import Derived.Test.YtlkjpnlpankhpaaXI
import Derived.Test.YtlkjpnlpankhpaaXY
namespace Go.Proofs.Ytlkjpnlpankhpaa.X
open Go.RowKit Go.Sort
set_option linter.unusedVariables false
set_option linter.unusedSimpArgs false
open Ty
/-- A row put among rows: in the place of the one of its Id, else ahead of the first of a greater one. -/
def rowPut (l : List Row) (r : Row) : List Row :=
  if l.findIdx (fun x => x.id == r.id) < l.length then l.set (l.findIdx (fun x => x.id == r.id)) r
  else l.take (l.findIdx (fun x => decide (r.id < x.id))) ++ r :: l.drop (l.findIdx (fun x => decide (r.id < x.id)))
end Go.Proofs.Ytlkjpnlpankhpaa.X
