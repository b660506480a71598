/- What is proved here: contracts of RowOk. Conditions: none. -/
import Derived.Test.YtlkjpnlpankhpaaXF
namespace Go.Proofs.Ytlkjpnlpankhpaa.X
open Go.RowKit Go.Sort
set_option linter.unusedVariables false
set_option linter.unusedSimpArgs false
open Ty
def hasTab (cols : List Int) (t : Int) : Bool := inB t 0 (cols.length - 1)
def isNumB (n : Int) : Bool := inB n (-1000000000) 1000000000
def rowOk (cols : List Int) (t : Int) (r : Row) : Bool := r.cells.all isNumB && (schemaOk cols && (hasTab cols t && ((r.cells.length : Int) == cols.getD t.toNat 0 && inB r.id 1 999)))
theorem hasTab_at {cols : List Int} {t : Int} (h : hasTab cols t = true) : ∃ k : Nat, t = k ∧ k < cols.length := by
  obtain ⟨h1, h2⟩ := inB_iff.1 h
  exact ⟨t.toNat, by omega, by omega⟩
theorem rowOk_at {cols : List Int} {k : Nat} (hk : k < cols.length) (r : Row) : rowOk cols k r = (r.cells.all isNumB && (schemaOk cols && (hasTab cols k && ((r.cells.length : Int) == cols[k] && inB r.id 1 999)))) := by
  unfold rowOk
  rw [Int.toNat_natCast, List.getD_eq_getElem?_getD, List.getElem?_eq_getElem hk]; rfl
end Go.Proofs.Ytlkjpnlpankhpaa.X
