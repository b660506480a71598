/- What is proved here: contracts of RowAt and of the index of a row. Conditions: none. -/
import Derived.Test.YtlkjpnlpankhpaaXF
namespace Go.Proofs.Ytlkjpnlpankhpaa.X
open Go.RowKit Go.Sort
set_option linter.unusedVariables false
set_option linter.unusedSimpArgs false
open Ty
/-- The first place of which p holds; -1 where there is none. -/
def idxF {α : Type} (p : α → Bool) (l : List α) : Int := if l.findIdx p < l.length then (l.findIdx p : Int) else -1
theorem idxF_found {α : Type} (p : α → Bool) (l : List α) (k : Nat) (hk : k < l.length) (h : (l.take k).all (fun x => !p x) = true) (hp : p l[k] = true) : idxF p l = k := by
  have : l.findIdx p = k := by
    rw [List.findIdx_eq hk]
    refine ⟨hp, fun j hj => ?_⟩
    rw [List.all_eq_true] at h
    have := h l[j] (by rw [List.mem_take_iff_getElem]; exact ⟨j, by omega, rfl⟩)
    simpa using this
  unfold idxF
  rw [this, if_pos hk]
theorem idxF_none {α : Type} (p : α → Bool) (l : List α) (h : l.all (fun x => !p x) = true) : idxF p l = -1 := by
  have : l.findIdx p = l.length := by
    rw [List.findIdx_eq_length]
    intro x hx
    rw [List.all_eq_true] at h
    simpa using h x hx
  unfold idxF
  rw [if_neg (by omega)]
def rowAt (l : List Row) (n : Int) : Int := idxF (fun r => r.id == n) l
end Go.Proofs.Ytlkjpnlpankhpaa.X
