/- What is proved here: contracts of copies of rows and of RowDrop. Conditions: none. -/
import Derived.Test.YtlkjpnlpankhpaaXP
import Derived.Test.YtlkjpnlpankhpaaXR
import Derived.Test.YtlkjpnlpankhpaaXS
import Derived.Test.YtlkjpnlpankhpaaXU
import Derived.Test.YtlkjpnlpankhpaaXFa
namespace Go.Proofs.Ytlkjpnlpankhpaa.X
open Go.RowKit Go.Sort
set_option linter.unusedVariables false
set_option linter.unusedSimpArgs false
open Ty
/-- The rows but the one of an Id. -/
def rowDrop (l : List Row) (n : Int) : List Row := l.eraseIdx (l.findIdx (fun r => r.id == n))
theorem erase_step {α : Type} (l : List α) (k i : Nat) (hi : i < l.length) : (l.take (i + 1)).eraseIdx k = if i = k then (l.take i).eraseIdx k else (l.take i).eraseIdx k ++ [l[i]] := by
  have hl : (l.take i).length = i := by simp; omega
  rw [List.take_succ_eq_append_getElem hi]
  rcases Nat.lt_trichotomy k i with h | h | h
  · rw [if_neg (by omega), List.eraseIdx_append_of_lt_length (by omega)]
  · subst h
    rw [if_pos rfl, List.eraseIdx_append_of_length_le (by omega), hl, Nat.sub_self, List.eraseIdx_of_length_le (l := l.take k) (by omega)]
    simp
  · rw [if_neg (by omega), List.eraseIdx_append_of_length_le (by omega), hl, List.eraseIdx_of_length_le (l := [l[i]]) (by simp; omega), List.eraseIdx_of_length_le (l := l.take i) (by omega)]
theorem idxF_ne {α : Type} (p : α → Bool) (l : List α) (i : Nat) (hi : i < l.length) : ((i : Int) != idxF p l) = !decide (i = l.findIdx p) := by
  unfold idxF
  by_cases h : i = l.findIdx p
  · rw [if_pos (by omega), ← h]; simp
  · have e : decide (i = l.findIdx p) = false := by simp [h]
    rw [e]
    split
    · simp; omega
    · simp
theorem bulkL_erase {α : Type} (b : α → Nat) (l : List α) (k : Nat) : bulkL b (l.eraseIdx k) ≤ bulkL b l := by
  rw [List.eraseIdx_eq_take_drop_succ, bulkL_append]
  have h1 := bulkL_append b (l.take (k + 1)) (l.drop (k + 1))
  rw [List.take_append_drop] at h1
  rcases Nat.lt_or_ge k l.length with h | h
  · rw [bulkL_take b l k h] at h1; omega
  · rw [List.take_of_length_le (Nat.le_succ_of_le h)] at h1
    rw [List.take_of_length_le h]; omega
theorem bulk_rowDrop (l : List Row) (n : Int) : bulkRowS (rowDrop l n) ≤ bulkRowS l := by
  have h1 := bulkL_erase bulkRow l (l.findIdx (fun r => r.id == n))
  have h2 := List.length_eraseIdx_le l (l.findIdx (fun r => r.id == n))
  unfold rowDrop bulkRowS
  omega
end Go.Proofs.Ytlkjpnlpankhpaa.X
