/- What is proved here: what the laws' marks make of lists of numbers and rows. Conditions: none. -/
import Derived.Test.YtlkjpnlpankhpaaXB
namespace Go.Proofs.Ytlkjpnlpankhpaa.X
open Go.RowKit Go.Sort
set_option linter.unusedVariables false
set_option linter.unusedSimpArgs false
open Ty
/-- Each element marked; cn: how many marks one takes. -/
def markL {α : Type} (mk : Int → α → α) (cn : α → Nat) : Int → List α → List α
  | _, [] => []
  | k, x :: l => mk k x :: markL mk cn (k + cn x) l
section
variable {α : Type} {mk : Int → α → α} {cn : α → Nat}
theorem markL_length : ∀ (l : List α) (k : Int), (markL mk cn k l).length = l.length
  | [], _ => rfl
  | x :: l, k => by simp [markL, markL_length l]
theorem markL_append : ∀ (l m : List α) (k : Int), markL mk cn k (l ++ m) = markL mk cn k l ++ markL mk cn (k + bulkL cn l) m
  | [], m, k => by simp [markL, bulkL]
  | x :: l, m, k => by
    simp only [List.cons_append, markL, bulkL, markL_append l m]
    rw [show k + (cn x : Int) + (bulkL cn l : Int) = k + ((cn x + bulkL cn l : Nat) : Int) by omega]
theorem markL_at (l : List α) (k : Int) (i : Nat) (hi : i < l.length) : (markL mk cn k l)[i]'(by rw [markL_length]; exact hi) = mk (k + bulkL cn (l.take i)) l[i] := by
  have h : l = l.take i ++ (l[i] :: l.drop (i + 1)) := by rw [List.getElem_cons_drop, List.take_append_drop]
  have e : markL mk cn k l = markL mk cn k (l.take i) ++ (mk (k + bulkL cn (l.take i)) l[i] :: markL mk cn (k + bulkL cn (l.take i) + cn l[i]) (l.drop (i + 1))) := by
    conv => lhs; rw [h]
    rw [markL_append]; rfl
  have hl : (markL mk cn k (l.take i)).length = i := by rw [markL_length]; simp; omega
  simp only [e]
  rw [List.getElem_append_right (by omega)]
  simp [hl]
/-- Marked up to i. -/
def midL (mk : Int → α → α) (cn : α → Nat) (k : Int) (l : List α) (i : Nat) : List α := markL mk cn k (l.take i) ++ l.drop i
theorem midL_length (l : List α) (k : Int) (i : Nat) : (midL mk cn k l i).length = l.length := by
  simp [midL, markL_length]; omega
theorem midL_at (l : List α) (k : Int) (i : Nat) (hi : i < l.length) : (midL mk cn k l i)[i]? = some l[i] := by
  have hl : (markL mk cn k (l.take i)).length = i := by rw [markL_length]; simp; omega
  rw [midL, List.getElem?_append_right (by omega), hl]
  simp [hi]
theorem midL_step (l : List α) (k : Int) (i : Nat) (hi : i < l.length) : (midL mk cn k l i).set i (mk (k + bulkL cn (l.take i)) l[i]) = midL mk cn k l (i + 1) := by
  have hl : (markL mk cn k (l.take i)).length = i := by rw [markL_length]; simp; omega
  rw [midL, List.set_append_right _ _ (by omega), hl, Nat.sub_self, midL, List.take_succ_eq_append_getElem hi, markL_append, List.append_assoc, ← List.getElem_cons_drop hi, List.set_cons_zero]
  rfl
theorem midL_end (l : List α) (k : Int) : midL mk cn k l l.length = markL mk cn k l := by simp [midL]
theorem midL_zero (l : List α) (k : Int) : midL mk cn k l 0 = l := by simp [midL, markL]
end
def mkInt (k : Int) (_ : Int) : Int := k
def one {α : Type} (_ : α) : Nat := 1
theorem bulk_one {α : Type} (l : List α) : bulkL one l = l.length := by
  induction l with
  | nil => rfl
  | cons x l ih => simp only [bulkL, ih, one, List.length_cons]; omega
end Go.Proofs.Ytlkjpnlpankhpaa.X
