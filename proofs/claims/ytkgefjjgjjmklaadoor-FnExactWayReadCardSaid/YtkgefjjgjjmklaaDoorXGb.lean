/- What is proved here: contracts of a value's size. Conditions: none. -/
import Derived.Test.YtkgefjjgjjmklaaDoorXGa
namespace Go.Proofs.YtkgefjjgjjmklaaDoor.X
open Go.RowKit Go.Sort
set_option linter.unusedVariables false
set_option linter.unusedSimpArgs false
open Ty
def sumZ {α : Type} (f : α → Int) : List α → Int
  | [] => 0
  | x :: l => f x + sumZ f l
theorem sumZ_append {α : Type} (f : α → Int) (l m : List α) : sumZ f (l ++ m) = sumZ f l + sumZ f m := by
  induction l with
  | nil => simp [sumZ]
  | cons x l ih => simp only [List.cons_append, sumZ, ih]; omega
theorem sumZ_take {α : Type} (f : α → Int) (l : List α) (k : Nat) (hk : k < l.length) : sumZ f (l.take (k + 1)) = sumZ f (l.take k) + f l[k] := by
  rw [List.take_succ_eq_append_getElem hk, sumZ_append]; simp [sumZ]
theorem sumZ_pos {α : Type} (f : α → Int) (h : ∀ x, 0 ≤ f x) : ∀ l : List α, 0 ≤ sumZ f l
  | [] => Int.le_refl 0
  | x :: l => by have := h x; have := sumZ_pos f h l; simp only [sumZ]; omega
theorem sumZ_le {α : Type} (f : α → Int) (h : ∀ x, 0 ≤ f x) (l : List α) (k : Nat) : sumZ f (l.take k) ≤ sumZ f l := by
  have h1 := sumZ_append f (l.take k) (l.drop k)
  have h2 := sumZ_pos f h (l.drop k)
  rw [List.take_append_drop] at h1
  omega
/-- A value's size, at most so deep; 401 where it is not right. -/
def sizeN : Nat → J → Int
  | 0, _ => 401
  | d + 1, j => if ownB j = true ∧ 1 + sumZ (sizeN d) j.list ≤ 400 then 1 + sumZ (sizeN d) j.list else 401
theorem sizeN_bound : ∀ (d : Nat) (j : J), 1 ≤ sizeN d j ∧ sizeN d j ≤ 401
  | 0, j => by simp [sizeN]
  | d + 1, j => by
    have := sumZ_pos (sizeN d) (fun x => by have := (sizeN_bound d x).1; omega) j.list
    unfold sizeN
    split <;> omega
theorem sizeN_pos (d : Nat) (x : J) : 0 ≤ sizeN d x := by have := (sizeN_bound d x).1; omega
end Go.Proofs.YtkgefjjgjjmklaaDoor.X
