/- What is proved here: contracts of the laws' own functions over rows, stores, changes. Conditions: none. -/
import Derived.Test.YtlkjpnlpankhpaaXA
import Derived.Test.YtlkjpnlpankhpaaX1
import Derived.Test.YtlkjpnlpankhpaaXD
namespace Go.Proofs.Ytlkjpnlpankhpaa.X
open Go.RowKit Go.Sort
set_option linter.unusedVariables false
set_option linter.unusedSimpArgs false
open Ty
def bulkL {α : Type} (b : α → Nat) : List α → Nat
  | [] => 0
  | x :: l => b x + bulkL b l
theorem bulkL_append {α : Type} (b : α → Nat) (l m : List α) : bulkL b (l ++ m) = bulkL b l + bulkL b m := by
  induction l with
  | nil => simp [bulkL]
  | cons x l ih => simp only [List.cons_append, bulkL, ih]; omega
theorem bulkL_take {α : Type} (b : α → Nat) (l : List α) (k : Nat) (hk : k < l.length) : bulkL b (l.take (k + 1)) = bulkL b (l.take k) + b l[k] := by
  rw [List.take_succ_eq_append_getElem hk, bulkL_append]
  simp [bulkL]
theorem bulkL_take_le {α : Type} (b : α → Nat) (l : List α) (k : Nat) : bulkL b (l.take k) ≤ bulkL b l := by
  have := bulkL_append b (l.take k) (l.drop k)
  rw [List.take_append_drop] at this
  omega
theorem bulkL_mem {α : Type} (b : α → Nat) {l : List α} {x : α} (h : x ∈ l) : b x ≤ bulkL b l := by
  induction l with
  | nil => cases h
  | cons y l ih =>
    simp only [bulkL]
    rcases List.mem_cons.1 h with rfl | h
    · omega
    · have := ih h; omega
theorem szR_sub {left : Int} {a b : Nat} (h : 0 ≤ left - (a : Int)) : szR (left - (a : Int)) b = szR left (a + b) := by
  unfold szR
  split <;> split <;> omega
def bulkRow (r : Row) : Nat := r.cells.length
def bulkRowS (l : List Row) : Nat := l.length + bulkL bulkRow l
def bulkRowSS (l : List (List Row)) : Nat := l.length + bulkL bulkRowS l
def bulkMut (m : Mut) : Nat := bulkRow m.row
def bulkMutS (l : List Mut) : Nat := l.length + bulkL bulkMut l
def bulkChange (c : Change) : Nat := bulkRow c.old + bulkRow c.new
def bulkStore (s : Store) : Nat := s.cols.length + bulkRowSS s.tabs
theorem bodyPost_retW {P : Program} {fn : Func} {R : Ending → World → Prop} {a : Act} {w : World} {v : Value}
    (hr : (results fn a.tmps).run P w = .ok v w) (hd : a.defers = []) (hR : ∀ W, W = w → R (.returned v) W) : bodyPost P fn R .ret a w := bodyPost_ret hr hd (hR w rfl)
end Go.Proofs.Ytlkjpnlpankhpaa.X
