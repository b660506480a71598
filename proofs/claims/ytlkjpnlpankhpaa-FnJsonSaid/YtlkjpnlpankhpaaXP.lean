/- What is proved here: ranges of blocks, and how many marks a value takes. Conditions: none. -/
import Derived.Test.YtlkjpnlpankhpaaXO
namespace Go.Proofs.Ytlkjpnlpankhpaa.X
open Go.RowKit Go.Sort
set_option linter.unusedVariables false
set_option linter.unusedSimpArgs false
open Ty
/-- The blocks from a on, short of b. -/
def rng (a b : Nat) : Nat → Prop := fun k => a ≤ k ∧ k < b
theorem rng_off {a b a' b' n : Nat} (h : b ≤ a' ∨ b' ≤ a) : ∀ k, rng a b k → k < n → ¬ rng a' b' k := fun k h1 _ h2 => by
  have := h1.1; have := h1.2; have := h2.1; have := h2.2
  omega
theorem rng_not {a a' b' : Nat} (h : a + 1 ≤ a' ∨ b' ≤ a) : ¬ rng a' b' a := fun h2 => by
  have := h2.1; have := h2.2
  omega
theorem below_rng {w w1 w2 : World} {a b : Nat} (h : Below w.heap.size w w1) (hf : Fr w1 w2 (rng a b)) (ha : w.heap.size ≤ a) : Below w.heap.size w w2 :=
  ((Fr.of_below h (rng a b)).trans hf).below (fun k hk => Nat.le_trans ha hk.1)
theorem R_Cv {α : Type} {d : Ty α} {e : TypeId} {w : World} {S : Nat → Prop} {A : Option Addr} {n c : Nat} {xs : List α} (h : d.R e w S (.slice A n c) xs) : d.C w A xs := by
  obtain ⟨A', c', he, _, hC⟩ := R_C h
  injection he with h1 h2 h3
  subst h1
  exact hC
theorem cnt_RowL (l : List Row) : bulkL cnRow l = bulkRowS l := by
  induction l with
  | nil => rfl
  | cons x l ih => simp only [bulkL, ih, cnRow, bulkRowS, bulkRow, List.length_cons]; omega
theorem cnt_Rows (l : List Row) : (bulkL cnRow l : Int) ≤ 4 * (bulkRowS l : Nat) := by rw [cnt_RowL]; omega
theorem cnt_RowsL (l : List (List Row)) : bulkL cnRows l ≤ bulkRowSS l := by
  induction l with
  | nil => exact Nat.zero_le _
  | cons x l ih =>
    have := cnt_RowL x
    simp only [bulkL, cnRows, bulkRowSS, List.length_cons] at ih ⊢; omega
theorem cnt_Schema (l : List Int) : (l.length : Int) ≤ 4 * (l.length : Nat) := by omega
theorem cnt_Row (r : Row) : (r.cells.length : Int) ≤ 4 * (bulkRow r : Nat) := by simp only [bulkRow]; omega
theorem cnt_Store (s : Store) : (s.cols.length : Int) + (bulkL cnRows s.tabs : Int) ≤ 4 * (bulkStore s : Nat) := by
  have := cnt_RowsL s.tabs
  simp only [bulkStore]; omega
theorem cnt_Change (s : Change) : (s.old.cells.length : Int) + (s.new.cells.length : Int) ≤ 4 * (bulkChange s : Nat) := by
  simp only [bulkChange, bulkRow]; omega
theorem bulkL_le3 {α : Type} (b c : α → Nat) (n : Nat) (h : ∀ x, b x ≤ n + n * c x) (l : List α) : bulkL b l ≤ n * (l.length + bulkL c l) := by
  induction l with
  | nil => exact Nat.zero_le _
  | cons x l ih =>
    have := h x
    simp only [bulkL, List.length_cons]
    have e : n * (l.length + 1 + (c x + bulkL c l)) = n * (l.length + bulkL c l) + (n + n * c x) := by
      rw [show l.length + 1 + (c x + bulkL c l) = (l.length + bulkL c l) + (1 + c x) by omega, Nat.mul_add n, Nat.mul_add n 1, Nat.mul_one]
    omega
theorem cnJ_le : ∀ (m : Nat) (j : J), cnJ m j ≤ 3 + 3 * bulkJ m j
  | 0, _ => Nat.zero_le _
  | m + 1, j => by
    have := bulkL_le3 (cnJ m) (bulkJ m) 3 (cnJ_le m) j.list
    simp only [cnJ, bulkJ, bulkStringS]
    omega
theorem cnt_Jsons (m : Nat) (l : List J) : bulkL (cnJ m) l ≤ 3 * bulkJS m l := bulkL_le3 (cnJ m) (bulkJ m) 3 (cnJ_le m) l
theorem cnt_Json (m : Nat) (j : J) : (bulkL (cnJ m) j.list : Int) + (j.names.length : Int) ≤ 4 * (bulkJ (m + 1) j : Nat) := by
  have := cnt_Jsons m j.list
  simp only [bulkJ, bulkJS, bulkStringS] at this ⊢
  omega
theorem cnOp_le (m : Nat) (o : JOp) : cnOp m o ≤ 4 + 4 * bulkOp m o := by
  have := cnJ_le m o.value
  simp only [cnOp, bulkOp, bulkStringS]
  omega
theorem cnt_Ops (m : Nat) (l : List JOp) : (bulkL (cnOp (m + 1)) l : Int) ≤ 4 * (bulkOpS (m + 1) l : Nat) := by
  have := bulkL_le3 (cnOp (m + 1)) (bulkOp (m + 1)) 4 (cnOp_le (m + 1)) l
  simp only [bulkOpS]
  omega
theorem cnt_Strs (l : List ByteArray) : (bulkL one l : Int) ≤ 4 * (bulkStringS l : Nat) := by
  rw [bulk_one]; simp only [bulkStringS]; omega
end Go.Proofs.Ytlkjpnlpankhpaa.X
