/- What is proved here: draws of rows. Conditions: none. -/
import Derived.Test.YtlkjpnlpankhpaaXDa
import Derived.Test.YtlkjpnlpankhpaaXHs
namespace Go.Proofs.Ytlkjpnlpankhpaa.X
open Go.RowKit Go.Sort
set_option linter.unusedVariables false
set_option linter.unusedSimpArgs false
open Ty
theorem R_int1 {W0 : World} (y : Int) : int.R 3 (W0.alloc (.cells #[.int .i64 y] 3)) (fun k => k = W0.heap.size) (.slice (some ⟨W0.heap.size, 0, none⟩) 1 1) [y] := by
  refine R_block (xs := [y]) (cap := 1) (heap_alloc_new W0 _) rfl (Nat.le_refl _) (by omega) rfl (fun _ => 0) (fun i x h => ?_)
  rcases i with _ | i
  · simp at h
    subst h
    rfl
  · simp at h
/-- No more than n rows, each of so many cells. -/
def RowsP (cols : Int) (n : Nat) (l : List Row) : Prop := l.length ≤ n ∧ ∀ r ∈ l, r.cells.length = cols.toNat
def IdsP (l : List Row) : Prop := (l.map Row.id).Nodup
theorem put_perm (l : List Row) (r : Row) (p : Nat) : (l.take p ++ r :: l.drop p).Perm (r :: l) := by
  refine List.perm_middle.trans ?_
  rw [List.take_append_drop]
theorem rowsP_put {cols : Int} {n : Nat} {l : List Row} {r : Row} (h : RowsP cols n l) (hr : r.cells.length = cols.toNat) : RowsP cols (n + 1) (rowPut l r) := by
  unfold rowPut
  split
  · refine ⟨by rw [List.length_set]; have := h.1; omega, fun x hx => ?_⟩
    rcases List.mem_or_eq_of_mem_set hx with hx | rfl
    · exact h.2 x hx
    · exact hr
  · have hp := put_perm l r (l.findIdx (fun x => decide (r.id < x.id)))
    refine ⟨by rw [hp.length_eq]; simp; exact h.1, fun x hx => ?_⟩
    rcases List.mem_cons.1 (hp.mem_iff.1 hx) with rfl | hx
    · exact hr
    · exact h.2 x hx
theorem set_same {α : Type} (m : List α) (q : Nat) (x : α) (h : q < m.length) (e : m[q] = x) : m.set q x = m := by subst e; exact List.set_getElem_self _
theorem idsP_put {l : List Row} {r : Row} (h : IdsP l) : IdsP (rowPut l r) := by
  unfold rowPut
  split
  · rename_i hlt
    have he : (l.set (l.findIdx (fun x => x.id == r.id)) r).map Row.id = l.map Row.id := by
      rw [List.map_set]
      have h1 := List.findIdx_getElem (xs := l) (p := fun x : Row => x.id == r.id) (w := hlt)
      have h2 : l[l.findIdx (fun x => x.id == r.id)].id = r.id := by simpa using h1
      have h3 : (l.map Row.id)[l.findIdx (fun x => x.id == r.id)]'(by simpa using hlt) = r.id := by simpa using h2
      exact set_same _ _ _ _ h3
    unfold IdsP
    rw [he]
    exact h
  · rename_i hlt
    have hp := put_perm l r (l.findIdx (fun x => decide (r.id < x.id)))
    unfold IdsP
    rw [(hp.map _).nodup_iff, List.map_cons, List.nodup_cons]
    refine ⟨fun hm => ?_, h⟩
    obtain ⟨x, hx, he⟩ := List.mem_map.1 hm
    exact hlt (List.findIdx_lt_length_of_exists ⟨x, hx, by simp [he]⟩)
theorem bulkL_len (c : Nat) : ∀ (l : List Row), (∀ r ∈ l, bulkRow r ≤ c) → bulkL bulkRow l ≤ c * l.length
  | [], _ => by simp [bulkL]
  | x :: l, h => by
    have h1 := h x (by simp)
    have h2 := bulkL_len c l (fun r hr => h r (by simp [hr]))
    simp only [bulkL, List.length_cons, Nat.mul_add, Nat.mul_one]
    omega
theorem rowsP_bulk {cols : Int} (hc : cols ≤ 100) {n : Nat} {l : List Row} (h : RowsP cols n l) : bulkRowS l ≤ 101 * n := by
  have h1 := bulkL_len 100 l (fun r hr => by have := h.2 r hr; unfold bulkRow; omega)
  have h2 := h.1
  have h3 := Nat.mul_le_mul_left 100 h2
  simp only [bulkRowS]
  omega
theorem rowsP_app {cols : Int} {n : Nat} {l : List Row} {r : Row} (h : RowsP cols n l) (hr : r.cells.length = cols.toNat) : RowsP cols (n + 1) (l ++ [r]) := by
  refine ⟨by have := h.1; simp; omega, fun x hx => ?_⟩
  rcases List.mem_append.1 hx with hx | hx
  · exact h.2 x hx
  · rw [List.mem_singleton] at hx
    rw [hx]; exact hr
end Go.Proofs.Ytlkjpnlpankhpaa.X
