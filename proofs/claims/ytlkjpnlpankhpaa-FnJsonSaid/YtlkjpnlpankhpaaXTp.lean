/- What is proved here: what a row put among rows leaves there. Conditions: none. -/
import Derived.Test.YtlkjpnlpankhpaaXDb
namespace Go.Proofs.Ytlkjpnlpankhpaa.X
open Go.RowKit Go.Sort
set_option linter.unusedVariables false
set_option linter.unusedSimpArgs false
open Ty
/-- The first row of an Id. -/
def firstRow (l : List Row) (id : Int) : Option Row := l.find? (fun x => x.id == id)
theorem rowAt_first (l : List Row) (id : Int) : (firstRow l id = none ∧ rowAt l id = -1) ∨ ∃ j, ∃ h : j < l.length, rowAt l id = (j : Int) ∧ firstRow l id = some l[j] := by
  rcases idxF_cases (fun x : Row => x.id == id) l with ⟨h1, h2⟩ | ⟨h1, h2⟩
  · left
    refine ⟨?_, h1⟩
    unfold firstRow
    rw [List.find?_eq_none]
    intro x hx
    have := List.findIdx_eq_length.1 h2 x hx
    simpa using this
  · right
    refine ⟨_, h2, h1, ?_⟩
    unfold firstRow
    rw [List.find?_eq_some_iff_getElem]
    exact ⟨List.findIdx_getElem (w := h2), _, h2, rfl, fun j hj => by have := List.not_of_lt_findIdx hj; simpa using this⟩
theorem first_ins (a b : List Row) (r : Row) (id : Int) (h : r.id ≠ id) : firstRow (a ++ r :: b) id = firstRow (a ++ b) id := by
  unfold firstRow
  rw [List.find?_append, List.find?_append, List.find?_cons]
  rw [show (r.id == id) = false by simpa using h]
theorem first_put_ne (l : List Row) (r : Row) (id : Int) (h : r.id ≠ id) : firstRow (rowPut l r) id = firstRow l id := by
  unfold rowPut
  split
  · rename_i hlt
    have h1 : l[l.findIdx (fun x => x.id == r.id)].id = r.id := by simpa using List.findIdx_getElem (xs := l) (p := fun x : Row => x.id == r.id) (w := hlt)
    generalize hq : l.findIdx (fun x => x.id == r.id) = q at hlt h1
    rw [List.set_eq_take_append_cons_drop, if_pos hlt, first_ins _ _ _ _ h]
    have h2 : l = l.take q ++ l[q] :: l.drop (q + 1) := by rw [List.getElem_cons_drop, List.take_append_drop]
    rw [h2, first_ins _ _ l[q] id (by rw [h1]; exact h)]
    have h3 : (l.take q ++ l[q] :: l.drop (q + 1)).take q = l.take q := by rw [← h2]
    have h4 : (l.take q ++ l[q] :: l.drop (q + 1)).drop (q + 1) = l.drop (q + 1) := by rw [← h2]
    rw [h3, h4]
  · rw [first_ins _ _ _ _ h, List.take_append_drop]
theorem first_put (l : List Row) (r : Row) : firstRow (rowPut l r) r.id = some r := by
  unfold rowPut
  split
  · rename_i hlt
    rw [List.set_eq_take_append_cons_drop, if_pos hlt]
    unfold firstRow
    rw [List.find?_append, List.find?_cons]
    have h1 : (l.take (l.findIdx (fun x => x.id == r.id))).find? (fun x => x.id == r.id) = none := by
      rw [List.find?_eq_none]
      intro x hx
      obtain ⟨j, hj, rfl⟩ := List.mem_take_iff_getElem.1 hx
      have := List.not_of_lt_findIdx (p := fun x : Row => x.id == r.id) (xs := l) (i := j) (by omega)
      simpa using this
    rw [h1]
    simp
  · rename_i hlt
    unfold firstRow
    rw [List.find?_append, List.find?_cons]
    have h1 : (l.take (l.findIdx (fun x => decide (r.id < x.id)))).find? (fun x => x.id == r.id) = none := by
      rw [List.find?_eq_none]
      intro x hx hb
      exact hlt (List.findIdx_lt_length_of_exists ⟨x, List.mem_of_mem_take hx, hb⟩)
    rw [h1]
    simp
theorem drop_gone (l : List Row) (id : Int) (h : IdsP l) : rowAt (rowDrop l id) id = -1 := by
  rcases rowAt_first (rowDrop l id) id with ⟨_, h1⟩ | ⟨j, hj, h1, h2⟩
  · exact h1
  · exfalso
    have h3 : (rowDrop l id)[j].id = id := by
      unfold firstRow at h2
      simpa using List.find?_some h2
    unfold rowDrop at hj h3
    rw [List.getElem_eraseIdx] at h3
    have hl : (l.eraseIdx (l.findIdx (fun r => r.id == id))).length ≤ l.length := List.length_eraseIdx_le _ _
    have key : ∀ a (ha : a < l.length), a ≠ l.findIdx (fun r => r.id == id) → l[a].id ≠ id := by
      intro a ha hne he
      have hlt : l.findIdx (fun r => r.id == id) < l.length := List.findIdx_lt_length_of_exists ⟨l[a], List.getElem_mem ha, by simpa using he⟩
      have hq : l[l.findIdx (fun r => r.id == id)].id = id := by simpa using List.findIdx_getElem (xs := l) (p := fun x : Row => x.id == id) (w := hlt)
      apply hne
      have h4 : (l.map Row.id)[a]'(by simpa using ha) = (l.map Row.id)[l.findIdx (fun r => r.id == id)]'(by simpa using hlt) := by
        simp only [List.getElem_map]
        rw [he, hq]
      exact (List.getElem_inj h).1 h4
    split at h3
    · rename_i hb
      exact key j _ (by omega) h3
    · rename_i hb
      exact key (j + 1) _ (by omega) h3
theorem put_has (l : List Row) (r : Row) : ∃ q, ∃ h : q < (rowPut l r).length, rowAt (rowPut l r) r.id = (q : Int) ∧ (rowPut l r)[q] = r := by
  rcases rowAt_first (rowPut l r) r.id with ⟨h1, _⟩ | ⟨j, hj, h1, h2⟩
  · rw [first_put] at h1; cases h1
  · rw [first_put] at h2
    injection h2 with h2
    exact ⟨j, hj, h1, h2.symm⟩
theorem put_keeps (l : List Row) (r : Row) (i : Nat) (hi : i < l.length) (hne : l[i].id ≠ r.id) : ∃ j, ∃ h : j < (rowPut l r).length, rowAt (rowPut l r) l[i].id = (j : Int) ∧ (rowAt l l[i].id = (i : Int) → (rowPut l r)[j] = l[i]) := by
  rcases rowAt_first (rowPut l r) l[i].id with ⟨h1, _⟩ | ⟨j, hj, h1, h2⟩
  · rw [first_put_ne _ _ _ (Ne.symm hne)] at h1
    unfold firstRow at h1
    rw [List.find?_eq_none] at h1
    exact absurd (by simp) (h1 l[i] (List.getElem_mem hi))
  · refine ⟨j, hj, h1, fun h3 => ?_⟩
    rw [first_put_ne _ _ _ (Ne.symm hne)] at h2
    rcases rowAt_first l l[i].id with ⟨_, h5⟩ | ⟨k, hk, h5, h6⟩
    · omega
    · obtain rfl : k = i := by omega
      rw [h6] at h2
      injection h2 with h2
      exact h2.symm
theorem laws_big (A : Option Addr) (c : Nat) (bs : List Int) (w : World) (hm : bs.length ≤ 9223372036854775807) : Calls Try.prog 7 #[.slice A bs.length c] w fun e w' => e = .returned (.bool (decide ((1048576 : Int) < bs.length))) ∧ w = w' := by
  go_enter Try.func7, Try.ntmps7
  go_wp2
  go_ret
  exact ⟨rfl, rfl⟩
end Go.Proofs.Ytlkjpnlpankhpaa.X
