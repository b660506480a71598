/- What is proved here: slices.Delete of one row out of a row of rows of one's own. Conditions: none. -/
import Derived.Test.YtlkjpnlpankhpaaXQ
import Derived.Deep.RegionLaw
import Derived.Lib.Walk
import Derived.Shelf.RegionOpenPlain
import Derived.Lib.SliceRun
namespace Go.Proofs.Ytlkjpnlpankhpaa.X
open Go.RowKit Go.Sort
set_option linter.unusedVariables false
set_option linter.unusedSimpArgs false
open Ty
theorem idxF_cases {α : Type} (p : α → Bool) (l : List α) : (idxF p l = -1 ∧ l.findIdx p = l.length) ∨ (idxF p l = (l.findIdx p : Int) ∧ l.findIdx p < l.length) := by
  unfold idxF
  by_cases h : l.findIdx p < l.length
  · exact .inr ⟨if_pos h, h⟩
  · have := List.findIdx_le_length (xs := l) (p := p)
    exact .inl ⟨if_neg h, by omega⟩
theorem over_get {α : Type} (l : List α) (o : Nat) (vs : List α) (h : o + vs.length ≤ l.length) (k : Nat) : (over l o vs)[k]? = if o ≤ k ∧ k < o + vs.length then vs[k - o]? else l[k]? := by
  unfold over
  have h1 : (l.take o).length = o := by simp; omega
  rcases Nat.lt_or_ge k o with hk | hk
  · rw [if_neg (by omega), List.append_assoc, List.getElem?_append_left (by omega), List.getElem?_take, if_pos hk]
  · rw [List.append_assoc, List.getElem?_append_right (by omega), h1]
    rcases Nat.lt_or_ge k (o + vs.length) with hk2 | hk2
    · rw [if_pos ⟨hk, hk2⟩, List.getElem?_append_left (by omega)]
    · rw [if_neg (by omega), List.getElem?_append_right (by omega), List.getElem?_drop]
      congr 1
      omega
theorem cut_eq {α : Type} (l m : List α) (a b n : Nat) (h : ∀ k, k < n → l[a + k]? = m[b + k]?) : (l.drop a).take n = (m.drop b).take n := by
  apply List.ext_getElem?
  intro k
  rw [List.getElem?_take, List.getElem?_take]
  split
  · rw [List.getElem?_drop, List.getElem?_drop]
    exact h k (by assumption)
  · rfl
theorem block_cell {w : World} {g : Nat} {cur : Array Value} {e : TypeId} {fr : Nat × Nat} (h : w.heap[g]? = some (.cells cur e fr)) (j : Nat) : w.cell? ⟨g, j, none⟩ = cur[j]? := by
  unfold World.cell?
  rw [show w.heap[(⟨g, j, none⟩ : Addr).block]? = some (.cells cur e fr) from h]
  simp
theorem block_frozen {w : World} {g : Nat} {cur : Array Value} {e : TypeId} (h : w.heap[g]? = some (.cells cur e (0, 0))) (j : Nat) : w.frozen? ⟨g, j, none⟩ = false := by
  simp [World.frozen?, h]
theorem parts_one {α : Type} {d : Ty α} {w : World} {cur : Array Value} {T : Nat → Nat → Prop} {xs : List α} (hO : ∀ i x, xs[i]? = some x → d.O w (T i) x ((cur.toList.drop (i * d.sz)).take d.sz)) {k : Nat} (hk : k < xs.length * d.sz) {u : Value} (hu : cur.toList[k]? = some u) : u.oneCell' = true := by
  have hsz : 0 < d.sz := by
    rcases Nat.eq_zero_or_pos d.sz with h | h
    · rw [h] at hk; omega
    · exact h
  have hi : k / d.sz < xs.length := Nat.div_lt_of_lt_mul (by rw [Nat.mul_comm]; exact hk)
  have h1 := hO (k / d.sz) xs[k / d.sz] (by simp [hi])
  refine d.K_one (d.O_K h1) u ?_
  rw [List.mem_iff_getElem?]
  refine ⟨k % d.sz, ?_⟩
  rw [List.getElem?_take, if_pos (Nat.mod_lt _ hsz), List.getElem?_drop, Nat.mul_comm, Nat.div_add_mod]
  exact hu
theorem zero1 (a b : Value) : (Builtin.zeroCells #[a, b] 1).toList = [a, b] := by
  simp [Builtin.zeroCells, show Array.range 2 = #[0, 1] from rfl]
end Go.Proofs.Ytlkjpnlpankhpaa.X
