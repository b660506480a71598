/- What is proved here: contracts of Get. Conditions: none. -/
import Derived.Test.YtkgefjjgjjmklaaDoorXZ
import Derived.Test.YtkgefjjgjjmklaaDoorXIx
import Derived.Test.YtkgefjjgjjmklaaDoorXPe
namespace Go.Proofs.YtkgefjjgjjmklaaDoor.X
open Go.RowKit Go.Sort
set_option linter.unusedVariables false
set_option linter.unusedSimpArgs false
open Ty
/-- The place of a step in a value; -1: none. -/
def placeS (j : J) (s : ByteArray) : Int :=
  if (j.kind == 5) = true then nameAt j.names s
  else if (j.kind == 4) = true then (if idxS s.data.toList < (j.list.length : Int) then idxS s.data.toList else -1) else -1
def place0 (j : J) (s : ByteArray) : Int :=
  if (j.kind == 5) = true then nameAt j.names s else if (j.kind == 4) = true then idxI s.data.toList else -1
def placeI (j : J) (s : ByteArray) : Int := if (j.list.length : Int) ≤ place0 j s then -1 else place0 j s
theorem nameAt_le (l : List ByteArray) (s : ByteArray) : nameAt l s < l.length ∧ -1 ≤ nameAt l s ∧ (nameAt l s < 0 → nameAt l s = -1) := by
  rcases idxF_cases2 (fun x : ByteArray => s.toList == x.toList) l with h1 | ⟨h1, h2⟩
  · unfold nameAt; omega
  · unfold nameAt; omega
theorem nameAt_own {j : J} (h : ownB j = true) (s : ByteArray) : nameAt j.names s < j.list.length := by
  have h1 := nameAt_le j.names s
  rcases ownB_names j h with ⟨_, h2⟩ | h2 <;> omega
theorem place_eq {j : J} (h : ownB j = true) (s : ByteArray) : placeI j s = placeS j s := by
  unfold placeI place0 placeS
  have h1 := nameAt_own h s
  split
  · rw [if_neg (by omega)]
  · split
    · rw [idx_eq]
      split <;> split <;> omega
    · rw [if_neg (by omega)]
theorem place_lt {j : J} (h : ownB j = true) (s : ByteArray) {q : Nat} (hq : placeS j s = (q : Int)) : q < j.list.length := by
  have h1 := nameAt_own h s
  unfold placeS at hq
  split at hq
  · omega
  · split at hq
    · split at hq <;> omega
    · omega
/-- The value at the end of a way, where there is one. -/
def getV : J → List ByteArray → Option J
  | j, [] => some j
  | j, s :: l => if placeS j s < 0 then none else match j.list[(placeS j s).toNat]? with
    | some y => getV y l
    | none => none
def getJ (x : J) (way : List ByteArray) : J := if jsonOk x = true then (getV x way).getD J.null else J.null
def getB (x : J) (way : List ByteArray) : Bool := jsonOk x && (getV x way).isSome
theorem getV_no {y : J} {way : List ByteArray} {k : Nat} (hk : k < way.length) (h : placeS y way[k] < 0) : getV y (way.drop k) = none := by
  rw [List.drop_eq_getElem_cons hk, getV, if_pos h]
theorem getV_yes {y : J} {way : List ByteArray} {k : Nat} (hk : k < way.length) {q : Nat} (h : placeS y way[k] = (q : Int)) (hq : q < y.list.length) : getV y (way.drop k) = getV y.list[q] (way.drop (k + 1)) := by
  rw [List.drop_eq_getElem_cons hk, getV, if_neg (by omega), h]
  simp [List.getElem?_eq_getElem hq]
theorem sizeN_at {d : Nat} {y : J} (h : sizeN (d + 1) y ≤ 400) (q : Nat) (hq : q < y.list.length) : ∃ d', d = d' + 1 ∧ sizeN (d' + 1) y.list[q] ≤ 400 := by
  have h1 := sizeN_part h q hq
  cases d with
  | zero => simp [sizeN] at h1
  | succ d => exact ⟨d, rfl, h1⟩
theorem bulk_at {m : Nat} {w : World} {y : J} {cs : List Value} (hk : (tJ (m + 1)).K w y cs) (q : Nat) (hq : q < y.list.length) : bulkJ (m + 1) y.list[q] ≤ bulkJ (m + 1) y := by
  obtain ⟨A1, c1, A2, c2, rfl, _, ⟨_, hC⟩, _⟩ := tJ_K.1 hk
  have hx := List.getElem_mem hq
  obtain ⟨cs', hk'⟩ := C_all hC hx
  rw [bulkJ_fuel m w _ cs' hk']
  have := bulkL_mem (bulkJ m) hx
  show _ ≤ y.s.size + (y.list.length + bulkL (bulkJ m) y.list) + _
  omega
theorem K_at {m : Nat} {w : World} {y : J} {cs : List Value} (hk : (tJ (m + 1)).K w y cs) (q : Nat) (hq : q < y.list.length) : ∃ cs', (tJ (m + 1)).K w y.list[q] cs' := by
  obtain ⟨A1, c1, A2, c2, rfl, _, ⟨_, hC⟩, _⟩ := tJ_K.1 hk
  obtain ⟨cs', hk'⟩ := C_all hC (List.getElem_mem hq)
  exact ⟨cs', (tJ_le1 m).K _ _ _ hk'⟩
theorem bulk_getV {m : Nat} {w : World} : ∀ (way : List ByteArray) (y : J) (cs : List Value), (tJ (m + 1)).K w y cs → bulkJ (m + 1) ((getV y way).getD J.null) ≤ bulkJ (m + 1) y
  | [], y, cs, _ => Nat.le_refl _
  | s :: l, y, cs, hk => by
    have h0 : bulkJ (m + 1) J.null ≤ bulkJ (m + 1) y := by
      show 0 + (0 + 0) + (0 + 0) ≤ _
      omega
    unfold getV
    split
    · exact h0
    · rcases Nat.lt_or_ge (placeS y s).toNat y.list.length with h | h
      · rw [List.getElem?_eq_getElem h]
        obtain ⟨cs', hk'⟩ := K_at hk _ h
        exact Nat.le_trans (bulk_getV l _ cs' hk') (bulk_at hk _ h)
      · rw [List.getElem?_eq_none h]; exact h0
theorem bulk_getJ {m : Nat} {w : World} {x : J} {cs : List Value} (hk : (tJ (m + 1)).K w x cs) (way : List ByteArray) : bulkJ (m + 1) (getJ x way) ≤ bulkJ (m + 1) x := by
  unfold getJ
  split
  · exact bulk_getV way x cs hk
  · show 0 + (0 + 0) + (0 + 0) ≤ _
    omega
theorem idxS_bd (l : List UInt8) : -1 ≤ idxS l ∧ idxS l ≤ 999 := by
  exact idxS_le l
theorem own_size {d : Nat} {x : J} (h : sizeN (d + 1) x ≤ 400) : ownB x = true := by
  cases hb : ownB x
  · rw [sizeN_bad hb] at h; omega
  · rfl
end Go.Proofs.YtkgefjjgjjmklaaDoor.X
