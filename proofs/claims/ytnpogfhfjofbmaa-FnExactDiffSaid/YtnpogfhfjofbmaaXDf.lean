/- What is proved here: contracts that Diff stands on. Conditions: none. -/
import Derived.Test.YtnpogfhfjofbmaaXK
namespace Go.Proofs.Ytnpogfhfjofbmaa.X
open Go.RowKit Go.Sort
set_option linter.unusedVariables false
set_option linter.unusedSimpArgs false
open Ty
/-- What a name of b gives: f is the difference of the parts. -/
def diffAt (f : J → J → List JOp) (a b : J) (i : Nat) : List JOp :=
  if nameAt a.names (b.names.getD i ByteArray.empty) < 0 then [⟨1, [b.names.getD i ByteArray.empty], b.list.getD i J.null⟩]
  else underL (b.names.getD i ByteArray.empty) (f (a.list.getD (nameAt a.names (b.names.getD i ByteArray.empty)).toNat J.null) (b.list.getD i J.null))
/-- What is in a and not in b. -/
def diffGone (a b : J) : List JOp := (a.names.filter (fun s => decide (nameAt b.names s < 0))).map (fun s => ⟨2, [s], J.null⟩)
/-- The difference of two values, at most so deep. -/
noncomputable def diffL : Nat → J → J → List JOp
  | 0, _, _ => []
  | d + 1, a, b => if eqv a b = true then [] else if a.kind ≠ 5 ∨ b.kind ≠ 5 then [⟨3, [], b⟩] else diffGone a b ++ (List.range b.names.length).flatMap (diffAt (diffL d) a b)
theorem diffGone_step (a b : J) (k : Nat) (hk : k < a.names.length) : ((a.names.take (k + 1)).filter (fun s => decide (nameAt b.names s < 0))).map (fun s => (⟨2, [s], J.null⟩ : JOp)) =
    ((a.names.take k).filter (fun s => decide (nameAt b.names s < 0))).map (fun s => ⟨2, [s], J.null⟩) ++ (if nameAt b.names a.names[k] < 0 then [⟨2, [a.names[k]], J.null⟩] else []) := by
  rw [List.take_succ_eq_append_getElem hk, List.filter_append, List.map_append]
  congr 1
  by_cases h : nameAt b.names a.names[k] < 0 <;> simp [h]
theorem flat_step {α : Type} (f : Nat → List α) (k : Nat) : (List.range (k + 1)).flatMap f = (List.range k).flatMap f ++ f k := by
  rw [List.range_succ, List.flatMap_append]; simp
theorem nameAt_pos (l : List ByteArray) (s : ByteArray) : -1 ≤ nameAt l s ∧ nameAt l s < l.length := by
  have := List.findIdx_le_length (xs := l) (p := fun x : ByteArray => s.toList == x.toList)
  unfold nameAt idxF
  split <;> omega
set_option maxRecDepth 100000 in
theorem slices_Contains_str (A : Option Addr) (c : Nat) (l : List ByteArray) (s : ByteArray) (w : World) (hr : str.C w A l) :
    Calls Try.prog 102 #[.slice A l.length c, .string s] w fun e w' => e = .returned (.bool (decide (0 ≤ nameAt l s))) ∧ Below w.heap.size w w' := by
  have HC := Hd.mk hr; clear hr
  go_enter Try.func102, Try.ntmps102
  go_wp2_with fail
  refine (slices_Index_str _ _ l s w HC.out).mono ?_
  rintro e w1 ⟨rfl, hX⟩
  have HX := Hd.mk hX; clear hX
  go_wp2_with fail
  go_ret
  exact ⟨rfl, HX.out⟩
end Go.Proofs.Ytnpogfhfjofbmaa.X
