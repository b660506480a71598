/- What is proved here: contracts of the functions that look at values. Conditions: none. -/
import Derived.Test.YtkgefjjgjjmklaaDoorXJ
import Derived.Test.YtkgefjjgjjmklaaDoorXFb
namespace Go.Proofs.YtkgefjjgjjmklaaDoor.X
open Go.RowKit Go.Sort
set_option linter.unusedVariables false
set_option linter.unusedSimpArgs false
open Ty
def byteB (b : UInt8) : Bool := inB (b.toNat : Int) 32 126
def textB (s : ByteArray) : Bool := s.data.toList.all byteB && decide ((s.size : Int) ≤ 60)
theorem wrap64_byte (b : UInt8) : wrap64 ((b.toNat : Nat) : Int) = b.toNat := by
  have := b.toNat_lt
  unfold wrap64
  omega
def ltB (a b : ByteArray) : Bool := Go.Op.bytesLess a.toList b.toList
theorem run_geq (a b : ByteArray) (w : World) : (Go.binOp .geq 9 (.string a) (.string b)).run Tryd.prog w = .ok (.bool (!ltB a b)) w := by
  rfl
def nameStep (l : List ByteArray) (k : Nat) : Bool := textB (l.getD k ByteArray.empty) && (k == 0 || ltB (l.getD (k - 1) ByteArray.empty) (l.getD k ByteArray.empty))
def namesB (l : List ByteArray) : Bool := (List.range l.length).all (nameStep l)
theorem all_range_ (p : Nat → Bool) (k : Nat) (h : (List.range k).all p = true) : (List.range (k + 1)).all p = p k := by
  rw [List.range_succ, List.all_append, h]; simp
theorem nameStep_at {l : List ByteArray} {k : Nat} (hk : k < l.length) : nameStep l k = (textB l[k] && (k == 0 || ltB (l.getD (k - 1) ByteArray.empty) l[k])) := by
  unfold nameStep
  rw [show l.getD k ByteArray.empty = l[k] by simp [List.getD_eq_getElem?_getD, hk]]
theorem namesB_no {l : List ByteArray} {k : Nat} (hk : k < l.length) (h : nameStep l k = false) : namesB l = false := by
  rw [namesB, List.all_eq_false]
  exact ⟨k, List.mem_range.2 hk, by simp [h]⟩
end Go.Proofs.YtkgefjjgjjmklaaDoor.X
