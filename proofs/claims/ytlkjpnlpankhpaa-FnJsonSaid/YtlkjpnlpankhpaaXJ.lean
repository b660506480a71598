/- What is proved here: contracts of the laws' own functions over values and ops. Conditions: none. -/
import Derived.Test.YtlkjpnlpankhpaaXA
import Derived.Test.YtlkjpnlpankhpaaX1
import Derived.Test.YtlkjpnlpankhpaaXD
import Derived.Test.YtlkjpnlpankhpaaXB
import Derived.WideShapes
namespace Go.Proofs.Ytlkjpnlpankhpaa.X
open Go.RowKit Go.Sort
set_option linter.unusedVariables false
set_option linter.unusedSimpArgs false
open Ty
theorem bytes_eq {a b : ByteArray} : (a.toList == b.toList) = true ↔ a = b := by
  rw [beq_iff_eq, ByteArray.toList_eq, ByteArray.toList_eq]
  exact ⟨fun h => Go.WideShapes.bytes_inj h, fun h => by rw [h]⟩
def bulkStringS (l : List ByteArray) : Nat := l.length + bulkL ByteArray.size l
def bulkJ : Nat → J → Nat
  | 0, _ => 0
  | m + 1, j => j.s.size + (j.list.length + bulkL (bulkJ m) j.list) + bulkStringS j.names
def bulkJS (m : Nat) (l : List J) : Nat := l.length + bulkL (bulkJ m) l
def bulkOp (m : Nat) (o : JOp) : Nat := bulkStringS o.way + bulkJ m o.value
def bulkOpS (m : Nat) (l : List JOp) : Nat := l.length + bulkL (bulkOp m) l
theorem ZJ : ∀ (m : Nat) (w : World) (S : Nat → Prop), (tJ (m + 1)).O w S J.null [.int .i64 0, .int .i64 0, .string ByteArray.empty, .slice none 0 0, .slice none 0 0] :=
  fun _ _ _ => tJ_O.2 ⟨_, _, fun _ => False, fun _ => False, rfl, Nat.zero_le _, R_nil, R_nil, fun _ h => h.elim, fun _ h => h.elim, fun _ h => h.elim⟩
theorem tJ_zero {m : Nat} {w : World} {A : Option Addr} {l : List J} (hr : (tJ m).C w A l) (h : 0 < l.length) (w' : World) (S : Nat → Prop) : (tJ m).O w' S J.null [.int .i64 0, .int .i64 0, .string ByteArray.empty, .slice none 0 0, .slice none 0 0] := by
  obtain ⟨ad, cs0, _, hK0, _⟩ := C_at hr (Below.refl _ _) 0 h
  cases m with
  | zero => exact hK0.elim
  | succ m => exact ZJ m w' S
end Go.Proofs.Ytlkjpnlpankhpaa.X
