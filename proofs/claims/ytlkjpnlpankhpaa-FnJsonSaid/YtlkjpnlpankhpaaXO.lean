/- What is proved here: what the laws' marks make of values and ops. Conditions: none. -/
import Derived.Test.YtlkjpnlpankhpaaXN
import Derived.Test.YtlkjpnlpankhpaaXJ
namespace Go.Proofs.Ytlkjpnlpankhpaa.X
open Go.RowKit Go.Sort
set_option linter.unusedVariables false
set_option linter.unusedSimpArgs false
open Ty
/-- The digits of a number. -/
def dg (n : Nat) : ByteArray := if h : n = 0 then ByteArray.empty else dg (n / 10) ++ ⟨#[UInt8.ofNat (48 + n % 10)]⟩
termination_by n
decreasing_by omega
theorem dg_zero : dg 0 = ByteArray.empty := by rw [dg]; rfl
theorem dg_pos {n : Nat} (h : 0 < n) : dg n = dg (n / 10) ++ ⟨#[UInt8.ofNat (48 + n % 10)]⟩ := by
  rw [dg]
  exact dif_neg (by omega)
theorem dg_le : ∀ n : Nat, (dg n).size ≤ n := by
  intro n
  induction n using Nat.strongRecOn with
  | _ n ih =>
    rcases Nat.eq_zero_or_pos n with rfl | h
    · rw [dg_zero]; exact Nat.le_refl _
    · rw [dg_pos h, ByteArray.size_append]
      have := ih (n / 10) (by omega)
      show (dg (n / 10)).size + 1 ≤ n
      omega
def markText (k : Int) : ByteArray := if k ≤ 0 then ⟨#[109, 48]⟩ else ⟨#[109]⟩ ++ dg k.toNat
theorem markText_le (k : Int) (h0 : 0 ≤ k) (h1 : k + 1 ≤ 4611686018427387904) : (markText k).size ≤ 4611686018427387906 := by
  unfold markText
  split
  · show 2 ≤ _; omega
  · rw [ByteArray.size_append]
    have := dg_le k.toNat
    show 1 + _ ≤ _
    omega
def mkStr (k : Int) (_ : ByteArray) : ByteArray := markText k
def cnJ : Nat → J → Nat
  | 0, _ => 0
  | m + 1, j => 3 + bulkL (cnJ m) j.list + j.names.length
def mkJ : Nat → Int → J → J
  | 0, _, j => j
  | m + 1, k, j => J.mk k (k + 1) (markText (k + 1 + 1)) (markL (mkJ m) (cnJ m) (k + 1 + 1 + 1) j.list) (markL mkStr one (k + 1 + 1 + 1 + (bulkL (cnJ m) j.list : Int)) j.names)
def cnOp (m : Nat) (o : JOp) : Nat := 1 + o.way.length + cnJ m o.value
def mkOp (m : Nat) (k : Int) (o : JOp) : JOp := ⟨k, markL mkStr one (k + 1) o.way, mkJ m (k + 1 + (o.way.length : Int)) o.value⟩
end Go.Proofs.Ytlkjpnlpankhpaa.X
