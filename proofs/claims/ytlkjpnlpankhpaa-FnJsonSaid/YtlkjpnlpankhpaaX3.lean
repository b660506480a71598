/- What is proved here: bytes that can be read as data are read by their kind. Conditions: none. -/
import Derived.Test.YtlkjpnlpankhpaaX2
import Derived.Test.YtlkjpnlpankhpaaXDa
namespace Go.Proofs.Ytlkjpnlpankhpaa.X
open Go.RowKit
set_option linter.unusedVariables false
set_option linter.unusedSimpArgs false
open Ty
theorem opens_u8 {P : Program} {t : TypeId} {B : Nat} (ht : P.underlying t = some (.int .u8)) : Opens u8 P t (fun _ => True) B := by
  intro H enc W base spare held fuel hB cs x h
  obtain ⟨n, rfl, _, _⟩ := DataW.trod_int ht h
  exact ⟨n, rfl, trivial⟩
theorem cells_u8 : Try.prog.cellsOf 5 = 1 := by kernel_rfl
theorem o_bytes (B : Nat) : Opens (sl 5 u8) Try.prog 22 (fun l => ∀ x ∈ l, True) B := opens_sl Try.underlying22 cells_u8 (opens_u8 Try.underlying5)
end Go.Proofs.Ytlkjpnlpankhpaa.X
