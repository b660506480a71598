/-
  DERIVED. GIVEN WITH THE SEED: THE CARDS: each row of YtegcecnjmimbiaaDoorRows.lean that lists a variable, with what it lists TIED to the program's text (the seventh form; the later family's looks); each row that meets fmt, with fmt's text TOLD by the authors' own Lean function (tested against real Go, not proved from fmt's source: count such statements apart). THE CARD IS WHAT COUNTS. Prove the row's statement (the work); the ties are given (YtegcecnjmimbiaaDoorTie.lean); close each card by the builder's one call (the guide's Derived/Test/ToyasCard.lean, 'card_holds'). Laid BY PROGRAM, IN A SANDBOX (cutbox-door.mjs). By AI agents, Wed Nov 11 2026. No macro, syntax, notation, axiom, sorry.
-/
import Derived.Test.YtegcecnjmimbiaaDoorRows
import GoSem.ClaimSeven
namespace Go.Proofs.YtegcecnjmimbiaaDoor
namespace Rows

/-- THE TIED CARD OF 'laws.FnExactRows'. -/
def fnExactRowsCard : Claim7 := { stood := { row := fnExactRowsRow, standIns := [], harness := (true, "f31590f71432da39ba899a5e683b61dc1f4ea216ee6900e9600fa643fdda828e"), looks := false }, kinds := [], alts := [], laidByText := true, laidKinds := [.data, .data, .data], laidTests := true, laidLooks := .later }
def FnExactRowsCardSaid : Prop := Claim7.holds Tryd.pinned (.plain (OpenSpec.ofChange fnExactRowsSpec)) fnExactRowsCard

/-- THE SECOND FORM's CARD OF 'laws.FnExactRows'. -/
def fnExactRowsUptoCard : Claim7 := { stood := { row := fnExactRowsUptoRow, standIns := [], harness := (true, "f31590f71432da39ba899a5e683b61dc1f4ea216ee6900e9600fa643fdda828e"), looks := false }, kinds := [], alts := [], laidByText := true, laidKinds := [.data, .data, .data], laidTests := true, laidLooks := .later }
def FnExactRowsUptoCardSaid : Prop := Claim7.holds Tryd.pinned (.plain (OpenSpec.upto fnExactRowsSpec)) fnExactRowsUptoCard
end Rows
end Go.Proofs.YtegcecnjmimbiaaDoor
