/-
  DERIVED. GIVEN WITH THE SEED: THE CARDS: each row of YtegcecnjmimbiaaGreatDoorRows.lean that lists a variable, with what it lists TIED to the program's text (the seventh form; the later family's looks); each row that meets fmt, with fmt's text TOLD by the authors' own Lean function (tested against real Go, not proved from fmt's source: count such statements apart). THE CARD IS WHAT COUNTS. Prove the row's statement (the work); the ties are given (YtegcecnjmimbiaaGreatDoorTie.lean); close each card by the builder's one call (the guide's Derived/Test/ToyasCard.lean, 'card_holds'). Laid BY PROGRAM, IN A SANDBOX (cutbox-door.mjs). By AI agents, Wed Nov 11 2026. No macro, syntax, notation, axiom, sorry.
-/
import Derived.Test.YtegcecnjmimbiaaGreatDoorRows
import GoSem.ClaimSeven
namespace Go.Proofs.YtegcecnjmimbiaaGreatDoor
namespace Rows

/-- THE TIED CARD OF 'laws.FnExactPatch'. -/
def fnExactPatchCard : Claim7 := { stood := { row := fnExactPatchRow, standIns := [], harness := (true, "199b678ee40316324989b5782a3c2a6c5de7a9478fa202cddcb6c775ae1aae99"), looks := true }, kinds := [], alts := [], laidByText := true, laidKinds := [.data, .data, .data, .sentinel, .sentinel], laidTests := true, laidLooks := .later }
def FnExactPatchCardSaid : Prop := Claim7.holds Tryz.pinned (.plain (OpenSpec.ofChange fnExactPatchSpec)) fnExactPatchCard

/-- THE TIED CARD OF 'laws.FnExactPatchAll'. -/
def fnExactPatchAllCard : Claim7 := { stood := { row := fnExactPatchAllRow, standIns := [], harness := (true, "199b678ee40316324989b5782a3c2a6c5de7a9478fa202cddcb6c775ae1aae99"), looks := true }, kinds := [], alts := [], laidByText := true, laidKinds := [.data, .data, .data, .sentinel, .sentinel], laidTests := true, laidLooks := .later }
def FnExactPatchAllCardSaid : Prop := Claim7.holds Tryz.pinned (.plain (OpenSpec.ofChange fnExactPatchAllSpec)) fnExactPatchAllCard

/-- THE SECOND FORM's CARD OF 'laws.FnExactPatch'. -/
def fnExactPatchUptoCard : Claim7 := { stood := { row := fnExactPatchUptoRow, standIns := [], harness := (true, "199b678ee40316324989b5782a3c2a6c5de7a9478fa202cddcb6c775ae1aae99"), looks := true }, kinds := [], alts := [], laidByText := true, laidKinds := [.data, .data, .data, .sentinel, .sentinel], laidTests := true, laidLooks := .later }
def FnExactPatchUptoCardSaid : Prop := Claim7.holds Tryz.pinned (.plain (OpenSpec.upto fnExactPatchSpec)) fnExactPatchUptoCard

/-- THE SECOND FORM's CARD OF 'laws.FnExactPatchAll'. -/
def fnExactPatchAllUptoCard : Claim7 := { stood := { row := fnExactPatchAllUptoRow, standIns := [], harness := (true, "199b678ee40316324989b5782a3c2a6c5de7a9478fa202cddcb6c775ae1aae99"), looks := true }, kinds := [], alts := [], laidByText := true, laidKinds := [.data, .data, .data, .sentinel, .sentinel], laidTests := true, laidLooks := .later }
def FnExactPatchAllUptoCardSaid : Prop := Claim7.holds Tryz.pinned (.plain (OpenSpec.upto fnExactPatchAllSpec)) fnExactPatchAllUptoCard
end Rows
end Go.Proofs.YtegcecnjmimbiaaGreatDoor
