/-
  DERIVED. GIVEN WITH THE SEED: THE CARDS: each row of YtoaifagjdjgcbaaDoorRows.lean that lists a variable, with what it lists TIED to the program's text (the seventh form; the later family's looks); each row that meets fmt, with fmt's text TOLD by the authors' own Lean function (tested against real Go, not proved from fmt's source: count such statements apart). THE CARD IS WHAT COUNTS. Prove the row's statement (the work); the ties are given (YtoaifagjdjgcbaaDoorTie.lean); close each card by the builder's one call (the guide's Derived/Test/ToyasCard.lean, 'card_holds'). Laid BY PROGRAM, IN A SANDBOX (cutbox-door.mjs). By AI agents, Wed Nov 11 2026. No macro, syntax, notation, axiom, sorry.
-/
import Derived.Test.YtoaifagjdjgcbaaDoorRows
import GoSem.ClaimSeven
namespace Go.Proofs.YtoaifagjdjgcbaaDoor
namespace Rows

/-- THE TIED CARD OF 'laws.FnField'. -/
def fnFieldCard : Claim7 := { stood := { row := fnFieldRow, standIns := [], harness := (true, "4c6f81d939a1506cc6f75039b8434ea4f094eda160162b67283584a9bb05410a"), looks := true }, kinds := [], alts := [], laidByText := true, laidKinds := [.data, .data, .data, .sentinel, .sentinel], laidTests := true, laidLooks := .later }
def FnFieldCardSaid : Prop := Claim7.holds Tryd.pinned (.plain (OpenSpec.ofChange fnFieldSpec)) fnFieldCard

/-- THE TIED CARD OF 'laws.FnGot'. -/
def fnGotCard : Claim7 := { stood := { row := fnGotRow, standIns := [], harness := (true, "4c6f81d939a1506cc6f75039b8434ea4f094eda160162b67283584a9bb05410a"), looks := true }, kinds := [], alts := [], laidByText := true, laidKinds := [.data, .data, .data, .sentinel, .sentinel], laidTests := true, laidLooks := .later }
def FnGotCardSaid : Prop := Claim7.holds Tryd.pinned (.plain (OpenSpec.ofChange fnGotSpec)) fnGotCard

/-- THE TIED CARD OF 'laws.FnOps'. -/
def fnOpsCard : Claim7 := { stood := { row := fnOpsRow, standIns := [], harness := (true, "4c6f81d939a1506cc6f75039b8434ea4f094eda160162b67283584a9bb05410a"), looks := true }, kinds := [], alts := [], laidByText := true, laidKinds := [.data, .pinned], laidTests := true, laidLooks := .later }
def FnOpsCardSaid : Prop := Claim7.holds Tryd.pinned (.plain (OpenSpec.ofChange fnOpsSpec)) fnOpsCard

/-- THE TIED CARD OF 'laws.FnWays'. -/
def fnWaysCard : Claim7 := { stood := { row := fnWaysRow, standIns := [], harness := (true, "4c6f81d939a1506cc6f75039b8434ea4f094eda160162b67283584a9bb05410a"), looks := true }, kinds := [], alts := [], laidByText := true, laidKinds := [.data, .data, .data, .data, .sentinel, .sentinel, .pinned], laidTests := true, laidLooks := .later }
def FnWaysCardSaid : Prop := Claim7.holds Tryd.pinned (.plain (OpenSpec.ofChange fnWaysSpec)) fnWaysCard

/-- THE SECOND FORM's CARD OF 'laws.FnField'. -/
def fnFieldUptoCard : Claim7 := { stood := { row := fnFieldUptoRow, standIns := [], harness := (true, "4c6f81d939a1506cc6f75039b8434ea4f094eda160162b67283584a9bb05410a"), looks := true }, kinds := [], alts := [], laidByText := true, laidKinds := [.data, .data, .data, .sentinel, .sentinel], laidTests := true, laidLooks := .later }
def FnFieldUptoCardSaid : Prop := Claim7.holds Tryd.pinned (.plain (OpenSpec.upto fnFieldSpec)) fnFieldUptoCard

/-- THE SECOND FORM's CARD OF 'laws.FnGot'. -/
def fnGotUptoCard : Claim7 := { stood := { row := fnGotUptoRow, standIns := [], harness := (true, "4c6f81d939a1506cc6f75039b8434ea4f094eda160162b67283584a9bb05410a"), looks := true }, kinds := [], alts := [], laidByText := true, laidKinds := [.data, .data, .data, .sentinel, .sentinel], laidTests := true, laidLooks := .later }
def FnGotUptoCardSaid : Prop := Claim7.holds Tryd.pinned (.plain (OpenSpec.upto fnGotSpec)) fnGotUptoCard

/-- THE SECOND FORM's CARD OF 'laws.FnOps'. -/
def fnOpsUptoCard : Claim7 := { stood := { row := fnOpsUptoRow, standIns := [], harness := (true, "4c6f81d939a1506cc6f75039b8434ea4f094eda160162b67283584a9bb05410a"), looks := true }, kinds := [], alts := [], laidByText := true, laidKinds := [.data, .pinned], laidTests := true, laidLooks := .later }
def FnOpsUptoCardSaid : Prop := Claim7.holds Tryd.pinned (.plain (OpenSpec.upto fnOpsSpec)) fnOpsUptoCard

/-- THE SECOND FORM's CARD OF 'laws.FnWays'. -/
def fnWaysUptoCard : Claim7 := { stood := { row := fnWaysUptoRow, standIns := [], harness := (true, "4c6f81d939a1506cc6f75039b8434ea4f094eda160162b67283584a9bb05410a"), looks := true }, kinds := [], alts := [], laidByText := true, laidKinds := [.data, .data, .data, .data, .sentinel, .sentinel, .pinned], laidTests := true, laidLooks := .later }
def FnWaysUptoCardSaid : Prop := Claim7.holds Tryd.pinned (.plain (OpenSpec.upto fnWaysSpec)) fnWaysUptoCard
end Rows
end Go.Proofs.YtoaifagjdjgcbaaDoor
