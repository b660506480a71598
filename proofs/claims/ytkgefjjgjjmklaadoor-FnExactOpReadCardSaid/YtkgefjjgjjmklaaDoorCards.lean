/-
  DERIVED. GIVEN WITH THE SEED: THE CARDS: each row of YtkgefjjgjjmklaaDoorRows.lean that lists a variable, with what it lists TIED to the program's text (the seventh form; the later family's looks); each row that meets fmt, with fmt's text TOLD by the authors' own Lean function (tested against real Go, not proved from fmt's source: count such statements apart). THE CARD IS WHAT COUNTS. Prove the row's statement (the work); the ties are given (YtkgefjjgjjmklaaDoorTie.lean); close each card by the builder's one call (the guide's Derived/Test/ToyasCard.lean, 'card_holds'). Laid BY PROGRAM, IN A SANDBOX (cutbox-door.mjs). By AI agents, Wed Nov 11 2026. No macro, syntax, notation, axiom, sorry.
-/
import Derived.Test.YtkgefjjgjjmklaaDoorRows
import GoSem.ClaimSeven
namespace Go.Proofs.YtkgefjjgjjmklaaDoor
namespace Rows

/-- THE TIED CARD OF 'laws.FnExactWayText'. -/
def fnExactWayTextCard : Claim7 := { stood := { row := fnExactWayTextRow, standIns := [], harness := (true, "c13c39f241c31cb3fd378efca962a583cb4db1854bad5d12aa11050c31b16e6a"), looks := true }, kinds := [], alts := [], laidByText := true, laidKinds := [.data, .pinned], laidTests := true, laidLooks := .later }
def FnExactWayTextCardSaid : Prop := Claim7.holds Tryd.pinned (.plain (OpenSpec.ofChange fnExactWayTextSpec)) fnExactWayTextCard

/-- THE TIED CARD OF 'laws.FnExactWayRead'. -/
def fnExactWayReadCard : Claim7 := { stood := { row := fnExactWayReadRow, standIns := [], harness := (true, "c13c39f241c31cb3fd378efca962a583cb4db1854bad5d12aa11050c31b16e6a"), looks := true }, kinds := [], alts := [], laidByText := true, laidKinds := [.data, .pinned], laidTests := true, laidLooks := .later }
def FnExactWayReadCardSaid : Prop := Claim7.holds Tryd.pinned (.plain (OpenSpec.ofChange fnExactWayReadSpec)) fnExactWayReadCard

/-- THE TIED CARD OF 'laws.FnExactQuote'. -/
def fnExactQuoteCard : Claim7 := { stood := { row := fnExactQuoteRow, standIns := [], harness := (true, "c13c39f241c31cb3fd378efca962a583cb4db1854bad5d12aa11050c31b16e6a"), looks := true }, kinds := [], alts := [], laidByText := true, laidKinds := [.data, .data, .data], laidTests := true, laidLooks := .later }
def FnExactQuoteCardSaid : Prop := Claim7.holds Tryd.pinned (.plain (OpenSpec.ofChange fnExactQuoteSpec)) fnExactQuoteCard

/-- THE TIED CARD OF 'laws.FnExactIndexOf'. -/
def fnExactIndexOfCard : Claim7 := { stood := { row := fnExactIndexOfRow, standIns := [], harness := (true, "c13c39f241c31cb3fd378efca962a583cb4db1854bad5d12aa11050c31b16e6a"), looks := true }, kinds := [], alts := [], laidByText := true, laidKinds := [.data, .data, .data, .sentinel, .sentinel], laidTests := true, laidLooks := .later }
def FnExactIndexOfCardSaid : Prop := Claim7.holds Tryd.pinned (.plain (OpenSpec.ofChange fnExactIndexOfSpec)) fnExactIndexOfCard

/-- THE TIED CARD OF 'laws.FnExactEncode'. -/
def fnExactEncodeCard : Claim7 := { stood := { row := fnExactEncodeRow, standIns := [], harness := (true, "c13c39f241c31cb3fd378efca962a583cb4db1854bad5d12aa11050c31b16e6a"), looks := true }, kinds := [], alts := [], laidByText := true, laidKinds := [.data, .data, .data], laidTests := true, laidLooks := .later }
def FnExactEncodeCardSaid : Prop := Claim7.holds Tryd.pinned (.plain (OpenSpec.ofChange fnExactEncodeSpec)) fnExactEncodeCard

/-- THE TIED CARD OF 'laws.FnExactOpJson'. -/
def fnExactOpJsonCard : Claim7 := { stood := { row := fnExactOpJsonRow, standIns := [], harness := (true, "c13c39f241c31cb3fd378efca962a583cb4db1854bad5d12aa11050c31b16e6a"), looks := true }, kinds := [], alts := [], laidByText := true, laidKinds := [.data, .pinned], laidTests := true, laidLooks := .later }
def FnExactOpJsonCardSaid : Prop := Claim7.holds Tryd.pinned (.plain (OpenSpec.ofChange fnExactOpJsonSpec)) fnExactOpJsonCard

/-- THE TIED CARD OF 'laws.FnExactGet'. -/
def fnExactGetCard : Claim7 := { stood := { row := fnExactGetRow, standIns := [], harness := (true, "c13c39f241c31cb3fd378efca962a583cb4db1854bad5d12aa11050c31b16e6a"), looks := true }, kinds := [], alts := [], laidByText := true, laidKinds := [.data, .data, .data, .sentinel, .sentinel], laidTests := true, laidLooks := .later }
def FnExactGetCardSaid : Prop := Claim7.holds Tryd.pinned (.plain (OpenSpec.ofChange fnExactGetSpec)) fnExactGetCard

/-- THE TIED CARD OF 'laws.FnExactOpRead'. -/
def fnExactOpReadCard : Claim7 := { stood := { row := fnExactOpReadRow, standIns := [], harness := (true, "c13c39f241c31cb3fd378efca962a583cb4db1854bad5d12aa11050c31b16e6a"), looks := true }, kinds := [], alts := [], laidByText := true, laidKinds := [.data, .pinned], laidTests := true, laidLooks := .later }
def FnExactOpReadCardSaid : Prop := Claim7.holds Tryd.pinned (.plain (OpenSpec.ofChange fnExactOpReadSpec)) fnExactOpReadCard

/-- THE TIED CARD OF 'laws.FnExactRows'. -/
def fnExactRowsCard : Claim7 := { stood := { row := fnExactRowsRow, standIns := [], harness := (true, "c13c39f241c31cb3fd378efca962a583cb4db1854bad5d12aa11050c31b16e6a"), looks := true }, kinds := [], alts := [], laidByText := true, laidKinds := [.data, .data, .data], laidTests := true, laidLooks := .later }
def FnExactRowsCardSaid : Prop := Claim7.holds Tryd.pinned (.plain (OpenSpec.ofChange fnExactRowsSpec)) fnExactRowsCard

/-- THE SECOND FORM's CARD OF 'laws.FnExactWayText'. -/
def fnExactWayTextUptoCard : Claim7 := { stood := { row := fnExactWayTextUptoRow, standIns := [], harness := (true, "c13c39f241c31cb3fd378efca962a583cb4db1854bad5d12aa11050c31b16e6a"), looks := true }, kinds := [], alts := [], laidByText := true, laidKinds := [.data, .pinned], laidTests := true, laidLooks := .later }
def FnExactWayTextUptoCardSaid : Prop := Claim7.holds Tryd.pinned (.plain (OpenSpec.upto fnExactWayTextSpec)) fnExactWayTextUptoCard

/-- THE SECOND FORM's CARD OF 'laws.FnExactWayRead'. -/
def fnExactWayReadUptoCard : Claim7 := { stood := { row := fnExactWayReadUptoRow, standIns := [], harness := (true, "c13c39f241c31cb3fd378efca962a583cb4db1854bad5d12aa11050c31b16e6a"), looks := true }, kinds := [], alts := [], laidByText := true, laidKinds := [.data, .pinned], laidTests := true, laidLooks := .later }
def FnExactWayReadUptoCardSaid : Prop := Claim7.holds Tryd.pinned (.plain (OpenSpec.upto fnExactWayReadSpec)) fnExactWayReadUptoCard

/-- THE SECOND FORM's CARD OF 'laws.FnExactQuote'. -/
def fnExactQuoteUptoCard : Claim7 := { stood := { row := fnExactQuoteUptoRow, standIns := [], harness := (true, "c13c39f241c31cb3fd378efca962a583cb4db1854bad5d12aa11050c31b16e6a"), looks := true }, kinds := [], alts := [], laidByText := true, laidKinds := [.data, .data, .data], laidTests := true, laidLooks := .later }
def FnExactQuoteUptoCardSaid : Prop := Claim7.holds Tryd.pinned (.plain (OpenSpec.upto fnExactQuoteSpec)) fnExactQuoteUptoCard

/-- THE SECOND FORM's CARD OF 'laws.FnExactIndexOf'. -/
def fnExactIndexOfUptoCard : Claim7 := { stood := { row := fnExactIndexOfUptoRow, standIns := [], harness := (true, "c13c39f241c31cb3fd378efca962a583cb4db1854bad5d12aa11050c31b16e6a"), looks := true }, kinds := [], alts := [], laidByText := true, laidKinds := [.data, .data, .data, .sentinel, .sentinel], laidTests := true, laidLooks := .later }
def FnExactIndexOfUptoCardSaid : Prop := Claim7.holds Tryd.pinned (.plain (OpenSpec.upto fnExactIndexOfSpec)) fnExactIndexOfUptoCard

/-- THE SECOND FORM's CARD OF 'laws.FnExactEncode'. -/
def fnExactEncodeUptoCard : Claim7 := { stood := { row := fnExactEncodeUptoRow, standIns := [], harness := (true, "c13c39f241c31cb3fd378efca962a583cb4db1854bad5d12aa11050c31b16e6a"), looks := true }, kinds := [], alts := [], laidByText := true, laidKinds := [.data, .data, .data], laidTests := true, laidLooks := .later }
def FnExactEncodeUptoCardSaid : Prop := Claim7.holds Tryd.pinned (.plain (OpenSpec.upto fnExactEncodeSpec)) fnExactEncodeUptoCard

/-- THE SECOND FORM's CARD OF 'laws.FnExactOpJson'. -/
def fnExactOpJsonUptoCard : Claim7 := { stood := { row := fnExactOpJsonUptoRow, standIns := [], harness := (true, "c13c39f241c31cb3fd378efca962a583cb4db1854bad5d12aa11050c31b16e6a"), looks := true }, kinds := [], alts := [], laidByText := true, laidKinds := [.data, .pinned], laidTests := true, laidLooks := .later }
def FnExactOpJsonUptoCardSaid : Prop := Claim7.holds Tryd.pinned (.plain (OpenSpec.upto fnExactOpJsonSpec)) fnExactOpJsonUptoCard

/-- THE SECOND FORM's CARD OF 'laws.FnExactGet'. -/
def fnExactGetUptoCard : Claim7 := { stood := { row := fnExactGetUptoRow, standIns := [], harness := (true, "c13c39f241c31cb3fd378efca962a583cb4db1854bad5d12aa11050c31b16e6a"), looks := true }, kinds := [], alts := [], laidByText := true, laidKinds := [.data, .data, .data, .sentinel, .sentinel], laidTests := true, laidLooks := .later }
def FnExactGetUptoCardSaid : Prop := Claim7.holds Tryd.pinned (.plain (OpenSpec.upto fnExactGetSpec)) fnExactGetUptoCard

/-- THE SECOND FORM's CARD OF 'laws.FnExactOpRead'. -/
def fnExactOpReadUptoCard : Claim7 := { stood := { row := fnExactOpReadUptoRow, standIns := [], harness := (true, "c13c39f241c31cb3fd378efca962a583cb4db1854bad5d12aa11050c31b16e6a"), looks := true }, kinds := [], alts := [], laidByText := true, laidKinds := [.data, .pinned], laidTests := true, laidLooks := .later }
def FnExactOpReadUptoCardSaid : Prop := Claim7.holds Tryd.pinned (.plain (OpenSpec.upto fnExactOpReadSpec)) fnExactOpReadUptoCard

/-- THE SECOND FORM's CARD OF 'laws.FnExactRows'. -/
def fnExactRowsUptoCard : Claim7 := { stood := { row := fnExactRowsUptoRow, standIns := [], harness := (true, "c13c39f241c31cb3fd378efca962a583cb4db1854bad5d12aa11050c31b16e6a"), looks := true }, kinds := [], alts := [], laidByText := true, laidKinds := [.data, .data, .data], laidTests := true, laidLooks := .later }
def FnExactRowsUptoCardSaid : Prop := Claim7.holds Tryd.pinned (.plain (OpenSpec.upto fnExactRowsSpec)) fnExactRowsUptoCard
end Rows
end Go.Proofs.YtkgefjjgjjmklaaDoor
