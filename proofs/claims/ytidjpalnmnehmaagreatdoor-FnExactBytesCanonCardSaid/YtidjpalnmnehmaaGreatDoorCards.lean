/-
  DERIVED. GIVEN WITH THE SEED: THE CARDS: each row of YtidjpalnmnehmaaGreatDoorRows.lean that lists a variable, with what it lists TIED to the program's text (the seventh form; the later family's looks); each row that meets fmt, with fmt's text TOLD by the authors' own Lean function (tested against real Go, not proved from fmt's source: count such statements apart). THE CARD IS WHAT COUNTS. Prove the row's statement (the work); the ties are given (YtidjpalnmnehmaaGreatDoorTie.lean); close each card by the builder's one call (the guide's Derived/Test/ToyasCard.lean, 'card_holds'). Laid BY PROGRAM, IN A SANDBOX (cutbox-door.mjs). By AI agents, Wed Nov 11 2026. No macro, syntax, notation, axiom, sorry.
-/
import Derived.Test.YtidjpalnmnehmaaGreatDoorRows
import GoSem.ClaimSeven
namespace Go.Proofs.YtidjpalnmnehmaaGreatDoor
namespace Rows

/-- THE TIED CARD OF 'laws.FnBytesPut'. -/
def fnBytesPutCard : Claim7 := { stood := { row := fnBytesPutRow, standIns := [], harness := (true, "4754a3d95c2b3c323aade8dc0df78fdc3fd6590f9ec4584359b3cb34938727ea"), looks := false }, kinds := [], alts := [], laidByText := true, laidKinds := [.data, .pinned], laidTests := true, laidLooks := .later }
def FnBytesPutCardSaid : Prop := Claim7.holds Tryz.pinned (.plain (OpenSpec.ofChange fnBytesPutSpec)) fnBytesPutCard

/-- THE TIED CARD OF 'laws.FnBytesUnknown'. -/
def fnBytesUnknownCard : Claim7 := { stood := { row := fnBytesUnknownRow, standIns := [], harness := (true, "4754a3d95c2b3c323aade8dc0df78fdc3fd6590f9ec4584359b3cb34938727ea"), looks := false }, kinds := [], alts := [], laidByText := true, laidKinds := [.data, .pinned], laidTests := true, laidLooks := .later }
def FnBytesUnknownCardSaid : Prop := Claim7.holds Tryz.pinned (.plain (OpenSpec.ofChange fnBytesUnknownSpec)) fnBytesUnknownCard

/-- THE TIED CARD OF 'laws.FnExactBytesPut'. -/
def fnExactBytesPutCard : Claim7 := { stood := { row := fnExactBytesPutRow, standIns := [], harness := (true, "4754a3d95c2b3c323aade8dc0df78fdc3fd6590f9ec4584359b3cb34938727ea"), looks := false }, kinds := [], alts := [], laidByText := true, laidKinds := [.data, .pinned], laidTests := true, laidLooks := .later }
def FnExactBytesPutCardSaid : Prop := Claim7.holds Tryz.pinned (.plain (OpenSpec.ofChange fnExactBytesPutSpec)) fnExactBytesPutCard

/-- THE TIED CARD OF 'laws.FnBytesOne'. -/
def fnBytesOneCard : Claim7 := { stood := { row := fnBytesOneRow, standIns := [], harness := (true, "4754a3d95c2b3c323aade8dc0df78fdc3fd6590f9ec4584359b3cb34938727ea"), looks := false }, kinds := [], alts := [], laidByText := true, laidKinds := [.data, .pinned], laidTests := true, laidLooks := .later }
def FnBytesOneCardSaid : Prop := Claim7.holds Tryz.pinned (.plain (OpenSpec.ofChange fnBytesOneSpec)) fnBytesOneCard

/-- THE TIED CARD OF 'laws.FnBytesPart'. -/
def fnBytesPartCard : Claim7 := { stood := { row := fnBytesPartRow, standIns := [], harness := (true, "4754a3d95c2b3c323aade8dc0df78fdc3fd6590f9ec4584359b3cb34938727ea"), looks := false }, kinds := [], alts := [], laidByText := true, laidKinds := [.data, .pinned], laidTests := true, laidLooks := .later }
def FnBytesPartCardSaid : Prop := Claim7.holds Tryz.pinned (.plain (OpenSpec.ofChange fnBytesPartSpec)) fnBytesPartCard

/-- THE TIED CARD OF 'laws.FnExactBytesCanon'. -/
def fnExactBytesCanonCard : Claim7 := { stood := { row := fnExactBytesCanonRow, standIns := [], harness := (true, "4754a3d95c2b3c323aade8dc0df78fdc3fd6590f9ec4584359b3cb34938727ea"), looks := false }, kinds := [], alts := [], laidByText := true, laidKinds := [.data, .pinned], laidTests := true, laidLooks := .later }
def FnExactBytesCanonCardSaid : Prop := Claim7.holds Tryz.pinned (.plain (OpenSpec.ofChange fnExactBytesCanonSpec)) fnExactBytesCanonCard

/-- THE TIED CARD OF 'laws.FnBytesPrefix'. -/
def fnBytesPrefixCard : Claim7 := { stood := { row := fnBytesPrefixRow, standIns := [], harness := (true, "4754a3d95c2b3c323aade8dc0df78fdc3fd6590f9ec4584359b3cb34938727ea"), looks := false }, kinds := [], alts := [], laidByText := true, laidKinds := [.data, .pinned], laidTests := true, laidLooks := .later }
def FnBytesPrefixCardSaid : Prop := Claim7.holds Tryz.pinned (.plain (OpenSpec.ofChange fnBytesPrefixSpec)) fnBytesPrefixCard

/-- THE SECOND FORM's CARD OF 'laws.FnBytesPut'. -/
def fnBytesPutUptoCard : Claim7 := { stood := { row := fnBytesPutUptoRow, standIns := [], harness := (true, "4754a3d95c2b3c323aade8dc0df78fdc3fd6590f9ec4584359b3cb34938727ea"), looks := false }, kinds := [], alts := [], laidByText := true, laidKinds := [.data, .pinned], laidTests := true, laidLooks := .later }
def FnBytesPutUptoCardSaid : Prop := Claim7.holds Tryz.pinned (.plain (OpenSpec.upto fnBytesPutSpec)) fnBytesPutUptoCard

/-- THE SECOND FORM's CARD OF 'laws.FnBytesUnknown'. -/
def fnBytesUnknownUptoCard : Claim7 := { stood := { row := fnBytesUnknownUptoRow, standIns := [], harness := (true, "4754a3d95c2b3c323aade8dc0df78fdc3fd6590f9ec4584359b3cb34938727ea"), looks := false }, kinds := [], alts := [], laidByText := true, laidKinds := [.data, .pinned], laidTests := true, laidLooks := .later }
def FnBytesUnknownUptoCardSaid : Prop := Claim7.holds Tryz.pinned (.plain (OpenSpec.upto fnBytesUnknownSpec)) fnBytesUnknownUptoCard

/-- THE SECOND FORM's CARD OF 'laws.FnExactBytesPut'. -/
def fnExactBytesPutUptoCard : Claim7 := { stood := { row := fnExactBytesPutUptoRow, standIns := [], harness := (true, "4754a3d95c2b3c323aade8dc0df78fdc3fd6590f9ec4584359b3cb34938727ea"), looks := false }, kinds := [], alts := [], laidByText := true, laidKinds := [.data, .pinned], laidTests := true, laidLooks := .later }
def FnExactBytesPutUptoCardSaid : Prop := Claim7.holds Tryz.pinned (.plain (OpenSpec.upto fnExactBytesPutSpec)) fnExactBytesPutUptoCard

/-- THE SECOND FORM's CARD OF 'laws.FnBytesOne'. -/
def fnBytesOneUptoCard : Claim7 := { stood := { row := fnBytesOneUptoRow, standIns := [], harness := (true, "4754a3d95c2b3c323aade8dc0df78fdc3fd6590f9ec4584359b3cb34938727ea"), looks := false }, kinds := [], alts := [], laidByText := true, laidKinds := [.data, .pinned], laidTests := true, laidLooks := .later }
def FnBytesOneUptoCardSaid : Prop := Claim7.holds Tryz.pinned (.plain (OpenSpec.upto fnBytesOneSpec)) fnBytesOneUptoCard

/-- THE SECOND FORM's CARD OF 'laws.FnBytesPart'. -/
def fnBytesPartUptoCard : Claim7 := { stood := { row := fnBytesPartUptoRow, standIns := [], harness := (true, "4754a3d95c2b3c323aade8dc0df78fdc3fd6590f9ec4584359b3cb34938727ea"), looks := false }, kinds := [], alts := [], laidByText := true, laidKinds := [.data, .pinned], laidTests := true, laidLooks := .later }
def FnBytesPartUptoCardSaid : Prop := Claim7.holds Tryz.pinned (.plain (OpenSpec.upto fnBytesPartSpec)) fnBytesPartUptoCard

/-- THE SECOND FORM's CARD OF 'laws.FnExactBytesCanon'. -/
def fnExactBytesCanonUptoCard : Claim7 := { stood := { row := fnExactBytesCanonUptoRow, standIns := [], harness := (true, "4754a3d95c2b3c323aade8dc0df78fdc3fd6590f9ec4584359b3cb34938727ea"), looks := false }, kinds := [], alts := [], laidByText := true, laidKinds := [.data, .pinned], laidTests := true, laidLooks := .later }
def FnExactBytesCanonUptoCardSaid : Prop := Claim7.holds Tryz.pinned (.plain (OpenSpec.upto fnExactBytesCanonSpec)) fnExactBytesCanonUptoCard

/-- THE SECOND FORM's CARD OF 'laws.FnBytesPrefix'. -/
def fnBytesPrefixUptoCard : Claim7 := { stood := { row := fnBytesPrefixUptoRow, standIns := [], harness := (true, "4754a3d95c2b3c323aade8dc0df78fdc3fd6590f9ec4584359b3cb34938727ea"), looks := false }, kinds := [], alts := [], laidByText := true, laidKinds := [.data, .pinned], laidTests := true, laidLooks := .later }
def FnBytesPrefixUptoCardSaid : Prop := Claim7.holds Tryz.pinned (.plain (OpenSpec.upto fnBytesPrefixSpec)) fnBytesPrefixUptoCard
end Rows
end Go.Proofs.YtidjpalnmnehmaaGreatDoor
