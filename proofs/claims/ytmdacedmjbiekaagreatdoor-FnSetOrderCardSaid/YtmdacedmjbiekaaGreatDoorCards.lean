/-
  DERIVED. GIVEN WITH THE SEED: THE CARDS: each row of YtmdacedmjbiekaaGreatDoorRows.lean that lists a variable, with what it lists TIED to the program's text (the seventh form; the later family's looks); each row that meets fmt, with fmt's text TOLD by the authors' own Lean function (tested against real Go, not proved from fmt's source: count such statements apart). THE CARD IS WHAT COUNTS. Prove the row's statement (the work); the ties are given (YtmdacedmjbiekaaGreatDoorTie.lean); close each card by the builder's one call (the guide's Derived/Test/ToyasCard.lean, 'card_holds'). Laid BY PROGRAM, IN A SANDBOX (cutbox-door.mjs). By AI agents, Wed Nov 11 2026. No macro, syntax, notation, axiom, sorry.
-/
import Derived.Test.YtmdacedmjbiekaaGreatDoorRows
import GoSem.ClaimSeven
namespace Go.Proofs.YtmdacedmjbiekaaGreatDoor
namespace Rows

/-- THE TIED CARD OF 'laws.FnExactSchemaUsed'. -/
def fnExactSchemaUsedCard : Claim7 := { stood := { row := fnExactSchemaUsedRow, standIns := [], harness := (true, "47ad158cc4e56074cccc2db6b36810c6de8e6f9bda462ee730d9cbeafbd767f6"), looks := false }, kinds := [], alts := [], laidByText := true, laidKinds := [.data, .pinned], laidTests := true, laidLooks := .later }
def FnExactSchemaUsedCardSaid : Prop := Claim7.holds Tryz.pinned (.plain (OpenSpec.ofChange fnExactSchemaUsedSpec)) fnExactSchemaUsedCard

/-- THE TIED CARD OF 'laws.FnSchemaField'. -/
def fnSchemaFieldCard : Claim7 := { stood := { row := fnSchemaFieldRow, standIns := [], harness := (true, "47ad158cc4e56074cccc2db6b36810c6de8e6f9bda462ee730d9cbeafbd767f6"), looks := false }, kinds := [], alts := [], laidByText := true, laidKinds := [.data, .pinned], laidTests := true, laidLooks := .later }
def FnSchemaFieldCardSaid : Prop := Claim7.holds Tryz.pinned (.plain (OpenSpec.ofChange fnSchemaFieldSpec)) fnSchemaFieldCard

/-- THE TIED CARD OF 'laws.FnSchemaUsed'. -/
def fnSchemaUsedCard : Claim7 := { stood := { row := fnSchemaUsedRow, standIns := [], harness := (true, "47ad158cc4e56074cccc2db6b36810c6de8e6f9bda462ee730d9cbeafbd767f6"), looks := false }, kinds := [], alts := [], laidByText := true, laidKinds := [.data, .pinned], laidTests := true, laidLooks := .later }
def FnSchemaUsedCardSaid : Prop := Claim7.holds Tryz.pinned (.plain (OpenSpec.ofChange fnSchemaUsedSpec)) fnSchemaUsedCard

/-- THE TIED CARD OF 'laws.FnExactValueOk'. -/
def fnExactValueOkCard : Claim7 := { stood := { row := fnExactValueOkRow, standIns := [], harness := (true, "47ad158cc4e56074cccc2db6b36810c6de8e6f9bda462ee730d9cbeafbd767f6"), looks := false }, kinds := [], alts := [], laidByText := true, laidKinds := [.data, .pinned], laidTests := true, laidLooks := .later }
def FnExactValueOkCardSaid : Prop := Claim7.holds Tryz.pinned (.plain (OpenSpec.ofChange fnExactValueOkSpec)) fnExactValueOkCard

/-- THE TIED CARD OF 'laws.FnExactValueDeep'. -/
def fnExactValueDeepCard : Claim7 := { stood := { row := fnExactValueDeepRow, standIns := [], harness := (true, "47ad158cc4e56074cccc2db6b36810c6de8e6f9bda462ee730d9cbeafbd767f6"), looks := false }, kinds := [], alts := [], laidByText := true, laidKinds := [.data, .pinned], laidTests := true, laidLooks := .later }
def FnExactValueDeepCardSaid : Prop := Claim7.holds Tryz.pinned (.plain (OpenSpec.ofChange fnExactValueDeepSpec)) fnExactValueDeepCard

/-- THE TIED CARD OF 'laws.FnExactValueField'. -/
def fnExactValueFieldCard : Claim7 := { stood := { row := fnExactValueFieldRow, standIns := [], harness := (true, "47ad158cc4e56074cccc2db6b36810c6de8e6f9bda462ee730d9cbeafbd767f6"), looks := false }, kinds := [], alts := [], laidByText := true, laidKinds := [.data, .pinned], laidTests := true, laidLooks := .later }
def FnExactValueFieldCardSaid : Prop := Claim7.holds Tryz.pinned (.plain (OpenSpec.ofChange fnExactValueFieldSpec)) fnExactValueFieldCard

/-- THE TIED CARD OF 'laws.FnExactValueSet'. -/
def fnExactValueSetCard : Claim7 := { stood := { row := fnExactValueSetRow, standIns := [], harness := (true, "47ad158cc4e56074cccc2db6b36810c6de8e6f9bda462ee730d9cbeafbd767f6"), looks := false }, kinds := [], alts := [], laidByText := true, laidKinds := [.data, .pinned], laidTests := true, laidLooks := .later }
def FnExactValueSetCardSaid : Prop := Claim7.holds Tryz.pinned (.plain (OpenSpec.ofChange fnExactValueSetSpec)) fnExactValueSetCard

/-- THE TIED CARD OF 'laws.FnValueDeep'. -/
def fnValueDeepCard : Claim7 := { stood := { row := fnValueDeepRow, standIns := [], harness := (true, "47ad158cc4e56074cccc2db6b36810c6de8e6f9bda462ee730d9cbeafbd767f6"), looks := false }, kinds := [], alts := [], laidByText := true, laidKinds := [.data, .pinned], laidTests := true, laidLooks := .later }
def FnValueDeepCardSaid : Prop := Claim7.holds Tryz.pinned (.plain (OpenSpec.ofChange fnValueDeepSpec)) fnValueDeepCard

/-- THE TIED CARD OF 'laws.FnValueField'. -/
def fnValueFieldCard : Claim7 := { stood := { row := fnValueFieldRow, standIns := [], harness := (true, "47ad158cc4e56074cccc2db6b36810c6de8e6f9bda462ee730d9cbeafbd767f6"), looks := false }, kinds := [], alts := [], laidByText := true, laidKinds := [.data, .pinned], laidTests := true, laidLooks := .later }
def FnValueFieldCardSaid : Prop := Claim7.holds Tryz.pinned (.plain (OpenSpec.ofChange fnValueFieldSpec)) fnValueFieldCard

/-- THE TIED CARD OF 'laws.FnSetOrder'. -/
def fnSetOrderCard : Claim7 := { stood := { row := fnSetOrderRow, standIns := [], harness := (true, "47ad158cc4e56074cccc2db6b36810c6de8e6f9bda462ee730d9cbeafbd767f6"), looks := false }, kinds := [], alts := [], laidByText := true, laidKinds := [.data, .pinned], laidTests := true, laidLooks := .later }
def FnSetOrderCardSaid : Prop := Claim7.holds Tryz.pinned (.plain (OpenSpec.ofChange fnSetOrderSpec)) fnSetOrderCard

/-- THE TIED CARD OF 'laws.FnValueSet'. -/
def fnValueSetCard : Claim7 := { stood := { row := fnValueSetRow, standIns := [], harness := (true, "47ad158cc4e56074cccc2db6b36810c6de8e6f9bda462ee730d9cbeafbd767f6"), looks := false }, kinds := [], alts := [], laidByText := true, laidKinds := [.data, .pinned], laidTests := true, laidLooks := .later }
def FnValueSetCardSaid : Prop := Claim7.holds Tryz.pinned (.plain (OpenSpec.ofChange fnValueSetSpec)) fnValueSetCard

/-- THE SECOND FORM's CARD OF 'laws.FnExactSchemaUsed'. -/
def fnExactSchemaUsedUptoCard : Claim7 := { stood := { row := fnExactSchemaUsedUptoRow, standIns := [], harness := (true, "47ad158cc4e56074cccc2db6b36810c6de8e6f9bda462ee730d9cbeafbd767f6"), looks := false }, kinds := [], alts := [], laidByText := true, laidKinds := [.data, .pinned], laidTests := true, laidLooks := .later }
def FnExactSchemaUsedUptoCardSaid : Prop := Claim7.holds Tryz.pinned (.plain (OpenSpec.upto fnExactSchemaUsedSpec)) fnExactSchemaUsedUptoCard

/-- THE SECOND FORM's CARD OF 'laws.FnSchemaField'. -/
def fnSchemaFieldUptoCard : Claim7 := { stood := { row := fnSchemaFieldUptoRow, standIns := [], harness := (true, "47ad158cc4e56074cccc2db6b36810c6de8e6f9bda462ee730d9cbeafbd767f6"), looks := false }, kinds := [], alts := [], laidByText := true, laidKinds := [.data, .pinned], laidTests := true, laidLooks := .later }
def FnSchemaFieldUptoCardSaid : Prop := Claim7.holds Tryz.pinned (.plain (OpenSpec.upto fnSchemaFieldSpec)) fnSchemaFieldUptoCard

/-- THE SECOND FORM's CARD OF 'laws.FnSchemaUsed'. -/
def fnSchemaUsedUptoCard : Claim7 := { stood := { row := fnSchemaUsedUptoRow, standIns := [], harness := (true, "47ad158cc4e56074cccc2db6b36810c6de8e6f9bda462ee730d9cbeafbd767f6"), looks := false }, kinds := [], alts := [], laidByText := true, laidKinds := [.data, .pinned], laidTests := true, laidLooks := .later }
def FnSchemaUsedUptoCardSaid : Prop := Claim7.holds Tryz.pinned (.plain (OpenSpec.upto fnSchemaUsedSpec)) fnSchemaUsedUptoCard

/-- THE SECOND FORM's CARD OF 'laws.FnExactValueOk'. -/
def fnExactValueOkUptoCard : Claim7 := { stood := { row := fnExactValueOkUptoRow, standIns := [], harness := (true, "47ad158cc4e56074cccc2db6b36810c6de8e6f9bda462ee730d9cbeafbd767f6"), looks := false }, kinds := [], alts := [], laidByText := true, laidKinds := [.data, .pinned], laidTests := true, laidLooks := .later }
def FnExactValueOkUptoCardSaid : Prop := Claim7.holds Tryz.pinned (.plain (OpenSpec.upto fnExactValueOkSpec)) fnExactValueOkUptoCard

/-- THE SECOND FORM's CARD OF 'laws.FnExactValueDeep'. -/
def fnExactValueDeepUptoCard : Claim7 := { stood := { row := fnExactValueDeepUptoRow, standIns := [], harness := (true, "47ad158cc4e56074cccc2db6b36810c6de8e6f9bda462ee730d9cbeafbd767f6"), looks := false }, kinds := [], alts := [], laidByText := true, laidKinds := [.data, .pinned], laidTests := true, laidLooks := .later }
def FnExactValueDeepUptoCardSaid : Prop := Claim7.holds Tryz.pinned (.plain (OpenSpec.upto fnExactValueDeepSpec)) fnExactValueDeepUptoCard

/-- THE SECOND FORM's CARD OF 'laws.FnExactValueField'. -/
def fnExactValueFieldUptoCard : Claim7 := { stood := { row := fnExactValueFieldUptoRow, standIns := [], harness := (true, "47ad158cc4e56074cccc2db6b36810c6de8e6f9bda462ee730d9cbeafbd767f6"), looks := false }, kinds := [], alts := [], laidByText := true, laidKinds := [.data, .pinned], laidTests := true, laidLooks := .later }
def FnExactValueFieldUptoCardSaid : Prop := Claim7.holds Tryz.pinned (.plain (OpenSpec.upto fnExactValueFieldSpec)) fnExactValueFieldUptoCard

/-- THE SECOND FORM's CARD OF 'laws.FnExactValueSet'. -/
def fnExactValueSetUptoCard : Claim7 := { stood := { row := fnExactValueSetUptoRow, standIns := [], harness := (true, "47ad158cc4e56074cccc2db6b36810c6de8e6f9bda462ee730d9cbeafbd767f6"), looks := false }, kinds := [], alts := [], laidByText := true, laidKinds := [.data, .pinned], laidTests := true, laidLooks := .later }
def FnExactValueSetUptoCardSaid : Prop := Claim7.holds Tryz.pinned (.plain (OpenSpec.upto fnExactValueSetSpec)) fnExactValueSetUptoCard

/-- THE SECOND FORM's CARD OF 'laws.FnValueDeep'. -/
def fnValueDeepUptoCard : Claim7 := { stood := { row := fnValueDeepUptoRow, standIns := [], harness := (true, "47ad158cc4e56074cccc2db6b36810c6de8e6f9bda462ee730d9cbeafbd767f6"), looks := false }, kinds := [], alts := [], laidByText := true, laidKinds := [.data, .pinned], laidTests := true, laidLooks := .later }
def FnValueDeepUptoCardSaid : Prop := Claim7.holds Tryz.pinned (.plain (OpenSpec.upto fnValueDeepSpec)) fnValueDeepUptoCard

/-- THE SECOND FORM's CARD OF 'laws.FnValueField'. -/
def fnValueFieldUptoCard : Claim7 := { stood := { row := fnValueFieldUptoRow, standIns := [], harness := (true, "47ad158cc4e56074cccc2db6b36810c6de8e6f9bda462ee730d9cbeafbd767f6"), looks := false }, kinds := [], alts := [], laidByText := true, laidKinds := [.data, .pinned], laidTests := true, laidLooks := .later }
def FnValueFieldUptoCardSaid : Prop := Claim7.holds Tryz.pinned (.plain (OpenSpec.upto fnValueFieldSpec)) fnValueFieldUptoCard

/-- THE SECOND FORM's CARD OF 'laws.FnSetOrder'. -/
def fnSetOrderUptoCard : Claim7 := { stood := { row := fnSetOrderUptoRow, standIns := [], harness := (true, "47ad158cc4e56074cccc2db6b36810c6de8e6f9bda462ee730d9cbeafbd767f6"), looks := false }, kinds := [], alts := [], laidByText := true, laidKinds := [.data, .pinned], laidTests := true, laidLooks := .later }
def FnSetOrderUptoCardSaid : Prop := Claim7.holds Tryz.pinned (.plain (OpenSpec.upto fnSetOrderSpec)) fnSetOrderUptoCard

/-- THE SECOND FORM's CARD OF 'laws.FnValueSet'. -/
def fnValueSetUptoCard : Claim7 := { stood := { row := fnValueSetUptoRow, standIns := [], harness := (true, "47ad158cc4e56074cccc2db6b36810c6de8e6f9bda462ee730d9cbeafbd767f6"), looks := false }, kinds := [], alts := [], laidByText := true, laidKinds := [.data, .pinned], laidTests := true, laidLooks := .later }
def FnValueSetUptoCardSaid : Prop := Claim7.holds Tryz.pinned (.plain (OpenSpec.upto fnValueSetSpec)) fnValueSetUptoCard
end Rows
end Go.Proofs.YtmdacedmjbiekaaGreatDoor
