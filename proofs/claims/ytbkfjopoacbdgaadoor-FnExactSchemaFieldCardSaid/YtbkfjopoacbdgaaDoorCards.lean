/-
  DERIVED. GIVEN WITH THE SEED: THE CARDS: each row of YtbkfjopoacbdgaaDoorRows.lean that lists a variable, with what it lists TIED to the program's text (the seventh form; the later family's looks); each row that meets fmt, with fmt's text TOLD by the authors' own Lean function (tested against real Go, not proved from fmt's source: count such statements apart). THE CARD IS WHAT COUNTS. Prove the row's statement (the work); the ties are given (YtbkfjopoacbdgaaDoorTie.lean); close each card by the builder's one call (the guide's Derived/Test/ToyasCard.lean, 'card_holds'). Laid BY PROGRAM, IN A SANDBOX (cutbox-door.mjs). By AI agents, Wed Nov 11 2026. No macro, syntax, notation, axiom, sorry.
-/
import Derived.Test.YtbkfjopoacbdgaaDoorRows
import GoSem.ClaimSeven
namespace Go.Proofs.YtbkfjopoacbdgaaDoor
namespace Rows

/-- THE TIED CARD OF 'laws.FnExactSchemaOk'. -/
def fnExactSchemaOkCard : Claim7 := { stood := { row := fnExactSchemaOkRow, standIns := [], harness := (true, "6991a6353e223e83128919832f7e82977ed5a63f2a4ecc9f8dafd071bb58333d"), looks := false }, kinds := [], alts := [], laidByText := true, laidKinds := [.data, .pinned], laidTests := true, laidLooks := .later }
def FnExactSchemaOkCardSaid : Prop := Claim7.holds Tryd.pinned (.plain (OpenSpec.ofChange fnExactSchemaOkSpec)) fnExactSchemaOkCard

/-- THE TIED CARD OF 'laws.FnExactSchemaSort'. -/
def fnExactSchemaSortCard : Claim7 := { stood := { row := fnExactSchemaSortRow, standIns := [], harness := (true, "6991a6353e223e83128919832f7e82977ed5a63f2a4ecc9f8dafd071bb58333d"), looks := false }, kinds := [], alts := [], laidByText := true, laidKinds := [.data, .pinned], laidTests := true, laidLooks := .later }
def FnExactSchemaSortCardSaid : Prop := Claim7.holds Tryd.pinned (.plain (OpenSpec.ofChange fnExactSchemaSortSpec)) fnExactSchemaSortCard

/-- THE TIED CARD OF 'laws.FnExactSchemaTypes'. -/
def fnExactSchemaTypesCard : Claim7 := { stood := { row := fnExactSchemaTypesRow, standIns := [], harness := (true, "6991a6353e223e83128919832f7e82977ed5a63f2a4ecc9f8dafd071bb58333d"), looks := false }, kinds := [], alts := [], laidByText := true, laidKinds := [.data, .pinned], laidTests := true, laidLooks := .later }
def FnExactSchemaTypesCardSaid : Prop := Claim7.holds Tryd.pinned (.plain (OpenSpec.ofChange fnExactSchemaTypesSpec)) fnExactSchemaTypesCard

/-- THE TIED CARD OF 'laws.FnExactSchemaTags'. -/
def fnExactSchemaTagsCard : Claim7 := { stood := { row := fnExactSchemaTagsRow, standIns := [], harness := (true, "6991a6353e223e83128919832f7e82977ed5a63f2a4ecc9f8dafd071bb58333d"), looks := false }, kinds := [], alts := [], laidByText := true, laidKinds := [.data, .pinned], laidTests := true, laidLooks := .later }
def FnExactSchemaTagsCardSaid : Prop := Claim7.holds Tryd.pinned (.plain (OpenSpec.ofChange fnExactSchemaTagsSpec)) fnExactSchemaTagsCard

/-- THE TIED CARD OF 'laws.FnExactSchemaStands'. -/
def fnExactSchemaStandsCard : Claim7 := { stood := { row := fnExactSchemaStandsRow, standIns := [], harness := (true, "6991a6353e223e83128919832f7e82977ed5a63f2a4ecc9f8dafd071bb58333d"), looks := false }, kinds := [], alts := [], laidByText := true, laidKinds := [.data, .pinned], laidTests := true, laidLooks := .later }
def FnExactSchemaStandsCardSaid : Prop := Claim7.holds Tryd.pinned (.plain (OpenSpec.ofChange fnExactSchemaStandsSpec)) fnExactSchemaStandsCard

/-- THE TIED CARD OF 'laws.FnSchemaOk'. -/
def fnSchemaOkCard : Claim7 := { stood := { row := fnSchemaOkRow, standIns := [], harness := (true, "6991a6353e223e83128919832f7e82977ed5a63f2a4ecc9f8dafd071bb58333d"), looks := false }, kinds := [], alts := [], laidByText := true, laidKinds := [.data, .pinned], laidTests := true, laidLooks := .later }
def FnSchemaOkCardSaid : Prop := Claim7.holds Tryd.pinned (.plain (OpenSpec.ofChange fnSchemaOkSpec)) fnSchemaOkCard

/-- THE TIED CARD OF 'laws.FnSchemaSort'. -/
def fnSchemaSortCard : Claim7 := { stood := { row := fnSchemaSortRow, standIns := [], harness := (true, "6991a6353e223e83128919832f7e82977ed5a63f2a4ecc9f8dafd071bb58333d"), looks := false }, kinds := [], alts := [], laidByText := true, laidKinds := [.data, .pinned], laidTests := true, laidLooks := .later }
def FnSchemaSortCardSaid : Prop := Claim7.holds Tryd.pinned (.plain (OpenSpec.ofChange fnSchemaSortSpec)) fnSchemaSortCard

/-- THE TIED CARD OF 'laws.FnSchemaTypes'. -/
def fnSchemaTypesCard : Claim7 := { stood := { row := fnSchemaTypesRow, standIns := [], harness := (true, "6991a6353e223e83128919832f7e82977ed5a63f2a4ecc9f8dafd071bb58333d"), looks := false }, kinds := [], alts := [], laidByText := true, laidKinds := [.data, .pinned], laidTests := true, laidLooks := .later }
def FnSchemaTypesCardSaid : Prop := Claim7.holds Tryd.pinned (.plain (OpenSpec.ofChange fnSchemaTypesSpec)) fnSchemaTypesCard

/-- THE TIED CARD OF 'laws.FnExactSchemaField'. -/
def fnExactSchemaFieldCard : Claim7 := { stood := { row := fnExactSchemaFieldRow, standIns := [], harness := (true, "6991a6353e223e83128919832f7e82977ed5a63f2a4ecc9f8dafd071bb58333d"), looks := false }, kinds := [], alts := [], laidByText := true, laidKinds := [.data, .pinned], laidTests := true, laidLooks := .later }
def FnExactSchemaFieldCardSaid : Prop := Claim7.holds Tryd.pinned (.plain (OpenSpec.ofChange fnExactSchemaFieldSpec)) fnExactSchemaFieldCard

/-- THE TIED CARD OF 'laws.FnSchemaTags'. -/
def fnSchemaTagsCard : Claim7 := { stood := { row := fnSchemaTagsRow, standIns := [], harness := (true, "6991a6353e223e83128919832f7e82977ed5a63f2a4ecc9f8dafd071bb58333d"), looks := false }, kinds := [], alts := [], laidByText := true, laidKinds := [.data, .pinned], laidTests := true, laidLooks := .later }
def FnSchemaTagsCardSaid : Prop := Claim7.holds Tryd.pinned (.plain (OpenSpec.ofChange fnSchemaTagsSpec)) fnSchemaTagsCard

/-- THE SECOND FORM's CARD OF 'laws.FnExactSchemaOk'. -/
def fnExactSchemaOkUptoCard : Claim7 := { stood := { row := fnExactSchemaOkUptoRow, standIns := [], harness := (true, "6991a6353e223e83128919832f7e82977ed5a63f2a4ecc9f8dafd071bb58333d"), looks := false }, kinds := [], alts := [], laidByText := true, laidKinds := [.data, .pinned], laidTests := true, laidLooks := .later }
def FnExactSchemaOkUptoCardSaid : Prop := Claim7.holds Tryd.pinned (.plain (OpenSpec.upto fnExactSchemaOkSpec)) fnExactSchemaOkUptoCard

/-- THE SECOND FORM's CARD OF 'laws.FnExactSchemaSort'. -/
def fnExactSchemaSortUptoCard : Claim7 := { stood := { row := fnExactSchemaSortUptoRow, standIns := [], harness := (true, "6991a6353e223e83128919832f7e82977ed5a63f2a4ecc9f8dafd071bb58333d"), looks := false }, kinds := [], alts := [], laidByText := true, laidKinds := [.data, .pinned], laidTests := true, laidLooks := .later }
def FnExactSchemaSortUptoCardSaid : Prop := Claim7.holds Tryd.pinned (.plain (OpenSpec.upto fnExactSchemaSortSpec)) fnExactSchemaSortUptoCard

/-- THE SECOND FORM's CARD OF 'laws.FnExactSchemaTypes'. -/
def fnExactSchemaTypesUptoCard : Claim7 := { stood := { row := fnExactSchemaTypesUptoRow, standIns := [], harness := (true, "6991a6353e223e83128919832f7e82977ed5a63f2a4ecc9f8dafd071bb58333d"), looks := false }, kinds := [], alts := [], laidByText := true, laidKinds := [.data, .pinned], laidTests := true, laidLooks := .later }
def FnExactSchemaTypesUptoCardSaid : Prop := Claim7.holds Tryd.pinned (.plain (OpenSpec.upto fnExactSchemaTypesSpec)) fnExactSchemaTypesUptoCard

/-- THE SECOND FORM's CARD OF 'laws.FnExactSchemaTags'. -/
def fnExactSchemaTagsUptoCard : Claim7 := { stood := { row := fnExactSchemaTagsUptoRow, standIns := [], harness := (true, "6991a6353e223e83128919832f7e82977ed5a63f2a4ecc9f8dafd071bb58333d"), looks := false }, kinds := [], alts := [], laidByText := true, laidKinds := [.data, .pinned], laidTests := true, laidLooks := .later }
def FnExactSchemaTagsUptoCardSaid : Prop := Claim7.holds Tryd.pinned (.plain (OpenSpec.upto fnExactSchemaTagsSpec)) fnExactSchemaTagsUptoCard

/-- THE SECOND FORM's CARD OF 'laws.FnExactSchemaStands'. -/
def fnExactSchemaStandsUptoCard : Claim7 := { stood := { row := fnExactSchemaStandsUptoRow, standIns := [], harness := (true, "6991a6353e223e83128919832f7e82977ed5a63f2a4ecc9f8dafd071bb58333d"), looks := false }, kinds := [], alts := [], laidByText := true, laidKinds := [.data, .pinned], laidTests := true, laidLooks := .later }
def FnExactSchemaStandsUptoCardSaid : Prop := Claim7.holds Tryd.pinned (.plain (OpenSpec.upto fnExactSchemaStandsSpec)) fnExactSchemaStandsUptoCard

/-- THE SECOND FORM's CARD OF 'laws.FnSchemaOk'. -/
def fnSchemaOkUptoCard : Claim7 := { stood := { row := fnSchemaOkUptoRow, standIns := [], harness := (true, "6991a6353e223e83128919832f7e82977ed5a63f2a4ecc9f8dafd071bb58333d"), looks := false }, kinds := [], alts := [], laidByText := true, laidKinds := [.data, .pinned], laidTests := true, laidLooks := .later }
def FnSchemaOkUptoCardSaid : Prop := Claim7.holds Tryd.pinned (.plain (OpenSpec.upto fnSchemaOkSpec)) fnSchemaOkUptoCard

/-- THE SECOND FORM's CARD OF 'laws.FnSchemaSort'. -/
def fnSchemaSortUptoCard : Claim7 := { stood := { row := fnSchemaSortUptoRow, standIns := [], harness := (true, "6991a6353e223e83128919832f7e82977ed5a63f2a4ecc9f8dafd071bb58333d"), looks := false }, kinds := [], alts := [], laidByText := true, laidKinds := [.data, .pinned], laidTests := true, laidLooks := .later }
def FnSchemaSortUptoCardSaid : Prop := Claim7.holds Tryd.pinned (.plain (OpenSpec.upto fnSchemaSortSpec)) fnSchemaSortUptoCard

/-- THE SECOND FORM's CARD OF 'laws.FnSchemaTypes'. -/
def fnSchemaTypesUptoCard : Claim7 := { stood := { row := fnSchemaTypesUptoRow, standIns := [], harness := (true, "6991a6353e223e83128919832f7e82977ed5a63f2a4ecc9f8dafd071bb58333d"), looks := false }, kinds := [], alts := [], laidByText := true, laidKinds := [.data, .pinned], laidTests := true, laidLooks := .later }
def FnSchemaTypesUptoCardSaid : Prop := Claim7.holds Tryd.pinned (.plain (OpenSpec.upto fnSchemaTypesSpec)) fnSchemaTypesUptoCard

/-- THE SECOND FORM's CARD OF 'laws.FnExactSchemaField'. -/
def fnExactSchemaFieldUptoCard : Claim7 := { stood := { row := fnExactSchemaFieldUptoRow, standIns := [], harness := (true, "6991a6353e223e83128919832f7e82977ed5a63f2a4ecc9f8dafd071bb58333d"), looks := false }, kinds := [], alts := [], laidByText := true, laidKinds := [.data, .pinned], laidTests := true, laidLooks := .later }
def FnExactSchemaFieldUptoCardSaid : Prop := Claim7.holds Tryd.pinned (.plain (OpenSpec.upto fnExactSchemaFieldSpec)) fnExactSchemaFieldUptoCard

/-- THE SECOND FORM's CARD OF 'laws.FnSchemaTags'. -/
def fnSchemaTagsUptoCard : Claim7 := { stood := { row := fnSchemaTagsUptoRow, standIns := [], harness := (true, "6991a6353e223e83128919832f7e82977ed5a63f2a4ecc9f8dafd071bb58333d"), looks := false }, kinds := [], alts := [], laidByText := true, laidKinds := [.data, .pinned], laidTests := true, laidLooks := .later }
def FnSchemaTagsUptoCardSaid : Prop := Claim7.holds Tryd.pinned (.plain (OpenSpec.upto fnSchemaTagsSpec)) fnSchemaTagsUptoCard
end Rows
end Go.Proofs.YtbkfjopoacbdgaaDoor
