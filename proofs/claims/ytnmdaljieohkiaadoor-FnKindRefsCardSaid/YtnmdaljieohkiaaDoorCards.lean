/-
  DERIVED. GIVEN WITH THE SEED: THE CARDS: each row of YtnmdaljieohkiaaDoorRows.lean that lists a variable, with what it lists TIED to the program's text (the seventh form; the later family's looks); each row that meets fmt, with fmt's text TOLD by the authors' own Lean function (tested against real Go, not proved from fmt's source: count such statements apart). THE CARD IS WHAT COUNTS. Prove the row's statement (the work); the ties are given (YtnmdaljieohkiaaDoorTie.lean); close each card by the builder's one call (the guide's Derived/Test/ToyasCard.lean, 'card_holds'). Laid BY PROGRAM, IN A SANDBOX (cutbox-door.mjs). By AI agents, Wed Nov 11 2026. No macro, syntax, notation, axiom, sorry.
-/
import Derived.Test.YtnmdaljieohkiaaDoorRows
import GoSem.ClaimSeven
namespace Go.Proofs.YtnmdaljieohkiaaDoor
namespace Rows

/-- THE TIED CARD OF 'laws.FnExactKindOk'. -/
def fnExactKindOkCard : Claim7 := { stood := { row := fnExactKindOkRow, standIns := [], harness := (true, "0104c43d579cdf504e8a9dd14301bae4657f65bd044781a84f795f269b1d1122"), looks := false }, kinds := [], alts := [], laidByText := true, laidKinds := [.data, .pinned], laidTests := true, laidLooks := .later }
def FnExactKindOkCardSaid : Prop := Claim7.holds Tryd.pinned (.plain (OpenSpec.ofChange fnExactKindOkSpec)) fnExactKindOkCard

/-- THE TIED CARD OF 'laws.FnExactKindPart'. -/
def fnExactKindPartCard : Claim7 := { stood := { row := fnExactKindPartRow, standIns := [], harness := (true, "0104c43d579cdf504e8a9dd14301bae4657f65bd044781a84f795f269b1d1122"), looks := false }, kinds := [], alts := [], laidByText := true, laidKinds := [.data, .pinned], laidTests := true, laidLooks := .later }
def FnExactKindPartCardSaid : Prop := Claim7.holds Tryd.pinned (.plain (OpenSpec.ofChange fnExactKindPartSpec)) fnExactKindPartCard

/-- THE TIED CARD OF 'laws.FnExactKindDeep'. -/
def fnExactKindDeepCard : Claim7 := { stood := { row := fnExactKindDeepRow, standIns := [], harness := (true, "0104c43d579cdf504e8a9dd14301bae4657f65bd044781a84f795f269b1d1122"), looks := false }, kinds := [], alts := [], laidByText := true, laidKinds := [.data, .pinned], laidTests := true, laidLooks := .later }
def FnExactKindDeepCardSaid : Prop := Claim7.holds Tryd.pinned (.plain (OpenSpec.ofChange fnExactKindDeepSpec)) fnExactKindDeepCard

/-- THE TIED CARD OF 'laws.FnExactKindName'. -/
def fnExactKindNameCard : Claim7 := { stood := { row := fnExactKindNameRow, standIns := [], harness := (true, "0104c43d579cdf504e8a9dd14301bae4657f65bd044781a84f795f269b1d1122"), looks := false }, kinds := [], alts := [], laidByText := true, laidKinds := [.data, .pinned], laidTests := true, laidLooks := .later }
def FnExactKindNameCardSaid : Prop := Claim7.holds Tryd.pinned (.plain (OpenSpec.ofChange fnExactKindNameSpec)) fnExactKindNameCard

/-- THE TIED CARD OF 'laws.FnKindOk'. -/
def fnKindOkCard : Claim7 := { stood := { row := fnKindOkRow, standIns := [], harness := (true, "0104c43d579cdf504e8a9dd14301bae4657f65bd044781a84f795f269b1d1122"), looks := false }, kinds := [], alts := [], laidByText := true, laidKinds := [.data, .pinned], laidTests := true, laidLooks := .later }
def FnKindOkCardSaid : Prop := Claim7.holds Tryd.pinned (.plain (OpenSpec.ofChange fnKindOkSpec)) fnKindOkCard

/-- THE TIED CARD OF 'laws.FnKindName'. -/
def fnKindNameCard : Claim7 := { stood := { row := fnKindNameRow, standIns := [], harness := (true, "0104c43d579cdf504e8a9dd14301bae4657f65bd044781a84f795f269b1d1122"), looks := false }, kinds := [], alts := [], laidByText := true, laidKinds := [.data, .pinned], laidTests := true, laidLooks := .later }
def FnKindNameCardSaid : Prop := Claim7.holds Tryd.pinned (.plain (OpenSpec.ofChange fnKindNameSpec)) fnKindNameCard

/-- THE TIED CARD OF 'laws.FnKindPart'. -/
def fnKindPartCard : Claim7 := { stood := { row := fnKindPartRow, standIns := [], harness := (true, "0104c43d579cdf504e8a9dd14301bae4657f65bd044781a84f795f269b1d1122"), looks := false }, kinds := [], alts := [], laidByText := true, laidKinds := [.data, .pinned], laidTests := true, laidLooks := .later }
def FnKindPartCardSaid : Prop := Claim7.holds Tryd.pinned (.plain (OpenSpec.ofChange fnKindPartSpec)) fnKindPartCard

/-- THE TIED CARD OF 'laws.FnKindDeep'. -/
def fnKindDeepCard : Claim7 := { stood := { row := fnKindDeepRow, standIns := [], harness := (true, "0104c43d579cdf504e8a9dd14301bae4657f65bd044781a84f795f269b1d1122"), looks := false }, kinds := [], alts := [], laidByText := true, laidKinds := [.data, .pinned], laidTests := true, laidLooks := .later }
def FnKindDeepCardSaid : Prop := Claim7.holds Tryd.pinned (.plain (OpenSpec.ofChange fnKindDeepSpec)) fnKindDeepCard

/-- THE TIED CARD OF 'laws.FnExactKindRefs'. -/
def fnExactKindRefsCard : Claim7 := { stood := { row := fnExactKindRefsRow, standIns := [], harness := (true, "0104c43d579cdf504e8a9dd14301bae4657f65bd044781a84f795f269b1d1122"), looks := false }, kinds := [], alts := [], laidByText := true, laidKinds := [.data, .pinned], laidTests := true, laidLooks := .later }
def FnExactKindRefsCardSaid : Prop := Claim7.holds Tryd.pinned (.plain (OpenSpec.ofChange fnExactKindRefsSpec)) fnExactKindRefsCard

/-- THE TIED CARD OF 'laws.FnKindRefs'. -/
def fnKindRefsCard : Claim7 := { stood := { row := fnKindRefsRow, standIns := [], harness := (true, "0104c43d579cdf504e8a9dd14301bae4657f65bd044781a84f795f269b1d1122"), looks := false }, kinds := [], alts := [], laidByText := true, laidKinds := [.data, .pinned], laidTests := true, laidLooks := .later }
def FnKindRefsCardSaid : Prop := Claim7.holds Tryd.pinned (.plain (OpenSpec.ofChange fnKindRefsSpec)) fnKindRefsCard

/-- THE SECOND FORM's CARD OF 'laws.FnExactKindOk'. -/
def fnExactKindOkUptoCard : Claim7 := { stood := { row := fnExactKindOkUptoRow, standIns := [], harness := (true, "0104c43d579cdf504e8a9dd14301bae4657f65bd044781a84f795f269b1d1122"), looks := false }, kinds := [], alts := [], laidByText := true, laidKinds := [.data, .pinned], laidTests := true, laidLooks := .later }
def FnExactKindOkUptoCardSaid : Prop := Claim7.holds Tryd.pinned (.plain (OpenSpec.upto fnExactKindOkSpec)) fnExactKindOkUptoCard

/-- THE SECOND FORM's CARD OF 'laws.FnExactKindPart'. -/
def fnExactKindPartUptoCard : Claim7 := { stood := { row := fnExactKindPartUptoRow, standIns := [], harness := (true, "0104c43d579cdf504e8a9dd14301bae4657f65bd044781a84f795f269b1d1122"), looks := false }, kinds := [], alts := [], laidByText := true, laidKinds := [.data, .pinned], laidTests := true, laidLooks := .later }
def FnExactKindPartUptoCardSaid : Prop := Claim7.holds Tryd.pinned (.plain (OpenSpec.upto fnExactKindPartSpec)) fnExactKindPartUptoCard

/-- THE SECOND FORM's CARD OF 'laws.FnExactKindDeep'. -/
def fnExactKindDeepUptoCard : Claim7 := { stood := { row := fnExactKindDeepUptoRow, standIns := [], harness := (true, "0104c43d579cdf504e8a9dd14301bae4657f65bd044781a84f795f269b1d1122"), looks := false }, kinds := [], alts := [], laidByText := true, laidKinds := [.data, .pinned], laidTests := true, laidLooks := .later }
def FnExactKindDeepUptoCardSaid : Prop := Claim7.holds Tryd.pinned (.plain (OpenSpec.upto fnExactKindDeepSpec)) fnExactKindDeepUptoCard

/-- THE SECOND FORM's CARD OF 'laws.FnExactKindName'. -/
def fnExactKindNameUptoCard : Claim7 := { stood := { row := fnExactKindNameUptoRow, standIns := [], harness := (true, "0104c43d579cdf504e8a9dd14301bae4657f65bd044781a84f795f269b1d1122"), looks := false }, kinds := [], alts := [], laidByText := true, laidKinds := [.data, .pinned], laidTests := true, laidLooks := .later }
def FnExactKindNameUptoCardSaid : Prop := Claim7.holds Tryd.pinned (.plain (OpenSpec.upto fnExactKindNameSpec)) fnExactKindNameUptoCard

/-- THE SECOND FORM's CARD OF 'laws.FnKindOk'. -/
def fnKindOkUptoCard : Claim7 := { stood := { row := fnKindOkUptoRow, standIns := [], harness := (true, "0104c43d579cdf504e8a9dd14301bae4657f65bd044781a84f795f269b1d1122"), looks := false }, kinds := [], alts := [], laidByText := true, laidKinds := [.data, .pinned], laidTests := true, laidLooks := .later }
def FnKindOkUptoCardSaid : Prop := Claim7.holds Tryd.pinned (.plain (OpenSpec.upto fnKindOkSpec)) fnKindOkUptoCard

/-- THE SECOND FORM's CARD OF 'laws.FnKindName'. -/
def fnKindNameUptoCard : Claim7 := { stood := { row := fnKindNameUptoRow, standIns := [], harness := (true, "0104c43d579cdf504e8a9dd14301bae4657f65bd044781a84f795f269b1d1122"), looks := false }, kinds := [], alts := [], laidByText := true, laidKinds := [.data, .pinned], laidTests := true, laidLooks := .later }
def FnKindNameUptoCardSaid : Prop := Claim7.holds Tryd.pinned (.plain (OpenSpec.upto fnKindNameSpec)) fnKindNameUptoCard

/-- THE SECOND FORM's CARD OF 'laws.FnKindPart'. -/
def fnKindPartUptoCard : Claim7 := { stood := { row := fnKindPartUptoRow, standIns := [], harness := (true, "0104c43d579cdf504e8a9dd14301bae4657f65bd044781a84f795f269b1d1122"), looks := false }, kinds := [], alts := [], laidByText := true, laidKinds := [.data, .pinned], laidTests := true, laidLooks := .later }
def FnKindPartUptoCardSaid : Prop := Claim7.holds Tryd.pinned (.plain (OpenSpec.upto fnKindPartSpec)) fnKindPartUptoCard

/-- THE SECOND FORM's CARD OF 'laws.FnKindDeep'. -/
def fnKindDeepUptoCard : Claim7 := { stood := { row := fnKindDeepUptoRow, standIns := [], harness := (true, "0104c43d579cdf504e8a9dd14301bae4657f65bd044781a84f795f269b1d1122"), looks := false }, kinds := [], alts := [], laidByText := true, laidKinds := [.data, .pinned], laidTests := true, laidLooks := .later }
def FnKindDeepUptoCardSaid : Prop := Claim7.holds Tryd.pinned (.plain (OpenSpec.upto fnKindDeepSpec)) fnKindDeepUptoCard

/-- THE SECOND FORM's CARD OF 'laws.FnExactKindRefs'. -/
def fnExactKindRefsUptoCard : Claim7 := { stood := { row := fnExactKindRefsUptoRow, standIns := [], harness := (true, "0104c43d579cdf504e8a9dd14301bae4657f65bd044781a84f795f269b1d1122"), looks := false }, kinds := [], alts := [], laidByText := true, laidKinds := [.data, .pinned], laidTests := true, laidLooks := .later }
def FnExactKindRefsUptoCardSaid : Prop := Claim7.holds Tryd.pinned (.plain (OpenSpec.upto fnExactKindRefsSpec)) fnExactKindRefsUptoCard

/-- THE SECOND FORM's CARD OF 'laws.FnKindRefs'. -/
def fnKindRefsUptoCard : Claim7 := { stood := { row := fnKindRefsUptoRow, standIns := [], harness := (true, "0104c43d579cdf504e8a9dd14301bae4657f65bd044781a84f795f269b1d1122"), looks := false }, kinds := [], alts := [], laidByText := true, laidKinds := [.data, .pinned], laidTests := true, laidLooks := .later }
def FnKindRefsUptoCardSaid : Prop := Claim7.holds Tryd.pinned (.plain (OpenSpec.upto fnKindRefsSpec)) fnKindRefsUptoCard
end Rows
end Go.Proofs.YtnmdaljieohkiaaDoor
