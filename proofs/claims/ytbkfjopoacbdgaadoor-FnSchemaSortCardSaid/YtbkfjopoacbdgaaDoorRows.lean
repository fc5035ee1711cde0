/-
  NARROWER THAN 'FOR EVERY INPUT', by the rows' own cells (each row's printed sentence says how): FnExactSchemaOk: laid · FnExactSchemaSort: laid · FnExactSchemaTypes: laid · FnExactSchemaTags: laid · FnExactSchemaStands: laid · FnSchemaOk: laid · FnSchemaSort: laid · FnSchemaTypes: laid · FnExactSchemaField: laid · FnSchemaTags: laid.
  DERIVED. THE GIVEN ROWS OF THIS SEAT. 10 by the template 'for every input the law returns true; each argument reads behind the call as it read before'; 0 by the template 'total and deterministic' (their statements: YtbkfjopoacbdgaaDoorTotals.lean).
  GIVEN WITH THE SEED: the statements are not yours to turn. If you find one false, say at which input.
  Laid BY PROGRAM, IN A SANDBOX (cutbox-rows.mjs): the forced cells as the released guide's own fill.sh prints them over the translation 802e757d8f4dbbb3… (all of the seat's roots in one cut). By AI agents, Wed Nov 11 2026. No macro, syntax, notation, axiom, sorry.
-/
import Derived.Test.YtbkfjopoacbdgaaDoorChecked
import GoSem.PinnedTables
import GoSem.Claim
import GoSem.ClaimJoined
import GoSem.ClaimMapViews
import Derived.JoinedTies
import Derived.KernelRfl
namespace Go.Proofs.YtbkfjopoacbdgaaDoor
/- THE CELL 'sum', in the pinned program and in every row, IS THE sha256 OF THE DUMP (.gsa) THAT YtbkfjopoacbdgaaDoorProg.lean LOADS. Nothing in Lean hashes anything: it is a label: what it is worth is what the hold of that sum in a sandbox is worth. -/
noncomputable def Tryd.pinned : Pinned := { name := "ytbkfjopoacbdgaadoor", sum := "802e757d8f4dbbb36cb69e22b1745c5a17dbcb82989fb802cabe3907ddede6af", checked := Tryd.checked }
namespace Rows
def none {H : Type} : Left H := { results := [], args := [] }

/- WHAT THE LISTED PACKAGE-LEVEL VARIABLES READ AS WHEN THE CALL BEGINS. Each datum BY PROGRAM (the guide's laid-datum.mjs) off the statement by which the dump's own 'gosem.cut.vars' lays the variable. In a bare row this is a premise. The card (YtbkfjopoacbdgaaDoorCards.lean) ties it to the program's text. -/
def laid_unicode_utf8_acceptRanges {H : Type} : DataW H := .agg [.agg [.lit (.int .u8 128), .lit (.int .u8 191)], .agg [.lit (.int .u8 160), .lit (.int .u8 191)], .agg [.lit (.int .u8 128), .lit (.int .u8 159)], .agg [.lit (.int .u8 144), .lit (.int .u8 191)], .agg [.lit (.int .u8 128), .lit (.int .u8 143)], .agg [.lit (.int .u8 0), .lit (.int .u8 0)], .agg [.lit (.int .u8 0), .lit (.int .u8 0)], .agg [.lit (.int .u8 0), .lit (.int .u8 0)], .agg [.lit (.int .u8 0), .lit (.int .u8 0)], .agg [.lit (.int .u8 0), .lit (.int .u8 0)], .agg [.lit (.int .u8 0), .lit (.int .u8 0)], .agg [.lit (.int .u8 0), .lit (.int .u8 0)], .agg [.lit (.int .u8 0), .lit (.int .u8 0)], .agg [.lit (.int .u8 0), .lit (.int .u8 0)], .agg [.lit (.int .u8 0), .lit (.int .u8 0)], .agg [.lit (.int .u8 0), .lit (.int .u8 0)]]
/-- One of Go's own tables, pinned by name: the form's constant. -/
def laid_unicode_utf8_first : DataW Unit := Go.Pinned.utf8First

/-- 'laws.FnExactSchemaOk': WHATEVER THE INPUT: true; the input reads as it did. -/
def fnExactSchemaOkSpec : ChangeSpec := { name := "fnExactSchemaOk", fn := fun _ => fun
  | [d] => { results := [.lit (.bool true)], args := [d] }
  | _ => none }
def fnExactSchemaOkRow : OpenClaim := { program := "ytbkfjopoacbdgaadoor", sum := "802e757d8f4dbbb36cb69e22b1745c5a17dbcb82989fb802cabe3907ddede6af", func := "loop.example/wireforms/laws.FnExactSchemaOk", spec := "fnExactSchemaOk", inPlace := ["internal/bytealg.IndexByteString", "internal/bytealg.IndexString", "internal/bytealg.CountString"], recurses := true, named := ["internal/bytealg.MaxLen", "unicode/utf8.first", "unicode/utf8.acceptRanges"], apart := false, laid := [("unicode/utf8.acceptRanges", laid_unicode_utf8_acceptRanges), ("unicode/utf8.first", laid_unicode_utf8_first)] }
def FnExactSchemaOkSaid : Prop := fnExactSchemaOkRow.holds Tryd.pinned (OpenSpec.ofChange fnExactSchemaOkSpec)

/-- ITS FALSE NEIGHBOUR: 'it returns false'. Refute it at one input. -/
def fnExactSchemaOkWrong : ChangeSpec := { name := "fnExactSchemaOk", fn := fun _ => fun
  | [d] => { results := [.lit (.bool false)], args := [d] }
  | _ => none }
def FnExactSchemaOkWrongFalsely : Prop := fnExactSchemaOkRow.holds Tryd.pinned (OpenSpec.ofChange fnExactSchemaOkWrong)

/-- 'laws.FnExactSchemaSort': WHATEVER THE INPUT: true; the input reads as it did. -/
def fnExactSchemaSortSpec : ChangeSpec := { name := "fnExactSchemaSort", fn := fun _ => fun
  | [d1, d2] => { results := [.lit (.bool true)], args := [d1, d2] }
  | _ => none }
def fnExactSchemaSortRow : OpenClaim := { program := "ytbkfjopoacbdgaadoor", sum := "802e757d8f4dbbb36cb69e22b1745c5a17dbcb82989fb802cabe3907ddede6af", func := "loop.example/wireforms/laws.FnExactSchemaSort", spec := "fnExactSchemaSort", inPlace := ["internal/bytealg.IndexByteString", "internal/bytealg.IndexString", "internal/bytealg.CountString"], recurses := true, named := ["internal/bytealg.MaxLen", "unicode/utf8.first", "unicode/utf8.acceptRanges"], apart := false, laid := [("unicode/utf8.acceptRanges", laid_unicode_utf8_acceptRanges), ("unicode/utf8.first", laid_unicode_utf8_first)] }
def FnExactSchemaSortSaid : Prop := fnExactSchemaSortRow.holds Tryd.pinned (OpenSpec.ofChange fnExactSchemaSortSpec)

/-- ITS FALSE NEIGHBOUR: 'it returns false'. Refute it at one input. -/
def fnExactSchemaSortWrong : ChangeSpec := { name := "fnExactSchemaSort", fn := fun _ => fun
  | [d1, d2] => { results := [.lit (.bool false)], args := [d1, d2] }
  | _ => none }
def FnExactSchemaSortWrongFalsely : Prop := fnExactSchemaSortRow.holds Tryd.pinned (OpenSpec.ofChange fnExactSchemaSortWrong)

/-- 'laws.FnExactSchemaTypes': WHATEVER THE INPUT: true; the input reads as it did. -/
def fnExactSchemaTypesSpec : ChangeSpec := { name := "fnExactSchemaTypes", fn := fun _ => fun
  | [d] => { results := [.lit (.bool true)], args := [d] }
  | _ => none }
def fnExactSchemaTypesRow : OpenClaim := { program := "ytbkfjopoacbdgaadoor", sum := "802e757d8f4dbbb36cb69e22b1745c5a17dbcb82989fb802cabe3907ddede6af", func := "loop.example/wireforms/laws.FnExactSchemaTypes", spec := "fnExactSchemaTypes", inPlace := ["internal/bytealg.IndexByteString", "internal/bytealg.IndexString", "internal/bytealg.CountString"], recurses := true, named := ["internal/bytealg.MaxLen", "unicode/utf8.first", "unicode/utf8.acceptRanges"], apart := false, laid := [("unicode/utf8.acceptRanges", laid_unicode_utf8_acceptRanges), ("unicode/utf8.first", laid_unicode_utf8_first)] }
def FnExactSchemaTypesSaid : Prop := fnExactSchemaTypesRow.holds Tryd.pinned (OpenSpec.ofChange fnExactSchemaTypesSpec)

/-- ITS FALSE NEIGHBOUR: 'it returns false'. Refute it at one input. -/
def fnExactSchemaTypesWrong : ChangeSpec := { name := "fnExactSchemaTypes", fn := fun _ => fun
  | [d] => { results := [.lit (.bool false)], args := [d] }
  | _ => none }
def FnExactSchemaTypesWrongFalsely : Prop := fnExactSchemaTypesRow.holds Tryd.pinned (OpenSpec.ofChange fnExactSchemaTypesWrong)

/-- 'laws.FnExactSchemaTags': WHATEVER THE INPUT: true; the input reads as it did. -/
def fnExactSchemaTagsSpec : ChangeSpec := { name := "fnExactSchemaTags", fn := fun _ => fun
  | [d1, d2] => { results := [.lit (.bool true)], args := [d1, d2] }
  | _ => none }
def fnExactSchemaTagsRow : OpenClaim := { program := "ytbkfjopoacbdgaadoor", sum := "802e757d8f4dbbb36cb69e22b1745c5a17dbcb82989fb802cabe3907ddede6af", func := "loop.example/wireforms/laws.FnExactSchemaTags", spec := "fnExactSchemaTags", inPlace := ["internal/bytealg.IndexByteString", "internal/bytealg.IndexString", "internal/bytealg.CountString"], recurses := true, named := ["internal/bytealg.MaxLen", "unicode/utf8.first", "unicode/utf8.acceptRanges"], apart := false, laid := [("unicode/utf8.acceptRanges", laid_unicode_utf8_acceptRanges), ("unicode/utf8.first", laid_unicode_utf8_first)] }
def FnExactSchemaTagsSaid : Prop := fnExactSchemaTagsRow.holds Tryd.pinned (OpenSpec.ofChange fnExactSchemaTagsSpec)

/-- ITS FALSE NEIGHBOUR: 'it returns false'. Refute it at one input. -/
def fnExactSchemaTagsWrong : ChangeSpec := { name := "fnExactSchemaTags", fn := fun _ => fun
  | [d1, d2] => { results := [.lit (.bool false)], args := [d1, d2] }
  | _ => none }
def FnExactSchemaTagsWrongFalsely : Prop := fnExactSchemaTagsRow.holds Tryd.pinned (OpenSpec.ofChange fnExactSchemaTagsWrong)

/-- 'laws.FnExactSchemaStands': WHATEVER THE INPUT: true; the input reads as it did. -/
def fnExactSchemaStandsSpec : ChangeSpec := { name := "fnExactSchemaStands", fn := fun _ => fun
  | [d1, d2] => { results := [.lit (.bool true)], args := [d1, d2] }
  | _ => none }
def fnExactSchemaStandsRow : OpenClaim := { program := "ytbkfjopoacbdgaadoor", sum := "802e757d8f4dbbb36cb69e22b1745c5a17dbcb82989fb802cabe3907ddede6af", func := "loop.example/wireforms/laws.FnExactSchemaStands", spec := "fnExactSchemaStands", inPlace := ["internal/bytealg.IndexByteString", "internal/bytealg.IndexString", "internal/bytealg.CountString"], recurses := true, named := ["internal/bytealg.MaxLen", "unicode/utf8.first", "unicode/utf8.acceptRanges"], apart := false, laid := [("unicode/utf8.acceptRanges", laid_unicode_utf8_acceptRanges), ("unicode/utf8.first", laid_unicode_utf8_first)] }
def FnExactSchemaStandsSaid : Prop := fnExactSchemaStandsRow.holds Tryd.pinned (OpenSpec.ofChange fnExactSchemaStandsSpec)

/-- ITS FALSE NEIGHBOUR: 'it returns false'. Refute it at one input. -/
def fnExactSchemaStandsWrong : ChangeSpec := { name := "fnExactSchemaStands", fn := fun _ => fun
  | [d1, d2] => { results := [.lit (.bool false)], args := [d1, d2] }
  | _ => none }
def FnExactSchemaStandsWrongFalsely : Prop := fnExactSchemaStandsRow.holds Tryd.pinned (OpenSpec.ofChange fnExactSchemaStandsWrong)

/-- 'laws.FnSchemaOk': WHATEVER THE INPUT: true; the input reads as it did. -/
def fnSchemaOkSpec : ChangeSpec := { name := "fnSchemaOk", fn := fun _ => fun
  | [d] => { results := [.lit (.bool true)], args := [d] }
  | _ => none }
def fnSchemaOkRow : OpenClaim := { program := "ytbkfjopoacbdgaadoor", sum := "802e757d8f4dbbb36cb69e22b1745c5a17dbcb82989fb802cabe3907ddede6af", func := "loop.example/wireforms/laws.FnSchemaOk", spec := "fnSchemaOk", inPlace := ["internal/bytealg.IndexByteString", "internal/bytealg.IndexString", "internal/bytealg.CountString"], recurses := true, named := ["internal/bytealg.MaxLen", "unicode/utf8.first", "unicode/utf8.acceptRanges"], apart := false, laid := [("unicode/utf8.acceptRanges", laid_unicode_utf8_acceptRanges), ("unicode/utf8.first", laid_unicode_utf8_first)] }
def FnSchemaOkSaid : Prop := fnSchemaOkRow.holds Tryd.pinned (OpenSpec.ofChange fnSchemaOkSpec)

/-- ITS FALSE NEIGHBOUR: 'it returns false'. Refute it at one input. -/
def fnSchemaOkWrong : ChangeSpec := { name := "fnSchemaOk", fn := fun _ => fun
  | [d] => { results := [.lit (.bool false)], args := [d] }
  | _ => none }
def FnSchemaOkWrongFalsely : Prop := fnSchemaOkRow.holds Tryd.pinned (OpenSpec.ofChange fnSchemaOkWrong)

/-- 'laws.FnSchemaSort': WHATEVER THE INPUT: true; the input reads as it did. -/
def fnSchemaSortSpec : ChangeSpec := { name := "fnSchemaSort", fn := fun _ => fun
  | [d] => { results := [.lit (.bool true)], args := [d] }
  | _ => none }
def fnSchemaSortRow : OpenClaim := { program := "ytbkfjopoacbdgaadoor", sum := "802e757d8f4dbbb36cb69e22b1745c5a17dbcb82989fb802cabe3907ddede6af", func := "loop.example/wireforms/laws.FnSchemaSort", spec := "fnSchemaSort", inPlace := ["internal/bytealg.IndexByteString", "internal/bytealg.IndexString", "internal/bytealg.CountString"], recurses := true, named := ["internal/bytealg.MaxLen", "unicode/utf8.first", "unicode/utf8.acceptRanges"], apart := false, laid := [("unicode/utf8.acceptRanges", laid_unicode_utf8_acceptRanges), ("unicode/utf8.first", laid_unicode_utf8_first)] }
def FnSchemaSortSaid : Prop := fnSchemaSortRow.holds Tryd.pinned (OpenSpec.ofChange fnSchemaSortSpec)

/-- ITS FALSE NEIGHBOUR: 'it returns false'. Refute it at one input. -/
def fnSchemaSortWrong : ChangeSpec := { name := "fnSchemaSort", fn := fun _ => fun
  | [d] => { results := [.lit (.bool false)], args := [d] }
  | _ => none }
def FnSchemaSortWrongFalsely : Prop := fnSchemaSortRow.holds Tryd.pinned (OpenSpec.ofChange fnSchemaSortWrong)

/-- 'laws.FnSchemaTypes': WHATEVER THE INPUT: true; the input reads as it did. -/
def fnSchemaTypesSpec : ChangeSpec := { name := "fnSchemaTypes", fn := fun _ => fun
  | [d] => { results := [.lit (.bool true)], args := [d] }
  | _ => none }
def fnSchemaTypesRow : OpenClaim := { program := "ytbkfjopoacbdgaadoor", sum := "802e757d8f4dbbb36cb69e22b1745c5a17dbcb82989fb802cabe3907ddede6af", func := "loop.example/wireforms/laws.FnSchemaTypes", spec := "fnSchemaTypes", inPlace := ["internal/bytealg.IndexByteString", "internal/bytealg.IndexString", "internal/bytealg.CountString"], recurses := true, named := ["internal/bytealg.MaxLen", "unicode/utf8.first", "unicode/utf8.acceptRanges"], apart := false, laid := [("unicode/utf8.acceptRanges", laid_unicode_utf8_acceptRanges), ("unicode/utf8.first", laid_unicode_utf8_first)] }
def FnSchemaTypesSaid : Prop := fnSchemaTypesRow.holds Tryd.pinned (OpenSpec.ofChange fnSchemaTypesSpec)

/-- ITS FALSE NEIGHBOUR: 'it returns false'. Refute it at one input. -/
def fnSchemaTypesWrong : ChangeSpec := { name := "fnSchemaTypes", fn := fun _ => fun
  | [d] => { results := [.lit (.bool false)], args := [d] }
  | _ => none }
def FnSchemaTypesWrongFalsely : Prop := fnSchemaTypesRow.holds Tryd.pinned (OpenSpec.ofChange fnSchemaTypesWrong)

/-- 'laws.FnExactSchemaField': WHATEVER THE INPUT: true; the input reads as it did. -/
def fnExactSchemaFieldSpec : ChangeSpec := { name := "fnExactSchemaField", fn := fun _ => fun
  | [d1, d2, d3] => { results := [.lit (.bool true)], args := [d1, d2, d3] }
  | _ => none }
def fnExactSchemaFieldRow : OpenClaim := { program := "ytbkfjopoacbdgaadoor", sum := "802e757d8f4dbbb36cb69e22b1745c5a17dbcb82989fb802cabe3907ddede6af", func := "loop.example/wireforms/laws.FnExactSchemaField", spec := "fnExactSchemaField", inPlace := ["internal/bytealg.IndexByteString", "internal/bytealg.IndexString", "internal/bytealg.CountString"], recurses := true, named := ["internal/bytealg.MaxLen", "unicode/utf8.first", "unicode/utf8.acceptRanges"], apart := false, laid := [("unicode/utf8.acceptRanges", laid_unicode_utf8_acceptRanges), ("unicode/utf8.first", laid_unicode_utf8_first)] }
def FnExactSchemaFieldSaid : Prop := fnExactSchemaFieldRow.holds Tryd.pinned (OpenSpec.ofChange fnExactSchemaFieldSpec)

/-- ITS FALSE NEIGHBOUR: 'it returns false'. Refute it at one input. -/
def fnExactSchemaFieldWrong : ChangeSpec := { name := "fnExactSchemaField", fn := fun _ => fun
  | [d1, d2, d3] => { results := [.lit (.bool false)], args := [d1, d2, d3] }
  | _ => none }
def FnExactSchemaFieldWrongFalsely : Prop := fnExactSchemaFieldRow.holds Tryd.pinned (OpenSpec.ofChange fnExactSchemaFieldWrong)

/-- 'laws.FnSchemaTags': WHATEVER THE INPUT: true; the input reads as it did. -/
def fnSchemaTagsSpec : ChangeSpec := { name := "fnSchemaTags", fn := fun _ => fun
  | [d] => { results := [.lit (.bool true)], args := [d] }
  | _ => none }
def fnSchemaTagsRow : OpenClaim := { program := "ytbkfjopoacbdgaadoor", sum := "802e757d8f4dbbb36cb69e22b1745c5a17dbcb82989fb802cabe3907ddede6af", func := "loop.example/wireforms/laws.FnSchemaTags", spec := "fnSchemaTags", inPlace := ["internal/bytealg.IndexByteString", "internal/bytealg.IndexString", "internal/bytealg.CountString"], recurses := true, named := ["internal/bytealg.MaxLen", "unicode/utf8.first", "unicode/utf8.acceptRanges"], apart := false, laid := [("unicode/utf8.acceptRanges", laid_unicode_utf8_acceptRanges), ("unicode/utf8.first", laid_unicode_utf8_first)] }
def FnSchemaTagsSaid : Prop := fnSchemaTagsRow.holds Tryd.pinned (OpenSpec.ofChange fnSchemaTagsSpec)

/-- ITS FALSE NEIGHBOUR: 'it returns false'. Refute it at one input. -/
def fnSchemaTagsWrong : ChangeSpec := { name := "fnSchemaTags", fn := fun _ => fun
  | [d] => { results := [.lit (.bool false)], args := [d] }
  | _ => none }
def FnSchemaTagsWrongFalsely : Prop := fnSchemaTagsRow.holds Tryd.pinned (OpenSpec.ofChange fnSchemaTagsWrong)

/- THE SECOND FORM. 'bulk': how many values and letters a reading holds, each counted each time it is reached (what is shared counts as often as it is met; a slice's spare places count too). A statement '..UptoSaid' is the law's where the arguments, and the package variables that the reading takes, are together of bulk at most 1048576: NARROWER than '..Said'. Prove '..Said' where nothing that the law and all that it calls make is longer than what came in: it says more and counts as full. Else prove '..UptoSaid'. A law counts once. -/
mutual
def uptoBulk {H : Type} : DataW H → Nat
  | .lit (.string bytes) => bytes.length + 1
  | .lit _ => 1
  | .nil => 1
  | .ptr d => uptoBulk d + 1
  | .slice elems spare => uptoBulkAll elems + uptoBulkAll spare + 1
  | .agg parts => uptoBulkAll parts + 1
  | .iface _ d => uptoBulk d + 1
  | .map entries => uptoBulkEntries entries + 1
  | .held _ => 1
def uptoBulkAll {H : Type} : List (DataW H) → Nat
  | [] => 0
  | d :: r => uptoBulk d + uptoBulkAll r
def uptoBulkEntries {H : Type} : List (Lit × DataW H) → Nat
  | [] => 0
  | x :: r => uptoBulkEntry x + uptoBulkEntries r
def uptoBulkEntry {H : Type} : Lit × DataW H → Nat
  | (.string bytes, d) => bytes.length + uptoBulk d + 1
  | (_, d) => uptoBulk d + 1
 end
def uptoSmall : (H : Type) → List (DataW H) → Bool := fun _ ds => decide (uptoBulkAll ds ≤ 1048576)
def OpenSpec.upto (s : _root_.Go.ChangeSpec) : _root_.Go.OpenSpec := { _root_.Go.OpenSpec.ofChange s with cond := some uptoSmall }

/-- 'laws.FnExactSchemaOk', WHERE WHAT IT READS IS OF BULK AT MOST 1048576: true; the input reads as it did. -/
def fnExactSchemaOkUptoRow : OpenClaim := { program := "ytbkfjopoacbdgaadoor", sum := "802e757d8f4dbbb36cb69e22b1745c5a17dbcb82989fb802cabe3907ddede6af", func := "loop.example/wireforms/laws.FnExactSchemaOk", spec := "fnExactSchemaOk", inPlace := ["internal/bytealg.IndexByteString", "internal/bytealg.IndexString", "internal/bytealg.CountString"], recurses := true, named := ["internal/bytealg.MaxLen", "unicode/utf8.first", "unicode/utf8.acceptRanges"], apart := false, laid := [("unicode/utf8.acceptRanges", laid_unicode_utf8_acceptRanges), ("unicode/utf8.first", laid_unicode_utf8_first)], narrowed := true }
def FnExactSchemaOkUptoSaid : Prop := fnExactSchemaOkUptoRow.holds Tryd.pinned (OpenSpec.upto fnExactSchemaOkSpec)

/-- 'laws.FnExactSchemaSort', WHERE WHAT IT READS IS OF BULK AT MOST 1048576: true; the input reads as it did. -/
def fnExactSchemaSortUptoRow : OpenClaim := { program := "ytbkfjopoacbdgaadoor", sum := "802e757d8f4dbbb36cb69e22b1745c5a17dbcb82989fb802cabe3907ddede6af", func := "loop.example/wireforms/laws.FnExactSchemaSort", spec := "fnExactSchemaSort", inPlace := ["internal/bytealg.IndexByteString", "internal/bytealg.IndexString", "internal/bytealg.CountString"], recurses := true, named := ["internal/bytealg.MaxLen", "unicode/utf8.first", "unicode/utf8.acceptRanges"], apart := false, laid := [("unicode/utf8.acceptRanges", laid_unicode_utf8_acceptRanges), ("unicode/utf8.first", laid_unicode_utf8_first)], narrowed := true }
def FnExactSchemaSortUptoSaid : Prop := fnExactSchemaSortUptoRow.holds Tryd.pinned (OpenSpec.upto fnExactSchemaSortSpec)

/-- 'laws.FnExactSchemaTypes', WHERE WHAT IT READS IS OF BULK AT MOST 1048576: true; the input reads as it did. -/
def fnExactSchemaTypesUptoRow : OpenClaim := { program := "ytbkfjopoacbdgaadoor", sum := "802e757d8f4dbbb36cb69e22b1745c5a17dbcb82989fb802cabe3907ddede6af", func := "loop.example/wireforms/laws.FnExactSchemaTypes", spec := "fnExactSchemaTypes", inPlace := ["internal/bytealg.IndexByteString", "internal/bytealg.IndexString", "internal/bytealg.CountString"], recurses := true, named := ["internal/bytealg.MaxLen", "unicode/utf8.first", "unicode/utf8.acceptRanges"], apart := false, laid := [("unicode/utf8.acceptRanges", laid_unicode_utf8_acceptRanges), ("unicode/utf8.first", laid_unicode_utf8_first)], narrowed := true }
def FnExactSchemaTypesUptoSaid : Prop := fnExactSchemaTypesUptoRow.holds Tryd.pinned (OpenSpec.upto fnExactSchemaTypesSpec)

/-- 'laws.FnExactSchemaTags', WHERE WHAT IT READS IS OF BULK AT MOST 1048576: true; the input reads as it did. -/
def fnExactSchemaTagsUptoRow : OpenClaim := { program := "ytbkfjopoacbdgaadoor", sum := "802e757d8f4dbbb36cb69e22b1745c5a17dbcb82989fb802cabe3907ddede6af", func := "loop.example/wireforms/laws.FnExactSchemaTags", spec := "fnExactSchemaTags", inPlace := ["internal/bytealg.IndexByteString", "internal/bytealg.IndexString", "internal/bytealg.CountString"], recurses := true, named := ["internal/bytealg.MaxLen", "unicode/utf8.first", "unicode/utf8.acceptRanges"], apart := false, laid := [("unicode/utf8.acceptRanges", laid_unicode_utf8_acceptRanges), ("unicode/utf8.first", laid_unicode_utf8_first)], narrowed := true }
def FnExactSchemaTagsUptoSaid : Prop := fnExactSchemaTagsUptoRow.holds Tryd.pinned (OpenSpec.upto fnExactSchemaTagsSpec)

/-- 'laws.FnExactSchemaStands', WHERE WHAT IT READS IS OF BULK AT MOST 1048576: true; the input reads as it did. -/
def fnExactSchemaStandsUptoRow : OpenClaim := { program := "ytbkfjopoacbdgaadoor", sum := "802e757d8f4dbbb36cb69e22b1745c5a17dbcb82989fb802cabe3907ddede6af", func := "loop.example/wireforms/laws.FnExactSchemaStands", spec := "fnExactSchemaStands", inPlace := ["internal/bytealg.IndexByteString", "internal/bytealg.IndexString", "internal/bytealg.CountString"], recurses := true, named := ["internal/bytealg.MaxLen", "unicode/utf8.first", "unicode/utf8.acceptRanges"], apart := false, laid := [("unicode/utf8.acceptRanges", laid_unicode_utf8_acceptRanges), ("unicode/utf8.first", laid_unicode_utf8_first)], narrowed := true }
def FnExactSchemaStandsUptoSaid : Prop := fnExactSchemaStandsUptoRow.holds Tryd.pinned (OpenSpec.upto fnExactSchemaStandsSpec)

/-- 'laws.FnSchemaOk', WHERE WHAT IT READS IS OF BULK AT MOST 1048576: true; the input reads as it did. -/
def fnSchemaOkUptoRow : OpenClaim := { program := "ytbkfjopoacbdgaadoor", sum := "802e757d8f4dbbb36cb69e22b1745c5a17dbcb82989fb802cabe3907ddede6af", func := "loop.example/wireforms/laws.FnSchemaOk", spec := "fnSchemaOk", inPlace := ["internal/bytealg.IndexByteString", "internal/bytealg.IndexString", "internal/bytealg.CountString"], recurses := true, named := ["internal/bytealg.MaxLen", "unicode/utf8.first", "unicode/utf8.acceptRanges"], apart := false, laid := [("unicode/utf8.acceptRanges", laid_unicode_utf8_acceptRanges), ("unicode/utf8.first", laid_unicode_utf8_first)], narrowed := true }
def FnSchemaOkUptoSaid : Prop := fnSchemaOkUptoRow.holds Tryd.pinned (OpenSpec.upto fnSchemaOkSpec)

/-- 'laws.FnSchemaSort', WHERE WHAT IT READS IS OF BULK AT MOST 1048576: true; the input reads as it did. -/
def fnSchemaSortUptoRow : OpenClaim := { program := "ytbkfjopoacbdgaadoor", sum := "802e757d8f4dbbb36cb69e22b1745c5a17dbcb82989fb802cabe3907ddede6af", func := "loop.example/wireforms/laws.FnSchemaSort", spec := "fnSchemaSort", inPlace := ["internal/bytealg.IndexByteString", "internal/bytealg.IndexString", "internal/bytealg.CountString"], recurses := true, named := ["internal/bytealg.MaxLen", "unicode/utf8.first", "unicode/utf8.acceptRanges"], apart := false, laid := [("unicode/utf8.acceptRanges", laid_unicode_utf8_acceptRanges), ("unicode/utf8.first", laid_unicode_utf8_first)], narrowed := true }
def FnSchemaSortUptoSaid : Prop := fnSchemaSortUptoRow.holds Tryd.pinned (OpenSpec.upto fnSchemaSortSpec)

/-- 'laws.FnSchemaTypes', WHERE WHAT IT READS IS OF BULK AT MOST 1048576: true; the input reads as it did. -/
def fnSchemaTypesUptoRow : OpenClaim := { program := "ytbkfjopoacbdgaadoor", sum := "802e757d8f4dbbb36cb69e22b1745c5a17dbcb82989fb802cabe3907ddede6af", func := "loop.example/wireforms/laws.FnSchemaTypes", spec := "fnSchemaTypes", inPlace := ["internal/bytealg.IndexByteString", "internal/bytealg.IndexString", "internal/bytealg.CountString"], recurses := true, named := ["internal/bytealg.MaxLen", "unicode/utf8.first", "unicode/utf8.acceptRanges"], apart := false, laid := [("unicode/utf8.acceptRanges", laid_unicode_utf8_acceptRanges), ("unicode/utf8.first", laid_unicode_utf8_first)], narrowed := true }
def FnSchemaTypesUptoSaid : Prop := fnSchemaTypesUptoRow.holds Tryd.pinned (OpenSpec.upto fnSchemaTypesSpec)

/-- 'laws.FnExactSchemaField', WHERE WHAT IT READS IS OF BULK AT MOST 1048576: true; the input reads as it did. -/
def fnExactSchemaFieldUptoRow : OpenClaim := { program := "ytbkfjopoacbdgaadoor", sum := "802e757d8f4dbbb36cb69e22b1745c5a17dbcb82989fb802cabe3907ddede6af", func := "loop.example/wireforms/laws.FnExactSchemaField", spec := "fnExactSchemaField", inPlace := ["internal/bytealg.IndexByteString", "internal/bytealg.IndexString", "internal/bytealg.CountString"], recurses := true, named := ["internal/bytealg.MaxLen", "unicode/utf8.first", "unicode/utf8.acceptRanges"], apart := false, laid := [("unicode/utf8.acceptRanges", laid_unicode_utf8_acceptRanges), ("unicode/utf8.first", laid_unicode_utf8_first)], narrowed := true }
def FnExactSchemaFieldUptoSaid : Prop := fnExactSchemaFieldUptoRow.holds Tryd.pinned (OpenSpec.upto fnExactSchemaFieldSpec)

/-- 'laws.FnSchemaTags', WHERE WHAT IT READS IS OF BULK AT MOST 1048576: true; the input reads as it did. -/
def fnSchemaTagsUptoRow : OpenClaim := { program := "ytbkfjopoacbdgaadoor", sum := "802e757d8f4dbbb36cb69e22b1745c5a17dbcb82989fb802cabe3907ddede6af", func := "loop.example/wireforms/laws.FnSchemaTags", spec := "fnSchemaTags", inPlace := ["internal/bytealg.IndexByteString", "internal/bytealg.IndexString", "internal/bytealg.CountString"], recurses := true, named := ["internal/bytealg.MaxLen", "unicode/utf8.first", "unicode/utf8.acceptRanges"], apart := false, laid := [("unicode/utf8.acceptRanges", laid_unicode_utf8_acceptRanges), ("unicode/utf8.first", laid_unicode_utf8_first)], narrowed := true }
def FnSchemaTagsUptoSaid : Prop := fnSchemaTagsUptoRow.holds Tryd.pinned (OpenSpec.upto fnSchemaTagsSpec)

end Rows
end Go.Proofs.YtbkfjopoacbdgaaDoor
