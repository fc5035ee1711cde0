/-
  NARROWER THAN 'FOR EVERY INPUT', by the rows' own cells (each row's printed sentence says how): FnExactSchemaUsed: laid · FnSchemaField: laid · FnSchemaUsed: laid · FnExactValueOk: laid · FnExactValueDeep: laid · FnExactValueField: laid · FnExactValueSet: laid · FnValueDeep: laid · FnValueField: laid · FnSetOrder: laid · FnValueSet: laid.
  DERIVED. THE GIVEN ROWS OF THIS SEAT. 11 by the template 'for every input the law returns true; each argument reads behind the call as it read before'; 0 by the template 'total and deterministic' (their statements: YtmdacedmjbiekaaGreatDoorTotals.lean).
  GIVEN WITH THE SEED: the statements are not yours to turn. If you find one false, say at which input.
  Laid BY PROGRAM, IN A SANDBOX (cutbox-rows.mjs): the forced cells as the released guide's own fill.sh prints them over the translation 406b07b2a1f5ae09… (all of the seat's roots in one cut). By AI agents, Wed Nov 11 2026. No macro, syntax, notation, axiom, sorry.
-/
import Derived.Test.YtmdacedmjbiekaaGreatDoorChecked
import GoSem.PinnedTables
import GoSem.Claim
import GoSem.ClaimJoined
import GoSem.ClaimMapViews
import Derived.JoinedTies
import Derived.KernelRfl
namespace Go.Proofs.YtmdacedmjbiekaaGreatDoor
/- THE CELL 'sum', in the pinned program and in every row, IS THE sha256 OF THE DUMP (.gsa) THAT YtmdacedmjbiekaaGreatDoorProg.lean LOADS. Nothing in Lean hashes anything: it is a label: what it is worth is what the hold of that sum in a sandbox is worth. -/
noncomputable def Tryz.pinned : Pinned := { name := "ytmdacedmjbiekaagreatdoor", sum := "406b07b2a1f5ae09b60245bea8d02f2155561b0eb37a362bf7dbe1a38017c527", checked := Tryz.checked }
namespace Rows
def none {H : Type} : Left H := { results := [], args := [] }

/- WHAT THE LISTED PACKAGE-LEVEL VARIABLES READ AS WHEN THE CALL BEGINS. Each datum BY PROGRAM (the guide's laid-datum.mjs) off the statement by which the dump's own 'gosem.cut.vars' lays the variable. In a bare row this is a premise. The card (YtmdacedmjbiekaaGreatDoorCards.lean) ties it to the program's text. -/
def laid_unicode_utf8_acceptRanges {H : Type} : DataW H := .agg [.agg [.lit (.int .u8 128), .lit (.int .u8 191)], .agg [.lit (.int .u8 160), .lit (.int .u8 191)], .agg [.lit (.int .u8 128), .lit (.int .u8 159)], .agg [.lit (.int .u8 144), .lit (.int .u8 191)], .agg [.lit (.int .u8 128), .lit (.int .u8 143)], .agg [.lit (.int .u8 0), .lit (.int .u8 0)], .agg [.lit (.int .u8 0), .lit (.int .u8 0)], .agg [.lit (.int .u8 0), .lit (.int .u8 0)], .agg [.lit (.int .u8 0), .lit (.int .u8 0)], .agg [.lit (.int .u8 0), .lit (.int .u8 0)], .agg [.lit (.int .u8 0), .lit (.int .u8 0)], .agg [.lit (.int .u8 0), .lit (.int .u8 0)], .agg [.lit (.int .u8 0), .lit (.int .u8 0)], .agg [.lit (.int .u8 0), .lit (.int .u8 0)], .agg [.lit (.int .u8 0), .lit (.int .u8 0)], .agg [.lit (.int .u8 0), .lit (.int .u8 0)]]
/-- One of Go's own tables, pinned by name: the form's constant. -/
def laid_unicode_utf8_first : DataW Unit := Go.Pinned.utf8First

/-- 'laws.FnExactSchemaUsed': WHATEVER THE INPUT: true; the input reads as it did. -/
def fnExactSchemaUsedSpec : ChangeSpec := { name := "fnExactSchemaUsed", fn := fun _ => fun
  | [d1, d2] => { results := [.lit (.bool true)], args := [d1, d2] }
  | _ => none }
def fnExactSchemaUsedRow : OpenClaim := { program := "ytmdacedmjbiekaagreatdoor", sum := "406b07b2a1f5ae09b60245bea8d02f2155561b0eb37a362bf7dbe1a38017c527", func := "loop.example/wireforms/laws.FnExactSchemaUsed", spec := "fnExactSchemaUsed", inPlace := ["internal/bytealg.IndexByteString", "internal/bytealg.IndexString", "internal/bytealg.CountString"], unfollowed := true, recurses := true, named := ["internal/bytealg.MaxLen", "unicode/utf8.first", "unicode/utf8.acceptRanges"], apart := false, laid := [("unicode/utf8.acceptRanges", laid_unicode_utf8_acceptRanges), ("unicode/utf8.first", laid_unicode_utf8_first)] }
def FnExactSchemaUsedSaid : Prop := fnExactSchemaUsedRow.holds Tryz.pinned (OpenSpec.ofChange fnExactSchemaUsedSpec)

/-- ITS FALSE NEIGHBOUR: 'it returns false'. Refute it at one input. -/
def fnExactSchemaUsedWrong : ChangeSpec := { name := "fnExactSchemaUsed", fn := fun _ => fun
  | [d1, d2] => { results := [.lit (.bool false)], args := [d1, d2] }
  | _ => none }
def FnExactSchemaUsedWrongFalsely : Prop := fnExactSchemaUsedRow.holds Tryz.pinned (OpenSpec.ofChange fnExactSchemaUsedWrong)

/-- 'laws.FnSchemaField': WHATEVER THE INPUT: true; the input reads as it did. -/
def fnSchemaFieldSpec : ChangeSpec := { name := "fnSchemaField", fn := fun _ => fun
  | [d] => { results := [.lit (.bool true)], args := [d] }
  | _ => none }
def fnSchemaFieldRow : OpenClaim := { program := "ytmdacedmjbiekaagreatdoor", sum := "406b07b2a1f5ae09b60245bea8d02f2155561b0eb37a362bf7dbe1a38017c527", func := "loop.example/wireforms/laws.FnSchemaField", spec := "fnSchemaField", inPlace := ["internal/bytealg.IndexByteString", "internal/bytealg.IndexString", "internal/bytealg.CountString", "internal/abi.NoEscape", "internal/bytealg.MakeNoZero"], recurses := true, named := ["internal/bytealg.MaxLen", "unicode/utf8.first", "unicode/utf8.acceptRanges"], apart := false, laid := [("unicode/utf8.acceptRanges", laid_unicode_utf8_acceptRanges), ("unicode/utf8.first", laid_unicode_utf8_first)] }
def FnSchemaFieldSaid : Prop := fnSchemaFieldRow.holds Tryz.pinned (OpenSpec.ofChange fnSchemaFieldSpec)

/-- ITS FALSE NEIGHBOUR: 'it returns false'. Refute it at one input. -/
def fnSchemaFieldWrong : ChangeSpec := { name := "fnSchemaField", fn := fun _ => fun
  | [d] => { results := [.lit (.bool false)], args := [d] }
  | _ => none }
def FnSchemaFieldWrongFalsely : Prop := fnSchemaFieldRow.holds Tryz.pinned (OpenSpec.ofChange fnSchemaFieldWrong)

/-- 'laws.FnSchemaUsed': WHATEVER THE INPUT: true; the input reads as it did. -/
def fnSchemaUsedSpec : ChangeSpec := { name := "fnSchemaUsed", fn := fun _ => fun
  | [d] => { results := [.lit (.bool true)], args := [d] }
  | _ => none }
def fnSchemaUsedRow : OpenClaim := { program := "ytmdacedmjbiekaagreatdoor", sum := "406b07b2a1f5ae09b60245bea8d02f2155561b0eb37a362bf7dbe1a38017c527", func := "loop.example/wireforms/laws.FnSchemaUsed", spec := "fnSchemaUsed", inPlace := ["internal/bytealg.IndexByteString", "internal/bytealg.IndexString", "internal/bytealg.CountString"], unfollowed := true, recurses := true, named := ["internal/bytealg.MaxLen", "unicode/utf8.first", "unicode/utf8.acceptRanges"], apart := false, laid := [("unicode/utf8.acceptRanges", laid_unicode_utf8_acceptRanges), ("unicode/utf8.first", laid_unicode_utf8_first)] }
def FnSchemaUsedSaid : Prop := fnSchemaUsedRow.holds Tryz.pinned (OpenSpec.ofChange fnSchemaUsedSpec)

/-- ITS FALSE NEIGHBOUR: 'it returns false'. Refute it at one input. -/
def fnSchemaUsedWrong : ChangeSpec := { name := "fnSchemaUsed", fn := fun _ => fun
  | [d] => { results := [.lit (.bool false)], args := [d] }
  | _ => none }
def FnSchemaUsedWrongFalsely : Prop := fnSchemaUsedRow.holds Tryz.pinned (OpenSpec.ofChange fnSchemaUsedWrong)

/-- 'laws.FnExactValueOk': WHATEVER THE INPUT: true; the input reads as it did. -/
def fnExactValueOkSpec : ChangeSpec := { name := "fnExactValueOk", fn := fun _ => fun
  | [d1, d2, d3] => { results := [.lit (.bool true)], args := [d1, d2, d3] }
  | _ => none }
def fnExactValueOkRow : OpenClaim := { program := "ytmdacedmjbiekaagreatdoor", sum := "406b07b2a1f5ae09b60245bea8d02f2155561b0eb37a362bf7dbe1a38017c527", func := "loop.example/wireforms/laws.FnExactValueOk", spec := "fnExactValueOk", inPlace := ["internal/bytealg.IndexByteString", "internal/bytealg.IndexString", "internal/bytealg.CountString", "internal/abi.NoEscape", "internal/bytealg.MakeNoZero"], recurses := true, named := ["internal/bytealg.MaxLen", "unicode/utf8.first", "unicode/utf8.acceptRanges"], apart := false, laid := [("unicode/utf8.acceptRanges", laid_unicode_utf8_acceptRanges), ("unicode/utf8.first", laid_unicode_utf8_first)] }
def FnExactValueOkSaid : Prop := fnExactValueOkRow.holds Tryz.pinned (OpenSpec.ofChange fnExactValueOkSpec)

/-- ITS FALSE NEIGHBOUR: 'it returns false'. Refute it at one input. -/
def fnExactValueOkWrong : ChangeSpec := { name := "fnExactValueOk", fn := fun _ => fun
  | [d1, d2, d3] => { results := [.lit (.bool false)], args := [d1, d2, d3] }
  | _ => none }
def FnExactValueOkWrongFalsely : Prop := fnExactValueOkRow.holds Tryz.pinned (OpenSpec.ofChange fnExactValueOkWrong)

/-- 'laws.FnExactValueDeep': WHATEVER THE INPUT: true; the input reads as it did. -/
def fnExactValueDeepSpec : ChangeSpec := { name := "fnExactValueDeep", fn := fun _ => fun
  | [d1, d2, d3] => { results := [.lit (.bool true)], args := [d1, d2, d3] }
  | _ => none }
def fnExactValueDeepRow : OpenClaim := { program := "ytmdacedmjbiekaagreatdoor", sum := "406b07b2a1f5ae09b60245bea8d02f2155561b0eb37a362bf7dbe1a38017c527", func := "loop.example/wireforms/laws.FnExactValueDeep", spec := "fnExactValueDeep", inPlace := ["internal/bytealg.IndexByteString", "internal/bytealg.IndexString", "internal/bytealg.CountString", "internal/abi.NoEscape", "internal/bytealg.MakeNoZero"], recurses := true, named := ["internal/bytealg.MaxLen", "unicode/utf8.first", "unicode/utf8.acceptRanges"], apart := false, laid := [("unicode/utf8.acceptRanges", laid_unicode_utf8_acceptRanges), ("unicode/utf8.first", laid_unicode_utf8_first)] }
def FnExactValueDeepSaid : Prop := fnExactValueDeepRow.holds Tryz.pinned (OpenSpec.ofChange fnExactValueDeepSpec)

/-- ITS FALSE NEIGHBOUR: 'it returns false'. Refute it at one input. -/
def fnExactValueDeepWrong : ChangeSpec := { name := "fnExactValueDeep", fn := fun _ => fun
  | [d1, d2, d3] => { results := [.lit (.bool false)], args := [d1, d2, d3] }
  | _ => none }
def FnExactValueDeepWrongFalsely : Prop := fnExactValueDeepRow.holds Tryz.pinned (OpenSpec.ofChange fnExactValueDeepWrong)

/-- 'laws.FnExactValueField': WHATEVER THE INPUT: true; the input reads as it did. -/
def fnExactValueFieldSpec : ChangeSpec := { name := "fnExactValueField", fn := fun _ => fun
  | [d1, d2, d3, d4] => { results := [.lit (.bool true)], args := [d1, d2, d3, d4] }
  | _ => none }
def fnExactValueFieldRow : OpenClaim := { program := "ytmdacedmjbiekaagreatdoor", sum := "406b07b2a1f5ae09b60245bea8d02f2155561b0eb37a362bf7dbe1a38017c527", func := "loop.example/wireforms/laws.FnExactValueField", spec := "fnExactValueField", inPlace := ["internal/bytealg.IndexByteString", "internal/bytealg.IndexString", "internal/bytealg.CountString", "internal/abi.NoEscape", "internal/bytealg.MakeNoZero"], recurses := true, named := ["internal/bytealg.MaxLen", "unicode/utf8.first", "unicode/utf8.acceptRanges"], apart := false, laid := [("unicode/utf8.acceptRanges", laid_unicode_utf8_acceptRanges), ("unicode/utf8.first", laid_unicode_utf8_first)] }
def FnExactValueFieldSaid : Prop := fnExactValueFieldRow.holds Tryz.pinned (OpenSpec.ofChange fnExactValueFieldSpec)

/-- ITS FALSE NEIGHBOUR: 'it returns false'. Refute it at one input. -/
def fnExactValueFieldWrong : ChangeSpec := { name := "fnExactValueField", fn := fun _ => fun
  | [d1, d2, d3, d4] => { results := [.lit (.bool false)], args := [d1, d2, d3, d4] }
  | _ => none }
def FnExactValueFieldWrongFalsely : Prop := fnExactValueFieldRow.holds Tryz.pinned (OpenSpec.ofChange fnExactValueFieldWrong)

/-- 'laws.FnExactValueSet': WHATEVER THE INPUT: true; the input reads as it did. -/
def fnExactValueSetSpec : ChangeSpec := { name := "fnExactValueSet", fn := fun _ => fun
  | [d1, d2, d3, d4, d5] => { results := [.lit (.bool true)], args := [d1, d2, d3, d4, d5] }
  | _ => none }
def fnExactValueSetRow : OpenClaim := { program := "ytmdacedmjbiekaagreatdoor", sum := "406b07b2a1f5ae09b60245bea8d02f2155561b0eb37a362bf7dbe1a38017c527", func := "loop.example/wireforms/laws.FnExactValueSet", spec := "fnExactValueSet", inPlace := ["internal/bytealg.IndexByteString", "internal/bytealg.IndexString", "internal/bytealg.CountString", "internal/abi.NoEscape", "internal/bytealg.MakeNoZero"], unfollowed := true, recurses := true, named := ["internal/bytealg.MaxLen", "unicode/utf8.first", "unicode/utf8.acceptRanges"], apart := false, laid := [("unicode/utf8.acceptRanges", laid_unicode_utf8_acceptRanges), ("unicode/utf8.first", laid_unicode_utf8_first)] }
def FnExactValueSetSaid : Prop := fnExactValueSetRow.holds Tryz.pinned (OpenSpec.ofChange fnExactValueSetSpec)

/-- ITS FALSE NEIGHBOUR: 'it returns false'. Refute it at one input. -/
def fnExactValueSetWrong : ChangeSpec := { name := "fnExactValueSet", fn := fun _ => fun
  | [d1, d2, d3, d4, d5] => { results := [.lit (.bool false)], args := [d1, d2, d3, d4, d5] }
  | _ => none }
def FnExactValueSetWrongFalsely : Prop := fnExactValueSetRow.holds Tryz.pinned (OpenSpec.ofChange fnExactValueSetWrong)

/-- 'laws.FnValueDeep': WHATEVER THE INPUT: true; the input reads as it did. -/
def fnValueDeepSpec : ChangeSpec := { name := "fnValueDeep", fn := fun _ => fun
  | [d] => { results := [.lit (.bool true)], args := [d] }
  | _ => none }
def fnValueDeepRow : OpenClaim := { program := "ytmdacedmjbiekaagreatdoor", sum := "406b07b2a1f5ae09b60245bea8d02f2155561b0eb37a362bf7dbe1a38017c527", func := "loop.example/wireforms/laws.FnValueDeep", spec := "fnValueDeep", inPlace := ["internal/bytealg.IndexByteString", "internal/bytealg.IndexString", "internal/bytealg.CountString", "internal/abi.NoEscape", "internal/bytealg.MakeNoZero"], recurses := true, named := ["internal/bytealg.MaxLen", "unicode/utf8.first", "unicode/utf8.acceptRanges"], apart := false, laid := [("unicode/utf8.acceptRanges", laid_unicode_utf8_acceptRanges), ("unicode/utf8.first", laid_unicode_utf8_first)] }
def FnValueDeepSaid : Prop := fnValueDeepRow.holds Tryz.pinned (OpenSpec.ofChange fnValueDeepSpec)

/-- ITS FALSE NEIGHBOUR: 'it returns false'. Refute it at one input. -/
def fnValueDeepWrong : ChangeSpec := { name := "fnValueDeep", fn := fun _ => fun
  | [d] => { results := [.lit (.bool false)], args := [d] }
  | _ => none }
def FnValueDeepWrongFalsely : Prop := fnValueDeepRow.holds Tryz.pinned (OpenSpec.ofChange fnValueDeepWrong)

/-- 'laws.FnValueField': WHATEVER THE INPUT: true; the input reads as it did. -/
def fnValueFieldSpec : ChangeSpec := { name := "fnValueField", fn := fun _ => fun
  | [d] => { results := [.lit (.bool true)], args := [d] }
  | _ => none }
def fnValueFieldRow : OpenClaim := { program := "ytmdacedmjbiekaagreatdoor", sum := "406b07b2a1f5ae09b60245bea8d02f2155561b0eb37a362bf7dbe1a38017c527", func := "loop.example/wireforms/laws.FnValueField", spec := "fnValueField", inPlace := ["internal/bytealg.IndexByteString", "internal/bytealg.IndexString", "internal/bytealg.CountString", "internal/abi.NoEscape", "internal/bytealg.MakeNoZero"], unfollowed := true, recurses := true, named := ["internal/bytealg.MaxLen", "unicode/utf8.first", "unicode/utf8.acceptRanges"], apart := false, laid := [("unicode/utf8.acceptRanges", laid_unicode_utf8_acceptRanges), ("unicode/utf8.first", laid_unicode_utf8_first)] }
def FnValueFieldSaid : Prop := fnValueFieldRow.holds Tryz.pinned (OpenSpec.ofChange fnValueFieldSpec)

/-- ITS FALSE NEIGHBOUR: 'it returns false'. Refute it at one input. -/
def fnValueFieldWrong : ChangeSpec := { name := "fnValueField", fn := fun _ => fun
  | [d] => { results := [.lit (.bool false)], args := [d] }
  | _ => none }
def FnValueFieldWrongFalsely : Prop := fnValueFieldRow.holds Tryz.pinned (OpenSpec.ofChange fnValueFieldWrong)

/-- 'laws.FnSetOrder': WHATEVER THE INPUT: true; the input reads as it did. -/
def fnSetOrderSpec : ChangeSpec := { name := "fnSetOrder", fn := fun _ => fun
  | [d1, d2] => { results := [.lit (.bool true)], args := [d1, d2] }
  | _ => none }
def fnSetOrderRow : OpenClaim := { program := "ytmdacedmjbiekaagreatdoor", sum := "406b07b2a1f5ae09b60245bea8d02f2155561b0eb37a362bf7dbe1a38017c527", func := "loop.example/wireforms/laws.FnSetOrder", spec := "fnSetOrder", inPlace := ["internal/bytealg.IndexByteString", "internal/bytealg.IndexString", "internal/bytealg.CountString", "internal/abi.NoEscape", "internal/bytealg.MakeNoZero"], unfollowed := true, recurses := true, named := ["internal/bytealg.MaxLen", "unicode/utf8.first", "unicode/utf8.acceptRanges"], apart := false, laid := [("unicode/utf8.acceptRanges", laid_unicode_utf8_acceptRanges), ("unicode/utf8.first", laid_unicode_utf8_first)] }
def FnSetOrderSaid : Prop := fnSetOrderRow.holds Tryz.pinned (OpenSpec.ofChange fnSetOrderSpec)

/-- ITS FALSE NEIGHBOUR: 'it returns false'. Refute it at one input. -/
def fnSetOrderWrong : ChangeSpec := { name := "fnSetOrder", fn := fun _ => fun
  | [d1, d2] => { results := [.lit (.bool false)], args := [d1, d2] }
  | _ => none }
def FnSetOrderWrongFalsely : Prop := fnSetOrderRow.holds Tryz.pinned (OpenSpec.ofChange fnSetOrderWrong)

/-- 'laws.FnValueSet': WHATEVER THE INPUT: true; the input reads as it did. -/
def fnValueSetSpec : ChangeSpec := { name := "fnValueSet", fn := fun _ => fun
  | [d] => { results := [.lit (.bool true)], args := [d] }
  | _ => none }
def fnValueSetRow : OpenClaim := { program := "ytmdacedmjbiekaagreatdoor", sum := "406b07b2a1f5ae09b60245bea8d02f2155561b0eb37a362bf7dbe1a38017c527", func := "loop.example/wireforms/laws.FnValueSet", spec := "fnValueSet", inPlace := ["internal/bytealg.IndexByteString", "internal/bytealg.IndexString", "internal/bytealg.CountString", "internal/abi.NoEscape", "internal/bytealg.MakeNoZero"], unfollowed := true, recurses := true, named := ["internal/bytealg.MaxLen", "unicode/utf8.first", "unicode/utf8.acceptRanges"], apart := false, laid := [("unicode/utf8.acceptRanges", laid_unicode_utf8_acceptRanges), ("unicode/utf8.first", laid_unicode_utf8_first)] }
def FnValueSetSaid : Prop := fnValueSetRow.holds Tryz.pinned (OpenSpec.ofChange fnValueSetSpec)

/-- ITS FALSE NEIGHBOUR: 'it returns false'. Refute it at one input. -/
def fnValueSetWrong : ChangeSpec := { name := "fnValueSet", fn := fun _ => fun
  | [d] => { results := [.lit (.bool false)], args := [d] }
  | _ => none }
def FnValueSetWrongFalsely : Prop := fnValueSetRow.holds Tryz.pinned (OpenSpec.ofChange fnValueSetWrong)

/- THE SECOND FORM. 'bulk': how many values and letters a reading holds, each counted each time it is reached (what is shared counts as often as it is met; a slice's spare places count too). A statement '..UptoSaid' is the law's where the arguments, and the package variables that the reading takes, are together of bulk at most 1048576: NARROWER than '..Said'. Prove '..Said' where nothing that the law and all that it calls make is longer than what came in: it says more and counts as full. Else prove '..UptoSaid'. A law counts once. -/
mutual
def uptoBulk {H : Type} : DataW H → Nat
  | .lit (.string bytes) => bytes.length + 1
  | .lit _ => 1
  | .nil => 1
  | .ptr d => uptoBulk d + 1
  | .slice elems spare => uptoBulkAll elems + uptoBulkAll spare + 1
  | .agg parts => uptoBulkAll parts + 1
  | .iface _ d => uptoBulk d + 1
  | .map entries => uptoBulkEntries entries + 1
  | .held _ => 1
def uptoBulkAll {H : Type} : List (DataW H) → Nat
  | [] => 0
  | d :: r => uptoBulk d + uptoBulkAll r
def uptoBulkEntries {H : Type} : List (Lit × DataW H) → Nat
  | [] => 0
  | x :: r => uptoBulkEntry x + uptoBulkEntries r
def uptoBulkEntry {H : Type} : Lit × DataW H → Nat
  | (.string bytes, d) => bytes.length + uptoBulk d + 1
  | (_, d) => uptoBulk d + 1
 end
def uptoSmall : (H : Type) → List (DataW H) → Bool := fun _ ds => decide (uptoBulkAll ds ≤ 1048576)
def OpenSpec.upto (s : _root_.Go.ChangeSpec) : _root_.Go.OpenSpec := { _root_.Go.OpenSpec.ofChange s with cond := some uptoSmall }

/-- 'laws.FnExactSchemaUsed', WHERE WHAT IT READS IS OF BULK AT MOST 1048576: true; the input reads as it did. -/
def fnExactSchemaUsedUptoRow : OpenClaim := { program := "ytmdacedmjbiekaagreatdoor", sum := "406b07b2a1f5ae09b60245bea8d02f2155561b0eb37a362bf7dbe1a38017c527", func := "loop.example/wireforms/laws.FnExactSchemaUsed", spec := "fnExactSchemaUsed", inPlace := ["internal/bytealg.IndexByteString", "internal/bytealg.IndexString", "internal/bytealg.CountString"], unfollowed := true, recurses := true, named := ["internal/bytealg.MaxLen", "unicode/utf8.first", "unicode/utf8.acceptRanges"], apart := false, laid := [("unicode/utf8.acceptRanges", laid_unicode_utf8_acceptRanges), ("unicode/utf8.first", laid_unicode_utf8_first)], narrowed := true }
def FnExactSchemaUsedUptoSaid : Prop := fnExactSchemaUsedUptoRow.holds Tryz.pinned (OpenSpec.upto fnExactSchemaUsedSpec)

/-- 'laws.FnSchemaField', WHERE WHAT IT READS IS OF BULK AT MOST 1048576: true; the input reads as it did. -/
def fnSchemaFieldUptoRow : OpenClaim := { program := "ytmdacedmjbiekaagreatdoor", sum := "406b07b2a1f5ae09b60245bea8d02f2155561b0eb37a362bf7dbe1a38017c527", func := "loop.example/wireforms/laws.FnSchemaField", spec := "fnSchemaField", inPlace := ["internal/bytealg.IndexByteString", "internal/bytealg.IndexString", "internal/bytealg.CountString", "internal/abi.NoEscape", "internal/bytealg.MakeNoZero"], recurses := true, named := ["internal/bytealg.MaxLen", "unicode/utf8.first", "unicode/utf8.acceptRanges"], apart := false, laid := [("unicode/utf8.acceptRanges", laid_unicode_utf8_acceptRanges), ("unicode/utf8.first", laid_unicode_utf8_first)], narrowed := true }
def FnSchemaFieldUptoSaid : Prop := fnSchemaFieldUptoRow.holds Tryz.pinned (OpenSpec.upto fnSchemaFieldSpec)

/-- 'laws.FnSchemaUsed', WHERE WHAT IT READS IS OF BULK AT MOST 1048576: true; the input reads as it did. -/
def fnSchemaUsedUptoRow : OpenClaim := { program := "ytmdacedmjbiekaagreatdoor", sum := "406b07b2a1f5ae09b60245bea8d02f2155561b0eb37a362bf7dbe1a38017c527", func := "loop.example/wireforms/laws.FnSchemaUsed", spec := "fnSchemaUsed", inPlace := ["internal/bytealg.IndexByteString", "internal/bytealg.IndexString", "internal/bytealg.CountString"], unfollowed := true, recurses := true, named := ["internal/bytealg.MaxLen", "unicode/utf8.first", "unicode/utf8.acceptRanges"], apart := false, laid := [("unicode/utf8.acceptRanges", laid_unicode_utf8_acceptRanges), ("unicode/utf8.first", laid_unicode_utf8_first)], narrowed := true }
def FnSchemaUsedUptoSaid : Prop := fnSchemaUsedUptoRow.holds Tryz.pinned (OpenSpec.upto fnSchemaUsedSpec)

/-- 'laws.FnExactValueOk', WHERE WHAT IT READS IS OF BULK AT MOST 1048576: true; the input reads as it did. -/
def fnExactValueOkUptoRow : OpenClaim := { program := "ytmdacedmjbiekaagreatdoor", sum := "406b07b2a1f5ae09b60245bea8d02f2155561b0eb37a362bf7dbe1a38017c527", func := "loop.example/wireforms/laws.FnExactValueOk", spec := "fnExactValueOk", inPlace := ["internal/bytealg.IndexByteString", "internal/bytealg.IndexString", "internal/bytealg.CountString", "internal/abi.NoEscape", "internal/bytealg.MakeNoZero"], recurses := true, named := ["internal/bytealg.MaxLen", "unicode/utf8.first", "unicode/utf8.acceptRanges"], apart := false, laid := [("unicode/utf8.acceptRanges", laid_unicode_utf8_acceptRanges), ("unicode/utf8.first", laid_unicode_utf8_first)], narrowed := true }
def FnExactValueOkUptoSaid : Prop := fnExactValueOkUptoRow.holds Tryz.pinned (OpenSpec.upto fnExactValueOkSpec)

/-- 'laws.FnExactValueDeep', WHERE WHAT IT READS IS OF BULK AT MOST 1048576: true; the input reads as it did. -/
def fnExactValueDeepUptoRow : OpenClaim := { program := "ytmdacedmjbiekaagreatdoor", sum := "406b07b2a1f5ae09b60245bea8d02f2155561b0eb37a362bf7dbe1a38017c527", func := "loop.example/wireforms/laws.FnExactValueDeep", spec := "fnExactValueDeep", inPlace := ["internal/bytealg.IndexByteString", "internal/bytealg.IndexString", "internal/bytealg.CountString", "internal/abi.NoEscape", "internal/bytealg.MakeNoZero"], recurses := true, named := ["internal/bytealg.MaxLen", "unicode/utf8.first", "unicode/utf8.acceptRanges"], apart := false, laid := [("unicode/utf8.acceptRanges", laid_unicode_utf8_acceptRanges), ("unicode/utf8.first", laid_unicode_utf8_first)], narrowed := true }
def FnExactValueDeepUptoSaid : Prop := fnExactValueDeepUptoRow.holds Tryz.pinned (OpenSpec.upto fnExactValueDeepSpec)

/-- 'laws.FnExactValueField', WHERE WHAT IT READS IS OF BULK AT MOST 1048576: true; the input reads as it did. -/
def fnExactValueFieldUptoRow : OpenClaim := { program := "ytmdacedmjbiekaagreatdoor", sum := "406b07b2a1f5ae09b60245bea8d02f2155561b0eb37a362bf7dbe1a38017c527", func := "loop.example/wireforms/laws.FnExactValueField", spec := "fnExactValueField", inPlace := ["internal/bytealg.IndexByteString", "internal/bytealg.IndexString", "internal/bytealg.CountString", "internal/abi.NoEscape", "internal/bytealg.MakeNoZero"], recurses := true, named := ["internal/bytealg.MaxLen", "unicode/utf8.first", "unicode/utf8.acceptRanges"], apart := false, laid := [("unicode/utf8.acceptRanges", laid_unicode_utf8_acceptRanges), ("unicode/utf8.first", laid_unicode_utf8_first)], narrowed := true }
def FnExactValueFieldUptoSaid : Prop := fnExactValueFieldUptoRow.holds Tryz.pinned (OpenSpec.upto fnExactValueFieldSpec)

/-- 'laws.FnExactValueSet', WHERE WHAT IT READS IS OF BULK AT MOST 1048576: true; the input reads as it did. -/
def fnExactValueSetUptoRow : OpenClaim := { program := "ytmdacedmjbiekaagreatdoor", sum := "406b07b2a1f5ae09b60245bea8d02f2155561b0eb37a362bf7dbe1a38017c527", func := "loop.example/wireforms/laws.FnExactValueSet", spec := "fnExactValueSet", inPlace := ["internal/bytealg.IndexByteString", "internal/bytealg.IndexString", "internal/bytealg.CountString", "internal/abi.NoEscape", "internal/bytealg.MakeNoZero"], unfollowed := true, recurses := true, named := ["internal/bytealg.MaxLen", "unicode/utf8.first", "unicode/utf8.acceptRanges"], apart := false, laid := [("unicode/utf8.acceptRanges", laid_unicode_utf8_acceptRanges), ("unicode/utf8.first", laid_unicode_utf8_first)], narrowed := true }
def FnExactValueSetUptoSaid : Prop := fnExactValueSetUptoRow.holds Tryz.pinned (OpenSpec.upto fnExactValueSetSpec)

/-- 'laws.FnValueDeep', WHERE WHAT IT READS IS OF BULK AT MOST 1048576: true; the input reads as it did. -/
def fnValueDeepUptoRow : OpenClaim := { program := "ytmdacedmjbiekaagreatdoor", sum := "406b07b2a1f5ae09b60245bea8d02f2155561b0eb37a362bf7dbe1a38017c527", func := "loop.example/wireforms/laws.FnValueDeep", spec := "fnValueDeep", inPlace := ["internal/bytealg.IndexByteString", "internal/bytealg.IndexString", "internal/bytealg.CountString", "internal/abi.NoEscape", "internal/bytealg.MakeNoZero"], recurses := true, named := ["internal/bytealg.MaxLen", "unicode/utf8.first", "unicode/utf8.acceptRanges"], apart := false, laid := [("unicode/utf8.acceptRanges", laid_unicode_utf8_acceptRanges), ("unicode/utf8.first", laid_unicode_utf8_first)], narrowed := true }
def FnValueDeepUptoSaid : Prop := fnValueDeepUptoRow.holds Tryz.pinned (OpenSpec.upto fnValueDeepSpec)

/-- 'laws.FnValueField', WHERE WHAT IT READS IS OF BULK AT MOST 1048576: true; the input reads as it did. -/
def fnValueFieldUptoRow : OpenClaim := { program := "ytmdacedmjbiekaagreatdoor", sum := "406b07b2a1f5ae09b60245bea8d02f2155561b0eb37a362bf7dbe1a38017c527", func := "loop.example/wireforms/laws.FnValueField", spec := "fnValueField", inPlace := ["internal/bytealg.IndexByteString", "internal/bytealg.IndexString", "internal/bytealg.CountString", "internal/abi.NoEscape", "internal/bytealg.MakeNoZero"], unfollowed := true, recurses := true, named := ["internal/bytealg.MaxLen", "unicode/utf8.first", "unicode/utf8.acceptRanges"], apart := false, laid := [("unicode/utf8.acceptRanges", laid_unicode_utf8_acceptRanges), ("unicode/utf8.first", laid_unicode_utf8_first)], narrowed := true }
def FnValueFieldUptoSaid : Prop := fnValueFieldUptoRow.holds Tryz.pinned (OpenSpec.upto fnValueFieldSpec)

/-- 'laws.FnSetOrder', WHERE WHAT IT READS IS OF BULK AT MOST 1048576: true; the input reads as it did. -/
def fnSetOrderUptoRow : OpenClaim := { program := "ytmdacedmjbiekaagreatdoor", sum := "406b07b2a1f5ae09b60245bea8d02f2155561b0eb37a362bf7dbe1a38017c527", func := "loop.example/wireforms/laws.FnSetOrder", spec := "fnSetOrder", inPlace := ["internal/bytealg.IndexByteString", "internal/bytealg.IndexString", "internal/bytealg.CountString", "internal/abi.NoEscape", "internal/bytealg.MakeNoZero"], unfollowed := true, recurses := true, named := ["internal/bytealg.MaxLen", "unicode/utf8.first", "unicode/utf8.acceptRanges"], apart := false, laid := [("unicode/utf8.acceptRanges", laid_unicode_utf8_acceptRanges), ("unicode/utf8.first", laid_unicode_utf8_first)], narrowed := true }
def FnSetOrderUptoSaid : Prop := fnSetOrderUptoRow.holds Tryz.pinned (OpenSpec.upto fnSetOrderSpec)

/-- 'laws.FnValueSet', WHERE WHAT IT READS IS OF BULK AT MOST 1048576: true; the input reads as it did. -/
def fnValueSetUptoRow : OpenClaim := { program := "ytmdacedmjbiekaagreatdoor", sum := "406b07b2a1f5ae09b60245bea8d02f2155561b0eb37a362bf7dbe1a38017c527", func := "loop.example/wireforms/laws.FnValueSet", spec := "fnValueSet", inPlace := ["internal/bytealg.IndexByteString", "internal/bytealg.IndexString", "internal/bytealg.CountString", "internal/abi.NoEscape", "internal/bytealg.MakeNoZero"], unfollowed := true, recurses := true, named := ["internal/bytealg.MaxLen", "unicode/utf8.first", "unicode/utf8.acceptRanges"], apart := false, laid := [("unicode/utf8.acceptRanges", laid_unicode_utf8_acceptRanges), ("unicode/utf8.first", laid_unicode_utf8_first)], narrowed := true }
def FnValueSetUptoSaid : Prop := fnValueSetUptoRow.holds Tryz.pinned (OpenSpec.upto fnValueSetSpec)

end Rows
end Go.Proofs.YtmdacedmjbiekaaGreatDoor
