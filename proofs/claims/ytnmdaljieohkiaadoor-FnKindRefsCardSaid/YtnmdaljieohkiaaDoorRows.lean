/-
  NARROWER THAN 'FOR EVERY INPUT', by the rows' own cells (each row's printed sentence says how): FnExactKindOk: laid · FnExactKindPart: laid · FnExactKindDeep: laid · FnExactKindName: laid · FnKindOk: laid · FnKindName: laid · FnKindPart: laid · FnKindDeep: laid · FnExactKindRefs: laid · FnKindRefs: laid.
  DERIVED. THE GIVEN ROWS OF THIS SEAT. 10 by the template 'for every input the law returns true; each argument reads behind the call as it read before'; 0 by the template 'total and deterministic' (their statements: YtnmdaljieohkiaaDoorTotals.lean).
  GIVEN WITH THE SEED: the statements are not yours to turn. If you find one false, say at which input.
  Laid BY PROGRAM, IN A SANDBOX (cutbox-rows.mjs): the forced cells as the released guide's own fill.sh prints them over the translation 5252cbb03a15f20b… (all of the seat's roots in one cut). By AI agents, Wed Nov 11 2026. No macro, syntax, notation, axiom, sorry.
-/
import Derived.Test.YtnmdaljieohkiaaDoorChecked
import GoSem.PinnedTables
import GoSem.Claim
import GoSem.ClaimJoined
import GoSem.ClaimMapViews
import Derived.JoinedTies
import Derived.KernelRfl
namespace Go.Proofs.YtnmdaljieohkiaaDoor
/- THE CELL 'sum', in the pinned program and in every row, IS THE sha256 OF THE DUMP (.gsa) THAT YtnmdaljieohkiaaDoorProg.lean LOADS. Nothing in Lean hashes anything: it is a label: what it is worth is what the hold of that sum in a sandbox is worth. -/
noncomputable def Tryd.pinned : Pinned := { name := "ytnmdaljieohkiaadoor", sum := "5252cbb03a15f20bc0302ad1d717b716f22a33ee069a567bcfad15c8aa306647", checked := Tryd.checked }
namespace Rows
def none {H : Type} : Left H := { results := [], args := [] }

/- WHAT THE LISTED PACKAGE-LEVEL VARIABLES READ AS WHEN THE CALL BEGINS. Each datum BY PROGRAM (the guide's laid-datum.mjs) off the statement by which the dump's own 'gosem.cut.vars' lays the variable. In a bare row this is a premise. The card (YtnmdaljieohkiaaDoorCards.lean) ties it to the program's text. -/
def laid_unicode_utf8_acceptRanges {H : Type} : DataW H := .agg [.agg [.lit (.int .u8 128), .lit (.int .u8 191)], .agg [.lit (.int .u8 160), .lit (.int .u8 191)], .agg [.lit (.int .u8 128), .lit (.int .u8 159)], .agg [.lit (.int .u8 144), .lit (.int .u8 191)], .agg [.lit (.int .u8 128), .lit (.int .u8 143)], .agg [.lit (.int .u8 0), .lit (.int .u8 0)], .agg [.lit (.int .u8 0), .lit (.int .u8 0)], .agg [.lit (.int .u8 0), .lit (.int .u8 0)], .agg [.lit (.int .u8 0), .lit (.int .u8 0)], .agg [.lit (.int .u8 0), .lit (.int .u8 0)], .agg [.lit (.int .u8 0), .lit (.int .u8 0)], .agg [.lit (.int .u8 0), .lit (.int .u8 0)], .agg [.lit (.int .u8 0), .lit (.int .u8 0)], .agg [.lit (.int .u8 0), .lit (.int .u8 0)], .agg [.lit (.int .u8 0), .lit (.int .u8 0)], .agg [.lit (.int .u8 0), .lit (.int .u8 0)]]
/-- One of Go's own tables, pinned by name: the form's constant. -/
def laid_unicode_utf8_first : DataW Unit := Go.Pinned.utf8First

/-- 'laws.FnExactKindOk': WHATEVER THE INPUT: true; the input reads as it did. -/
def fnExactKindOkSpec : ChangeSpec := { name := "fnExactKindOk", fn := fun _ => fun
  | [d] => { results := [.lit (.bool true)], args := [d] }
  | _ => none }
def fnExactKindOkRow : OpenClaim := { program := "ytnmdaljieohkiaadoor", sum := "5252cbb03a15f20bc0302ad1d717b716f22a33ee069a567bcfad15c8aa306647", func := "loop.example/wireforms/laws.FnExactKindOk", spec := "fnExactKindOk", inPlace := ["internal/bytealg.IndexByteString", "internal/bytealg.IndexString"], recurses := true, named := ["unicode/utf8.first", "unicode/utf8.acceptRanges", "internal/bytealg.MaxLen"], apart := false, laid := [("unicode/utf8.acceptRanges", laid_unicode_utf8_acceptRanges), ("unicode/utf8.first", laid_unicode_utf8_first)] }
def FnExactKindOkSaid : Prop := fnExactKindOkRow.holds Tryd.pinned (OpenSpec.ofChange fnExactKindOkSpec)

/-- ITS FALSE NEIGHBOUR: 'it returns false'. Refute it at one input. -/
def fnExactKindOkWrong : ChangeSpec := { name := "fnExactKindOk", fn := fun _ => fun
  | [d] => { results := [.lit (.bool false)], args := [d] }
  | _ => none }
def FnExactKindOkWrongFalsely : Prop := fnExactKindOkRow.holds Tryd.pinned (OpenSpec.ofChange fnExactKindOkWrong)

/-- 'laws.FnExactKindPart': WHATEVER THE INPUT: true; the input reads as it did. -/
def fnExactKindPartSpec : ChangeSpec := { name := "fnExactKindPart", fn := fun _ => fun
  | [d] => { results := [.lit (.bool true)], args := [d] }
  | _ => none }
def fnExactKindPartRow : OpenClaim := { program := "ytnmdaljieohkiaadoor", sum := "5252cbb03a15f20bc0302ad1d717b716f22a33ee069a567bcfad15c8aa306647", func := "loop.example/wireforms/laws.FnExactKindPart", spec := "fnExactKindPart", inPlace := ["internal/bytealg.IndexByteString", "internal/bytealg.IndexString"], recurses := true, named := ["unicode/utf8.first", "unicode/utf8.acceptRanges", "internal/bytealg.MaxLen"], apart := false, laid := [("unicode/utf8.acceptRanges", laid_unicode_utf8_acceptRanges), ("unicode/utf8.first", laid_unicode_utf8_first)] }
def FnExactKindPartSaid : Prop := fnExactKindPartRow.holds Tryd.pinned (OpenSpec.ofChange fnExactKindPartSpec)

/-- ITS FALSE NEIGHBOUR: 'it returns false'. Refute it at one input. -/
def fnExactKindPartWrong : ChangeSpec := { name := "fnExactKindPart", fn := fun _ => fun
  | [d] => { results := [.lit (.bool false)], args := [d] }
  | _ => none }
def FnExactKindPartWrongFalsely : Prop := fnExactKindPartRow.holds Tryd.pinned (OpenSpec.ofChange fnExactKindPartWrong)

/-- 'laws.FnExactKindDeep': WHATEVER THE INPUT: true; the input reads as it did. -/
def fnExactKindDeepSpec : ChangeSpec := { name := "fnExactKindDeep", fn := fun _ => fun
  | [d] => { results := [.lit (.bool true)], args := [d] }
  | _ => none }
def fnExactKindDeepRow : OpenClaim := { program := "ytnmdaljieohkiaadoor", sum := "5252cbb03a15f20bc0302ad1d717b716f22a33ee069a567bcfad15c8aa306647", func := "loop.example/wireforms/laws.FnExactKindDeep", spec := "fnExactKindDeep", inPlace := ["internal/bytealg.IndexByteString", "internal/bytealg.IndexString"], recurses := true, named := ["unicode/utf8.first", "unicode/utf8.acceptRanges", "internal/bytealg.MaxLen"], apart := false, laid := [("unicode/utf8.acceptRanges", laid_unicode_utf8_acceptRanges), ("unicode/utf8.first", laid_unicode_utf8_first)] }
def FnExactKindDeepSaid : Prop := fnExactKindDeepRow.holds Tryd.pinned (OpenSpec.ofChange fnExactKindDeepSpec)

/-- ITS FALSE NEIGHBOUR: 'it returns false'. Refute it at one input. -/
def fnExactKindDeepWrong : ChangeSpec := { name := "fnExactKindDeep", fn := fun _ => fun
  | [d] => { results := [.lit (.bool false)], args := [d] }
  | _ => none }
def FnExactKindDeepWrongFalsely : Prop := fnExactKindDeepRow.holds Tryd.pinned (OpenSpec.ofChange fnExactKindDeepWrong)

/-- 'laws.FnExactKindName': WHATEVER THE INPUT: true; the input reads as it did. -/
def fnExactKindNameSpec : ChangeSpec := { name := "fnExactKindName", fn := fun _ => fun
  | [d] => { results := [.lit (.bool true)], args := [d] }
  | _ => none }
def fnExactKindNameRow : OpenClaim := { program := "ytnmdaljieohkiaadoor", sum := "5252cbb03a15f20bc0302ad1d717b716f22a33ee069a567bcfad15c8aa306647", func := "loop.example/wireforms/laws.FnExactKindName", spec := "fnExactKindName", inPlace := ["internal/bytealg.IndexByteString", "internal/bytealg.IndexString"], recurses := true, named := ["unicode/utf8.first", "unicode/utf8.acceptRanges", "internal/bytealg.MaxLen"], apart := false, laid := [("unicode/utf8.acceptRanges", laid_unicode_utf8_acceptRanges), ("unicode/utf8.first", laid_unicode_utf8_first)] }
def FnExactKindNameSaid : Prop := fnExactKindNameRow.holds Tryd.pinned (OpenSpec.ofChange fnExactKindNameSpec)

/-- ITS FALSE NEIGHBOUR: 'it returns false'. Refute it at one input. -/
def fnExactKindNameWrong : ChangeSpec := { name := "fnExactKindName", fn := fun _ => fun
  | [d] => { results := [.lit (.bool false)], args := [d] }
  | _ => none }
def FnExactKindNameWrongFalsely : Prop := fnExactKindNameRow.holds Tryd.pinned (OpenSpec.ofChange fnExactKindNameWrong)

/-- 'laws.FnKindOk': WHATEVER THE INPUT: true; the input reads as it did. -/
def fnKindOkSpec : ChangeSpec := { name := "fnKindOk", fn := fun _ => fun
  | [d] => { results := [.lit (.bool true)], args := [d] }
  | _ => none }
def fnKindOkRow : OpenClaim := { program := "ytnmdaljieohkiaadoor", sum := "5252cbb03a15f20bc0302ad1d717b716f22a33ee069a567bcfad15c8aa306647", func := "loop.example/wireforms/laws.FnKindOk", spec := "fnKindOk", inPlace := ["internal/bytealg.IndexByteString", "internal/bytealg.IndexString"], recurses := true, named := ["unicode/utf8.first", "unicode/utf8.acceptRanges", "internal/bytealg.MaxLen"], apart := false, laid := [("unicode/utf8.acceptRanges", laid_unicode_utf8_acceptRanges), ("unicode/utf8.first", laid_unicode_utf8_first)] }
def FnKindOkSaid : Prop := fnKindOkRow.holds Tryd.pinned (OpenSpec.ofChange fnKindOkSpec)

/-- ITS FALSE NEIGHBOUR: 'it returns false'. Refute it at one input. -/
def fnKindOkWrong : ChangeSpec := { name := "fnKindOk", fn := fun _ => fun
  | [d] => { results := [.lit (.bool false)], args := [d] }
  | _ => none }
def FnKindOkWrongFalsely : Prop := fnKindOkRow.holds Tryd.pinned (OpenSpec.ofChange fnKindOkWrong)

/-- 'laws.FnKindName': WHATEVER THE INPUT: true; the input reads as it did. -/
def fnKindNameSpec : ChangeSpec := { name := "fnKindName", fn := fun _ => fun
  | [d] => { results := [.lit (.bool true)], args := [d] }
  | _ => none }
def fnKindNameRow : OpenClaim := { program := "ytnmdaljieohkiaadoor", sum := "5252cbb03a15f20bc0302ad1d717b716f22a33ee069a567bcfad15c8aa306647", func := "loop.example/wireforms/laws.FnKindName", spec := "fnKindName", inPlace := ["internal/bytealg.IndexByteString", "internal/bytealg.IndexString"], recurses := true, named := ["unicode/utf8.first", "unicode/utf8.acceptRanges", "internal/bytealg.MaxLen"], apart := false, laid := [("unicode/utf8.acceptRanges", laid_unicode_utf8_acceptRanges), ("unicode/utf8.first", laid_unicode_utf8_first)] }
def FnKindNameSaid : Prop := fnKindNameRow.holds Tryd.pinned (OpenSpec.ofChange fnKindNameSpec)

/-- ITS FALSE NEIGHBOUR: 'it returns false'. Refute it at one input. -/
def fnKindNameWrong : ChangeSpec := { name := "fnKindName", fn := fun _ => fun
  | [d] => { results := [.lit (.bool false)], args := [d] }
  | _ => none }
def FnKindNameWrongFalsely : Prop := fnKindNameRow.holds Tryd.pinned (OpenSpec.ofChange fnKindNameWrong)

/-- 'laws.FnKindPart': WHATEVER THE INPUT: true; the input reads as it did. -/
def fnKindPartSpec : ChangeSpec := { name := "fnKindPart", fn := fun _ => fun
  | [d] => { results := [.lit (.bool true)], args := [d] }
  | _ => none }
def fnKindPartRow : OpenClaim := { program := "ytnmdaljieohkiaadoor", sum := "5252cbb03a15f20bc0302ad1d717b716f22a33ee069a567bcfad15c8aa306647", func := "loop.example/wireforms/laws.FnKindPart", spec := "fnKindPart", inPlace := ["internal/bytealg.IndexByteString", "internal/bytealg.IndexString"], recurses := true, named := ["unicode/utf8.first", "unicode/utf8.acceptRanges", "internal/bytealg.MaxLen"], apart := false, laid := [("unicode/utf8.acceptRanges", laid_unicode_utf8_acceptRanges), ("unicode/utf8.first", laid_unicode_utf8_first)] }
def FnKindPartSaid : Prop := fnKindPartRow.holds Tryd.pinned (OpenSpec.ofChange fnKindPartSpec)

/-- ITS FALSE NEIGHBOUR: 'it returns false'. Refute it at one input. -/
def fnKindPartWrong : ChangeSpec := { name := "fnKindPart", fn := fun _ => fun
  | [d] => { results := [.lit (.bool false)], args := [d] }
  | _ => none }
def FnKindPartWrongFalsely : Prop := fnKindPartRow.holds Tryd.pinned (OpenSpec.ofChange fnKindPartWrong)

/-- 'laws.FnKindDeep': WHATEVER THE INPUT: true; the input reads as it did. -/
def fnKindDeepSpec : ChangeSpec := { name := "fnKindDeep", fn := fun _ => fun
  | [d] => { results := [.lit (.bool true)], args := [d] }
  | _ => none }
def fnKindDeepRow : OpenClaim := { program := "ytnmdaljieohkiaadoor", sum := "5252cbb03a15f20bc0302ad1d717b716f22a33ee069a567bcfad15c8aa306647", func := "loop.example/wireforms/laws.FnKindDeep", spec := "fnKindDeep", inPlace := ["internal/bytealg.IndexByteString", "internal/bytealg.IndexString"], recurses := true, named := ["unicode/utf8.first", "unicode/utf8.acceptRanges", "internal/bytealg.MaxLen"], apart := false, laid := [("unicode/utf8.acceptRanges", laid_unicode_utf8_acceptRanges), ("unicode/utf8.first", laid_unicode_utf8_first)] }
def FnKindDeepSaid : Prop := fnKindDeepRow.holds Tryd.pinned (OpenSpec.ofChange fnKindDeepSpec)

/-- ITS FALSE NEIGHBOUR: 'it returns false'. Refute it at one input. -/
def fnKindDeepWrong : ChangeSpec := { name := "fnKindDeep", fn := fun _ => fun
  | [d] => { results := [.lit (.bool false)], args := [d] }
  | _ => none }
def FnKindDeepWrongFalsely : Prop := fnKindDeepRow.holds Tryd.pinned (OpenSpec.ofChange fnKindDeepWrong)

/-- 'laws.FnExactKindRefs': WHATEVER THE INPUT: true; the input reads as it did. -/
def fnExactKindRefsSpec : ChangeSpec := { name := "fnExactKindRefs", fn := fun _ => fun
  | [d] => { results := [.lit (.bool true)], args := [d] }
  | _ => none }
def fnExactKindRefsRow : OpenClaim := { program := "ytnmdaljieohkiaadoor", sum := "5252cbb03a15f20bc0302ad1d717b716f22a33ee069a567bcfad15c8aa306647", func := "loop.example/wireforms/laws.FnExactKindRefs", spec := "fnExactKindRefs", inPlace := ["internal/bytealg.IndexByteString", "internal/bytealg.IndexString"], recurses := true, named := ["unicode/utf8.first", "unicode/utf8.acceptRanges", "internal/bytealg.MaxLen"], apart := false, laid := [("unicode/utf8.acceptRanges", laid_unicode_utf8_acceptRanges), ("unicode/utf8.first", laid_unicode_utf8_first)] }
def FnExactKindRefsSaid : Prop := fnExactKindRefsRow.holds Tryd.pinned (OpenSpec.ofChange fnExactKindRefsSpec)

/-- ITS FALSE NEIGHBOUR: 'it returns false'. Refute it at one input. -/
def fnExactKindRefsWrong : ChangeSpec := { name := "fnExactKindRefs", fn := fun _ => fun
  | [d] => { results := [.lit (.bool false)], args := [d] }
  | _ => none }
def FnExactKindRefsWrongFalsely : Prop := fnExactKindRefsRow.holds Tryd.pinned (OpenSpec.ofChange fnExactKindRefsWrong)

/-- 'laws.FnKindRefs': WHATEVER THE INPUT: true; the input reads as it did. -/
def fnKindRefsSpec : ChangeSpec := { name := "fnKindRefs", fn := fun _ => fun
  | [d] => { results := [.lit (.bool true)], args := [d] }
  | _ => none }
def fnKindRefsRow : OpenClaim := { program := "ytnmdaljieohkiaadoor", sum := "5252cbb03a15f20bc0302ad1d717b716f22a33ee069a567bcfad15c8aa306647", func := "loop.example/wireforms/laws.FnKindRefs", spec := "fnKindRefs", inPlace := ["internal/bytealg.IndexByteString", "internal/bytealg.IndexString"], recurses := true, named := ["unicode/utf8.first", "unicode/utf8.acceptRanges", "internal/bytealg.MaxLen"], apart := false, laid := [("unicode/utf8.acceptRanges", laid_unicode_utf8_acceptRanges), ("unicode/utf8.first", laid_unicode_utf8_first)] }
def FnKindRefsSaid : Prop := fnKindRefsRow.holds Tryd.pinned (OpenSpec.ofChange fnKindRefsSpec)

/-- ITS FALSE NEIGHBOUR: 'it returns false'. Refute it at one input. -/
def fnKindRefsWrong : ChangeSpec := { name := "fnKindRefs", fn := fun _ => fun
  | [d] => { results := [.lit (.bool false)], args := [d] }
  | _ => none }
def FnKindRefsWrongFalsely : Prop := fnKindRefsRow.holds Tryd.pinned (OpenSpec.ofChange fnKindRefsWrong)

/- THE SECOND FORM. 'bulk': how many values and letters a reading holds, each counted each time it is reached (what is shared counts as often as it is met; a slice's spare places count too). A statement '..UptoSaid' is the law's where the arguments, and the package variables that the reading takes, are together of bulk at most 1048576: NARROWER than '..Said'. Prove '..Said' where nothing that the law and all that it calls make is longer than what came in: it says more and counts as full. Else prove '..UptoSaid'. A law counts once. -/
mutual
def uptoBulk {H : Type} : DataW H → Nat
  | .lit (.string bytes) => bytes.length + 1
  | .lit _ => 1
  | .nil => 1
  | .ptr d => uptoBulk d + 1
  | .slice elems spare => uptoBulkAll elems + uptoBulkAll spare + 1
  | .agg parts => uptoBulkAll parts + 1
  | .iface _ d => uptoBulk d + 1
  | .map entries => uptoBulkEntries entries + 1
  | .held _ => 1
def uptoBulkAll {H : Type} : List (DataW H) → Nat
  | [] => 0
  | d :: r => uptoBulk d + uptoBulkAll r
def uptoBulkEntries {H : Type} : List (Lit × DataW H) → Nat
  | [] => 0
  | x :: r => uptoBulkEntry x + uptoBulkEntries r
def uptoBulkEntry {H : Type} : Lit × DataW H → Nat
  | (.string bytes, d) => bytes.length + uptoBulk d + 1
  | (_, d) => uptoBulk d + 1
 end
def uptoSmall : (H : Type) → List (DataW H) → Bool := fun _ ds => decide (uptoBulkAll ds ≤ 1048576)
def OpenSpec.upto (s : _root_.Go.ChangeSpec) : _root_.Go.OpenSpec := { _root_.Go.OpenSpec.ofChange s with cond := some uptoSmall }

/-- 'laws.FnExactKindOk', WHERE WHAT IT READS IS OF BULK AT MOST 1048576: true; the input reads as it did. -/
def fnExactKindOkUptoRow : OpenClaim := { program := "ytnmdaljieohkiaadoor", sum := "5252cbb03a15f20bc0302ad1d717b716f22a33ee069a567bcfad15c8aa306647", func := "loop.example/wireforms/laws.FnExactKindOk", spec := "fnExactKindOk", inPlace := ["internal/bytealg.IndexByteString", "internal/bytealg.IndexString"], recurses := true, named := ["unicode/utf8.first", "unicode/utf8.acceptRanges", "internal/bytealg.MaxLen"], apart := false, laid := [("unicode/utf8.acceptRanges", laid_unicode_utf8_acceptRanges), ("unicode/utf8.first", laid_unicode_utf8_first)], narrowed := true }
def FnExactKindOkUptoSaid : Prop := fnExactKindOkUptoRow.holds Tryd.pinned (OpenSpec.upto fnExactKindOkSpec)

/-- 'laws.FnExactKindPart', WHERE WHAT IT READS IS OF BULK AT MOST 1048576: true; the input reads as it did. -/
def fnExactKindPartUptoRow : OpenClaim := { program := "ytnmdaljieohkiaadoor", sum := "5252cbb03a15f20bc0302ad1d717b716f22a33ee069a567bcfad15c8aa306647", func := "loop.example/wireforms/laws.FnExactKindPart", spec := "fnExactKindPart", inPlace := ["internal/bytealg.IndexByteString", "internal/bytealg.IndexString"], recurses := true, named := ["unicode/utf8.first", "unicode/utf8.acceptRanges", "internal/bytealg.MaxLen"], apart := false, laid := [("unicode/utf8.acceptRanges", laid_unicode_utf8_acceptRanges), ("unicode/utf8.first", laid_unicode_utf8_first)], narrowed := true }
def FnExactKindPartUptoSaid : Prop := fnExactKindPartUptoRow.holds Tryd.pinned (OpenSpec.upto fnExactKindPartSpec)

/-- 'laws.FnExactKindDeep', WHERE WHAT IT READS IS OF BULK AT MOST 1048576: true; the input reads as it did. -/
def fnExactKindDeepUptoRow : OpenClaim := { program := "ytnmdaljieohkiaadoor", sum := "5252cbb03a15f20bc0302ad1d717b716f22a33ee069a567bcfad15c8aa306647", func := "loop.example/wireforms/laws.FnExactKindDeep", spec := "fnExactKindDeep", inPlace := ["internal/bytealg.IndexByteString", "internal/bytealg.IndexString"], recurses := true, named := ["unicode/utf8.first", "unicode/utf8.acceptRanges", "internal/bytealg.MaxLen"], apart := false, laid := [("unicode/utf8.acceptRanges", laid_unicode_utf8_acceptRanges), ("unicode/utf8.first", laid_unicode_utf8_first)], narrowed := true }
def FnExactKindDeepUptoSaid : Prop := fnExactKindDeepUptoRow.holds Tryd.pinned (OpenSpec.upto fnExactKindDeepSpec)

/-- 'laws.FnExactKindName', WHERE WHAT IT READS IS OF BULK AT MOST 1048576: true; the input reads as it did. -/
def fnExactKindNameUptoRow : OpenClaim := { program := "ytnmdaljieohkiaadoor", sum := "5252cbb03a15f20bc0302ad1d717b716f22a33ee069a567bcfad15c8aa306647", func := "loop.example/wireforms/laws.FnExactKindName", spec := "fnExactKindName", inPlace := ["internal/bytealg.IndexByteString", "internal/bytealg.IndexString"], recurses := true, named := ["unicode/utf8.first", "unicode/utf8.acceptRanges", "internal/bytealg.MaxLen"], apart := false, laid := [("unicode/utf8.acceptRanges", laid_unicode_utf8_acceptRanges), ("unicode/utf8.first", laid_unicode_utf8_first)], narrowed := true }
def FnExactKindNameUptoSaid : Prop := fnExactKindNameUptoRow.holds Tryd.pinned (OpenSpec.upto fnExactKindNameSpec)

/-- 'laws.FnKindOk', WHERE WHAT IT READS IS OF BULK AT MOST 1048576: true; the input reads as it did. -/
def fnKindOkUptoRow : OpenClaim := { program := "ytnmdaljieohkiaadoor", sum := "5252cbb03a15f20bc0302ad1d717b716f22a33ee069a567bcfad15c8aa306647", func := "loop.example/wireforms/laws.FnKindOk", spec := "fnKindOk", inPlace := ["internal/bytealg.IndexByteString", "internal/bytealg.IndexString"], recurses := true, named := ["unicode/utf8.first", "unicode/utf8.acceptRanges", "internal/bytealg.MaxLen"], apart := false, laid := [("unicode/utf8.acceptRanges", laid_unicode_utf8_acceptRanges), ("unicode/utf8.first", laid_unicode_utf8_first)], narrowed := true }
def FnKindOkUptoSaid : Prop := fnKindOkUptoRow.holds Tryd.pinned (OpenSpec.upto fnKindOkSpec)

/-- 'laws.FnKindName', WHERE WHAT IT READS IS OF BULK AT MOST 1048576: true; the input reads as it did. -/
def fnKindNameUptoRow : OpenClaim := { program := "ytnmdaljieohkiaadoor", sum := "5252cbb03a15f20bc0302ad1d717b716f22a33ee069a567bcfad15c8aa306647", func := "loop.example/wireforms/laws.FnKindName", spec := "fnKindName", inPlace := ["internal/bytealg.IndexByteString", "internal/bytealg.IndexString"], recurses := true, named := ["unicode/utf8.first", "unicode/utf8.acceptRanges", "internal/bytealg.MaxLen"], apart := false, laid := [("unicode/utf8.acceptRanges", laid_unicode_utf8_acceptRanges), ("unicode/utf8.first", laid_unicode_utf8_first)], narrowed := true }
def FnKindNameUptoSaid : Prop := fnKindNameUptoRow.holds Tryd.pinned (OpenSpec.upto fnKindNameSpec)

/-- 'laws.FnKindPart', WHERE WHAT IT READS IS OF BULK AT MOST 1048576: true; the input reads as it did. -/
def fnKindPartUptoRow : OpenClaim := { program := "ytnmdaljieohkiaadoor", sum := "5252cbb03a15f20bc0302ad1d717b716f22a33ee069a567bcfad15c8aa306647", func := "loop.example/wireforms/laws.FnKindPart", spec := "fnKindPart", inPlace := ["internal/bytealg.IndexByteString", "internal/bytealg.IndexString"], recurses := true, named := ["unicode/utf8.first", "unicode/utf8.acceptRanges", "internal/bytealg.MaxLen"], apart := false, laid := [("unicode/utf8.acceptRanges", laid_unicode_utf8_acceptRanges), ("unicode/utf8.first", laid_unicode_utf8_first)], narrowed := true }
def FnKindPartUptoSaid : Prop := fnKindPartUptoRow.holds Tryd.pinned (OpenSpec.upto fnKindPartSpec)

/-- 'laws.FnKindDeep', WHERE WHAT IT READS IS OF BULK AT MOST 1048576: true; the input reads as it did. -/
def fnKindDeepUptoRow : OpenClaim := { program := "ytnmdaljieohkiaadoor", sum := "5252cbb03a15f20bc0302ad1d717b716f22a33ee069a567bcfad15c8aa306647", func := "loop.example/wireforms/laws.FnKindDeep", spec := "fnKindDeep", inPlace := ["internal/bytealg.IndexByteString", "internal/bytealg.IndexString"], recurses := true, named := ["unicode/utf8.first", "unicode/utf8.acceptRanges", "internal/bytealg.MaxLen"], apart := false, laid := [("unicode/utf8.acceptRanges", laid_unicode_utf8_acceptRanges), ("unicode/utf8.first", laid_unicode_utf8_first)], narrowed := true }
def FnKindDeepUptoSaid : Prop := fnKindDeepUptoRow.holds Tryd.pinned (OpenSpec.upto fnKindDeepSpec)

/-- 'laws.FnExactKindRefs', WHERE WHAT IT READS IS OF BULK AT MOST 1048576: true; the input reads as it did. -/
def fnExactKindRefsUptoRow : OpenClaim := { program := "ytnmdaljieohkiaadoor", sum := "5252cbb03a15f20bc0302ad1d717b716f22a33ee069a567bcfad15c8aa306647", func := "loop.example/wireforms/laws.FnExactKindRefs", spec := "fnExactKindRefs", inPlace := ["internal/bytealg.IndexByteString", "internal/bytealg.IndexString"], recurses := true, named := ["unicode/utf8.first", "unicode/utf8.acceptRanges", "internal/bytealg.MaxLen"], apart := false, laid := [("unicode/utf8.acceptRanges", laid_unicode_utf8_acceptRanges), ("unicode/utf8.first", laid_unicode_utf8_first)], narrowed := true }
def FnExactKindRefsUptoSaid : Prop := fnExactKindRefsUptoRow.holds Tryd.pinned (OpenSpec.upto fnExactKindRefsSpec)

/-- 'laws.FnKindRefs', WHERE WHAT IT READS IS OF BULK AT MOST 1048576: true; the input reads as it did. -/
def fnKindRefsUptoRow : OpenClaim := { program := "ytnmdaljieohkiaadoor", sum := "5252cbb03a15f20bc0302ad1d717b716f22a33ee069a567bcfad15c8aa306647", func := "loop.example/wireforms/laws.FnKindRefs", spec := "fnKindRefs", inPlace := ["internal/bytealg.IndexByteString", "internal/bytealg.IndexString"], recurses := true, named := ["unicode/utf8.first", "unicode/utf8.acceptRanges", "internal/bytealg.MaxLen"], apart := false, laid := [("unicode/utf8.acceptRanges", laid_unicode_utf8_acceptRanges), ("unicode/utf8.first", laid_unicode_utf8_first)], narrowed := true }
def FnKindRefsUptoSaid : Prop := fnKindRefsUptoRow.holds Tryd.pinned (OpenSpec.upto fnKindRefsSpec)

end Rows
end Go.Proofs.YtnmdaljieohkiaaDoor
