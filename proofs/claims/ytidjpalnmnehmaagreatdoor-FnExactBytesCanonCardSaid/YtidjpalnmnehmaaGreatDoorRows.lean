/-
  NARROWER THAN 'FOR EVERY INPUT', by the rows' own cells (each row's printed sentence says how): FnBytesPut: laid · FnBytesUnknown: laid · FnExactBytesPut: laid · FnBytesOne: laid · FnBytesPart: laid · FnExactBytesCanon: laid · FnBytesPrefix: laid.
  DERIVED. THE GIVEN ROWS OF THIS SEAT. 7 by the template 'for every input the law returns true; each argument reads behind the call as it read before'; 0 by the template 'total and deterministic' (their statements: YtidjpalnmnehmaaGreatDoorTotals.lean).
  GIVEN WITH THE SEED: the statements are not yours to turn. If you find one false, say at which input.
  Laid BY PROGRAM, IN A SANDBOX (cutbox-rows.mjs): the forced cells as the released guide's own fill.sh prints them over the translation 0f1a152e627fa530… (all of the seat's roots in one cut). By AI agents, Wed Nov 11 2026. No macro, syntax, notation, axiom, sorry.
-/
import Derived.Test.YtidjpalnmnehmaaGreatDoorChecked
import GoSem.PinnedTables
import GoSem.Claim
import GoSem.ClaimJoined
import GoSem.ClaimMapViews
import Derived.JoinedTies
import Derived.KernelRfl
namespace Go.Proofs.YtidjpalnmnehmaaGreatDoor
/- THE CELL 'sum', in the pinned program and in every row, IS THE sha256 OF THE DUMP (.gsa) THAT YtidjpalnmnehmaaGreatDoorProg.lean LOADS. Nothing in Lean hashes anything: it is a label: what it is worth is what the hold of that sum in a sandbox is worth. -/
noncomputable def Tryz.pinned : Pinned := { name := "ytidjpalnmnehmaagreatdoor", sum := "0f1a152e627fa530e0c9d23c217354a65b1b956c7aef1e9a14b5af35f880c937", checked := Tryz.checked }
namespace Rows
def none {H : Type} : Left H := { results := [], args := [] }

/- WHAT THE LISTED PACKAGE-LEVEL VARIABLES READ AS WHEN THE CALL BEGINS. Each datum BY PROGRAM (the guide's laid-datum.mjs) off the statement by which the dump's own 'gosem.cut.vars' lays the variable. In a bare row this is a premise. The card (YtidjpalnmnehmaaGreatDoorCards.lean) ties it to the program's text. -/
def laid_unicode_utf8_acceptRanges {H : Type} : DataW H := .agg [.agg [.lit (.int .u8 128), .lit (.int .u8 191)], .agg [.lit (.int .u8 160), .lit (.int .u8 191)], .agg [.lit (.int .u8 128), .lit (.int .u8 159)], .agg [.lit (.int .u8 144), .lit (.int .u8 191)], .agg [.lit (.int .u8 128), .lit (.int .u8 143)], .agg [.lit (.int .u8 0), .lit (.int .u8 0)], .agg [.lit (.int .u8 0), .lit (.int .u8 0)], .agg [.lit (.int .u8 0), .lit (.int .u8 0)], .agg [.lit (.int .u8 0), .lit (.int .u8 0)], .agg [.lit (.int .u8 0), .lit (.int .u8 0)], .agg [.lit (.int .u8 0), .lit (.int .u8 0)], .agg [.lit (.int .u8 0), .lit (.int .u8 0)], .agg [.lit (.int .u8 0), .lit (.int .u8 0)], .agg [.lit (.int .u8 0), .lit (.int .u8 0)], .agg [.lit (.int .u8 0), .lit (.int .u8 0)], .agg [.lit (.int .u8 0), .lit (.int .u8 0)]]
/-- One of Go's own tables, pinned by name: the form's constant. -/
def laid_unicode_utf8_first : DataW Unit := Go.Pinned.utf8First

/-- 'laws.FnBytesPut': WHATEVER THE INPUT: true; the input reads as it did. -/
def fnBytesPutSpec : ChangeSpec := { name := "fnBytesPut", fn := fun _ => fun
  | [d] => { results := [.lit (.bool true)], args := [d] }
  | _ => none }
def fnBytesPutRow : OpenClaim := { program := "ytidjpalnmnehmaagreatdoor", sum := "0f1a152e627fa530e0c9d23c217354a65b1b956c7aef1e9a14b5af35f880c937", func := "loop.example/wireforms/laws.FnBytesPut", spec := "fnBytesPut", inPlace := ["internal/bytealg.IndexByteString", "internal/bytealg.IndexString", "internal/bytealg.CountString", "internal/abi.NoEscape", "internal/bytealg.MakeNoZero"], unfollowed := true, recurses := true, named := ["internal/bytealg.MaxLen", "unicode/utf8.first", "unicode/utf8.acceptRanges"], apart := false, laid := [("unicode/utf8.acceptRanges", laid_unicode_utf8_acceptRanges), ("unicode/utf8.first", laid_unicode_utf8_first)] }
def FnBytesPutSaid : Prop := fnBytesPutRow.holds Tryz.pinned (OpenSpec.ofChange fnBytesPutSpec)

/-- ITS FALSE NEIGHBOUR: 'it returns false'. Refute it at one input. -/
def fnBytesPutWrong : ChangeSpec := { name := "fnBytesPut", fn := fun _ => fun
  | [d] => { results := [.lit (.bool false)], args := [d] }
  | _ => none }
def FnBytesPutWrongFalsely : Prop := fnBytesPutRow.holds Tryz.pinned (OpenSpec.ofChange fnBytesPutWrong)

/-- 'laws.FnBytesUnknown': WHATEVER THE INPUT: true; the input reads as it did. -/
def fnBytesUnknownSpec : ChangeSpec := { name := "fnBytesUnknown", fn := fun _ => fun
  | [d1, d2] => { results := [.lit (.bool true)], args := [d1, d2] }
  | _ => none }
def fnBytesUnknownRow : OpenClaim := { program := "ytidjpalnmnehmaagreatdoor", sum := "0f1a152e627fa530e0c9d23c217354a65b1b956c7aef1e9a14b5af35f880c937", func := "loop.example/wireforms/laws.FnBytesUnknown", spec := "fnBytesUnknown", inPlace := ["internal/bytealg.IndexByteString", "internal/bytealg.IndexString", "internal/bytealg.CountString", "internal/abi.NoEscape", "internal/bytealg.MakeNoZero"], unfollowed := true, recurses := true, named := ["internal/bytealg.MaxLen", "unicode/utf8.first", "unicode/utf8.acceptRanges"], apart := false, laid := [("unicode/utf8.acceptRanges", laid_unicode_utf8_acceptRanges), ("unicode/utf8.first", laid_unicode_utf8_first)] }
def FnBytesUnknownSaid : Prop := fnBytesUnknownRow.holds Tryz.pinned (OpenSpec.ofChange fnBytesUnknownSpec)

/-- ITS FALSE NEIGHBOUR: 'it returns false'. Refute it at one input. -/
def fnBytesUnknownWrong : ChangeSpec := { name := "fnBytesUnknown", fn := fun _ => fun
  | [d1, d2] => { results := [.lit (.bool false)], args := [d1, d2] }
  | _ => none }
def FnBytesUnknownWrongFalsely : Prop := fnBytesUnknownRow.holds Tryz.pinned (OpenSpec.ofChange fnBytesUnknownWrong)

/-- 'laws.FnExactBytesPut': WHATEVER THE INPUT: true; the input reads as it did. -/
def fnExactBytesPutSpec : ChangeSpec := { name := "fnExactBytesPut", fn := fun _ => fun
  | [d1, d2, d3] => { results := [.lit (.bool true)], args := [d1, d2, d3] }
  | _ => none }
def fnExactBytesPutRow : OpenClaim := { program := "ytidjpalnmnehmaagreatdoor", sum := "0f1a152e627fa530e0c9d23c217354a65b1b956c7aef1e9a14b5af35f880c937", func := "loop.example/wireforms/laws.FnExactBytesPut", spec := "fnExactBytesPut", inPlace := ["internal/bytealg.IndexByteString", "internal/bytealg.IndexString", "internal/bytealg.CountString", "internal/abi.NoEscape", "internal/bytealg.MakeNoZero"], recurses := true, named := ["internal/bytealg.MaxLen", "unicode/utf8.first", "unicode/utf8.acceptRanges"], apart := false, laid := [("unicode/utf8.acceptRanges", laid_unicode_utf8_acceptRanges), ("unicode/utf8.first", laid_unicode_utf8_first)] }
def FnExactBytesPutSaid : Prop := fnExactBytesPutRow.holds Tryz.pinned (OpenSpec.ofChange fnExactBytesPutSpec)

/-- ITS FALSE NEIGHBOUR: 'it returns false'. Refute it at one input. -/
def fnExactBytesPutWrong : ChangeSpec := { name := "fnExactBytesPut", fn := fun _ => fun
  | [d1, d2, d3] => { results := [.lit (.bool false)], args := [d1, d2, d3] }
  | _ => none }
def FnExactBytesPutWrongFalsely : Prop := fnExactBytesPutRow.holds Tryz.pinned (OpenSpec.ofChange fnExactBytesPutWrong)

/-- 'laws.FnBytesOne': WHATEVER THE INPUT: true; the input reads as it did. -/
def fnBytesOneSpec : ChangeSpec := { name := "fnBytesOne", fn := fun _ => fun
  | [d] => { results := [.lit (.bool true)], args := [d] }
  | _ => none }
def fnBytesOneRow : OpenClaim := { program := "ytidjpalnmnehmaagreatdoor", sum := "0f1a152e627fa530e0c9d23c217354a65b1b956c7aef1e9a14b5af35f880c937", func := "loop.example/wireforms/laws.FnBytesOne", spec := "fnBytesOne", inPlace := ["internal/bytealg.IndexByteString", "internal/bytealg.IndexString", "internal/bytealg.CountString", "internal/abi.NoEscape", "internal/bytealg.MakeNoZero"], recurses := true, named := ["internal/bytealg.MaxLen", "unicode/utf8.first", "unicode/utf8.acceptRanges"], apart := false, laid := [("unicode/utf8.acceptRanges", laid_unicode_utf8_acceptRanges), ("unicode/utf8.first", laid_unicode_utf8_first)] }
def FnBytesOneSaid : Prop := fnBytesOneRow.holds Tryz.pinned (OpenSpec.ofChange fnBytesOneSpec)

/-- ITS FALSE NEIGHBOUR: 'it returns false'. Refute it at one input. -/
def fnBytesOneWrong : ChangeSpec := { name := "fnBytesOne", fn := fun _ => fun
  | [d] => { results := [.lit (.bool false)], args := [d] }
  | _ => none }
def FnBytesOneWrongFalsely : Prop := fnBytesOneRow.holds Tryz.pinned (OpenSpec.ofChange fnBytesOneWrong)

/-- 'laws.FnBytesPart': WHATEVER THE INPUT: true; the input reads as it did. -/
def fnBytesPartSpec : ChangeSpec := { name := "fnBytesPart", fn := fun _ => fun
  | [d] => { results := [.lit (.bool true)], args := [d] }
  | _ => none }
def fnBytesPartRow : OpenClaim := { program := "ytidjpalnmnehmaagreatdoor", sum := "0f1a152e627fa530e0c9d23c217354a65b1b956c7aef1e9a14b5af35f880c937", func := "loop.example/wireforms/laws.FnBytesPart", spec := "fnBytesPart", inPlace := ["internal/bytealg.IndexByteString", "internal/bytealg.IndexString", "internal/bytealg.CountString", "internal/abi.NoEscape", "internal/bytealg.MakeNoZero"], recurses := true, named := ["internal/bytealg.MaxLen", "unicode/utf8.first", "unicode/utf8.acceptRanges"], apart := false, laid := [("unicode/utf8.acceptRanges", laid_unicode_utf8_acceptRanges), ("unicode/utf8.first", laid_unicode_utf8_first)] }
def FnBytesPartSaid : Prop := fnBytesPartRow.holds Tryz.pinned (OpenSpec.ofChange fnBytesPartSpec)

/-- ITS FALSE NEIGHBOUR: 'it returns false'. Refute it at one input. -/
def fnBytesPartWrong : ChangeSpec := { name := "fnBytesPart", fn := fun _ => fun
  | [d] => { results := [.lit (.bool false)], args := [d] }
  | _ => none }
def FnBytesPartWrongFalsely : Prop := fnBytesPartRow.holds Tryz.pinned (OpenSpec.ofChange fnBytesPartWrong)

/-- 'laws.FnExactBytesCanon': WHATEVER THE INPUT: true; the input reads as it did. -/
def fnExactBytesCanonSpec : ChangeSpec := { name := "fnExactBytesCanon", fn := fun _ => fun
  | [d1, d2, d3] => { results := [.lit (.bool true)], args := [d1, d2, d3] }
  | _ => none }
def fnExactBytesCanonRow : OpenClaim := { program := "ytidjpalnmnehmaagreatdoor", sum := "0f1a152e627fa530e0c9d23c217354a65b1b956c7aef1e9a14b5af35f880c937", func := "loop.example/wireforms/laws.FnExactBytesCanon", spec := "fnExactBytesCanon", inPlace := ["internal/bytealg.IndexByteString", "internal/bytealg.IndexString", "internal/bytealg.CountString", "internal/abi.NoEscape", "internal/bytealg.MakeNoZero"], unfollowed := true, recurses := true, named := ["internal/bytealg.MaxLen", "unicode/utf8.first", "unicode/utf8.acceptRanges"], apart := false, laid := [("unicode/utf8.acceptRanges", laid_unicode_utf8_acceptRanges), ("unicode/utf8.first", laid_unicode_utf8_first)] }
def FnExactBytesCanonSaid : Prop := fnExactBytesCanonRow.holds Tryz.pinned (OpenSpec.ofChange fnExactBytesCanonSpec)

/-- ITS FALSE NEIGHBOUR: 'it returns false'. Refute it at one input. -/
def fnExactBytesCanonWrong : ChangeSpec := { name := "fnExactBytesCanon", fn := fun _ => fun
  | [d1, d2, d3] => { results := [.lit (.bool false)], args := [d1, d2, d3] }
  | _ => none }
def FnExactBytesCanonWrongFalsely : Prop := fnExactBytesCanonRow.holds Tryz.pinned (OpenSpec.ofChange fnExactBytesCanonWrong)

/-- 'laws.FnBytesPrefix': WHATEVER THE INPUT: true; the input reads as it did. -/
def fnBytesPrefixSpec : ChangeSpec := { name := "fnBytesPrefix", fn := fun _ => fun
  | [d1, d2] => { results := [.lit (.bool true)], args := [d1, d2] }
  | _ => none }
def fnBytesPrefixRow : OpenClaim := { program := "ytidjpalnmnehmaagreatdoor", sum := "0f1a152e627fa530e0c9d23c217354a65b1b956c7aef1e9a14b5af35f880c937", func := "loop.example/wireforms/laws.FnBytesPrefix", spec := "fnBytesPrefix", inPlace := ["internal/bytealg.IndexByteString", "internal/bytealg.IndexString", "internal/bytealg.CountString", "internal/abi.NoEscape", "internal/bytealg.MakeNoZero"], unfollowed := true, recurses := true, named := ["internal/bytealg.MaxLen", "unicode/utf8.first", "unicode/utf8.acceptRanges"], apart := false, laid := [("unicode/utf8.acceptRanges", laid_unicode_utf8_acceptRanges), ("unicode/utf8.first", laid_unicode_utf8_first)] }
def FnBytesPrefixSaid : Prop := fnBytesPrefixRow.holds Tryz.pinned (OpenSpec.ofChange fnBytesPrefixSpec)

/-- ITS FALSE NEIGHBOUR: 'it returns false'. Refute it at one input. -/
def fnBytesPrefixWrong : ChangeSpec := { name := "fnBytesPrefix", fn := fun _ => fun
  | [d1, d2] => { results := [.lit (.bool false)], args := [d1, d2] }
  | _ => none }
def FnBytesPrefixWrongFalsely : Prop := fnBytesPrefixRow.holds Tryz.pinned (OpenSpec.ofChange fnBytesPrefixWrong)

/- THE SECOND FORM. 'bulk': how many values and letters a reading holds, each counted each time it is reached (what is shared counts as often as it is met; a slice's spare places count too). A statement '..UptoSaid' is the law's where the arguments, and the package variables that the reading takes, are together of bulk at most 1048576: NARROWER than '..Said'. Prove '..Said' where nothing that the law and all that it calls make is longer than what came in: it says more and counts as full. Else prove '..UptoSaid'. A law counts once. -/
mutual
def uptoBulk {H : Type} : DataW H → Nat
  | .lit (.string bytes) => bytes.length + 1
  | .lit _ => 1
  | .nil => 1
  | .ptr d => uptoBulk d + 1
  | .slice elems spare => uptoBulkAll elems + uptoBulkAll spare + 1
  | .agg parts => uptoBulkAll parts + 1
  | .iface _ d => uptoBulk d + 1
  | .map entries => uptoBulkEntries entries + 1
  | .held _ => 1
def uptoBulkAll {H : Type} : List (DataW H) → Nat
  | [] => 0
  | d :: r => uptoBulk d + uptoBulkAll r
def uptoBulkEntries {H : Type} : List (Lit × DataW H) → Nat
  | [] => 0
  | x :: r => uptoBulkEntry x + uptoBulkEntries r
def uptoBulkEntry {H : Type} : Lit × DataW H → Nat
  | (.string bytes, d) => bytes.length + uptoBulk d + 1
  | (_, d) => uptoBulk d + 1
 end
def uptoSmall : (H : Type) → List (DataW H) → Bool := fun _ ds => decide (uptoBulkAll ds ≤ 1048576)
def OpenSpec.upto (s : _root_.Go.ChangeSpec) : _root_.Go.OpenSpec := { _root_.Go.OpenSpec.ofChange s with cond := some uptoSmall }

/-- 'laws.FnBytesPut', WHERE WHAT IT READS IS OF BULK AT MOST 1048576: true; the input reads as it did. -/
def fnBytesPutUptoRow : OpenClaim := { program := "ytidjpalnmnehmaagreatdoor", sum := "0f1a152e627fa530e0c9d23c217354a65b1b956c7aef1e9a14b5af35f880c937", func := "loop.example/wireforms/laws.FnBytesPut", spec := "fnBytesPut", inPlace := ["internal/bytealg.IndexByteString", "internal/bytealg.IndexString", "internal/bytealg.CountString", "internal/abi.NoEscape", "internal/bytealg.MakeNoZero"], unfollowed := true, recurses := true, named := ["internal/bytealg.MaxLen", "unicode/utf8.first", "unicode/utf8.acceptRanges"], apart := false, laid := [("unicode/utf8.acceptRanges", laid_unicode_utf8_acceptRanges), ("unicode/utf8.first", laid_unicode_utf8_first)], narrowed := true }
def FnBytesPutUptoSaid : Prop := fnBytesPutUptoRow.holds Tryz.pinned (OpenSpec.upto fnBytesPutSpec)

/-- 'laws.FnBytesUnknown', WHERE WHAT IT READS IS OF BULK AT MOST 1048576: true; the input reads as it did. -/
def fnBytesUnknownUptoRow : OpenClaim := { program := "ytidjpalnmnehmaagreatdoor", sum := "0f1a152e627fa530e0c9d23c217354a65b1b956c7aef1e9a14b5af35f880c937", func := "loop.example/wireforms/laws.FnBytesUnknown", spec := "fnBytesUnknown", inPlace := ["internal/bytealg.IndexByteString", "internal/bytealg.IndexString", "internal/bytealg.CountString", "internal/abi.NoEscape", "internal/bytealg.MakeNoZero"], unfollowed := true, recurses := true, named := ["internal/bytealg.MaxLen", "unicode/utf8.first", "unicode/utf8.acceptRanges"], apart := false, laid := [("unicode/utf8.acceptRanges", laid_unicode_utf8_acceptRanges), ("unicode/utf8.first", laid_unicode_utf8_first)], narrowed := true }
def FnBytesUnknownUptoSaid : Prop := fnBytesUnknownUptoRow.holds Tryz.pinned (OpenSpec.upto fnBytesUnknownSpec)

/-- 'laws.FnExactBytesPut', WHERE WHAT IT READS IS OF BULK AT MOST 1048576: true; the input reads as it did. -/
def fnExactBytesPutUptoRow : OpenClaim := { program := "ytidjpalnmnehmaagreatdoor", sum := "0f1a152e627fa530e0c9d23c217354a65b1b956c7aef1e9a14b5af35f880c937", func := "loop.example/wireforms/laws.FnExactBytesPut", spec := "fnExactBytesPut", inPlace := ["internal/bytealg.IndexByteString", "internal/bytealg.IndexString", "internal/bytealg.CountString", "internal/abi.NoEscape", "internal/bytealg.MakeNoZero"], recurses := true, named := ["internal/bytealg.MaxLen", "unicode/utf8.first", "unicode/utf8.acceptRanges"], apart := false, laid := [("unicode/utf8.acceptRanges", laid_unicode_utf8_acceptRanges), ("unicode/utf8.first", laid_unicode_utf8_first)], narrowed := true }
def FnExactBytesPutUptoSaid : Prop := fnExactBytesPutUptoRow.holds Tryz.pinned (OpenSpec.upto fnExactBytesPutSpec)

/-- 'laws.FnBytesOne', WHERE WHAT IT READS IS OF BULK AT MOST 1048576: true; the input reads as it did. -/
def fnBytesOneUptoRow : OpenClaim := { program := "ytidjpalnmnehmaagreatdoor", sum := "0f1a152e627fa530e0c9d23c217354a65b1b956c7aef1e9a14b5af35f880c937", func := "loop.example/wireforms/laws.FnBytesOne", spec := "fnBytesOne", inPlace := ["internal/bytealg.IndexByteString", "internal/bytealg.IndexString", "internal/bytealg.CountString", "internal/abi.NoEscape", "internal/bytealg.MakeNoZero"], recurses := true, named := ["internal/bytealg.MaxLen", "unicode/utf8.first", "unicode/utf8.acceptRanges"], apart := false, laid := [("unicode/utf8.acceptRanges", laid_unicode_utf8_acceptRanges), ("unicode/utf8.first", laid_unicode_utf8_first)], narrowed := true }
def FnBytesOneUptoSaid : Prop := fnBytesOneUptoRow.holds Tryz.pinned (OpenSpec.upto fnBytesOneSpec)

/-- 'laws.FnBytesPart', WHERE WHAT IT READS IS OF BULK AT MOST 1048576: true; the input reads as it did. -/
def fnBytesPartUptoRow : OpenClaim := { program := "ytidjpalnmnehmaagreatdoor", sum := "0f1a152e627fa530e0c9d23c217354a65b1b956c7aef1e9a14b5af35f880c937", func := "loop.example/wireforms/laws.FnBytesPart", spec := "fnBytesPart", inPlace := ["internal/bytealg.IndexByteString", "internal/bytealg.IndexString", "internal/bytealg.CountString", "internal/abi.NoEscape", "internal/bytealg.MakeNoZero"], recurses := true, named := ["internal/bytealg.MaxLen", "unicode/utf8.first", "unicode/utf8.acceptRanges"], apart := false, laid := [("unicode/utf8.acceptRanges", laid_unicode_utf8_acceptRanges), ("unicode/utf8.first", laid_unicode_utf8_first)], narrowed := true }
def FnBytesPartUptoSaid : Prop := fnBytesPartUptoRow.holds Tryz.pinned (OpenSpec.upto fnBytesPartSpec)

/-- 'laws.FnExactBytesCanon', WHERE WHAT IT READS IS OF BULK AT MOST 1048576: true; the input reads as it did. -/
def fnExactBytesCanonUptoRow : OpenClaim := { program := "ytidjpalnmnehmaagreatdoor", sum := "0f1a152e627fa530e0c9d23c217354a65b1b956c7aef1e9a14b5af35f880c937", func := "loop.example/wireforms/laws.FnExactBytesCanon", spec := "fnExactBytesCanon", inPlace := ["internal/bytealg.IndexByteString", "internal/bytealg.IndexString", "internal/bytealg.CountString", "internal/abi.NoEscape", "internal/bytealg.MakeNoZero"], unfollowed := true, recurses := true, named := ["internal/bytealg.MaxLen", "unicode/utf8.first", "unicode/utf8.acceptRanges"], apart := false, laid := [("unicode/utf8.acceptRanges", laid_unicode_utf8_acceptRanges), ("unicode/utf8.first", laid_unicode_utf8_first)], narrowed := true }
def FnExactBytesCanonUptoSaid : Prop := fnExactBytesCanonUptoRow.holds Tryz.pinned (OpenSpec.upto fnExactBytesCanonSpec)

/-- 'laws.FnBytesPrefix', WHERE WHAT IT READS IS OF BULK AT MOST 1048576: true; the input reads as it did. -/
def fnBytesPrefixUptoRow : OpenClaim := { program := "ytidjpalnmnehmaagreatdoor", sum := "0f1a152e627fa530e0c9d23c217354a65b1b956c7aef1e9a14b5af35f880c937", func := "loop.example/wireforms/laws.FnBytesPrefix", spec := "fnBytesPrefix", inPlace := ["internal/bytealg.IndexByteString", "internal/bytealg.IndexString", "internal/bytealg.CountString", "internal/abi.NoEscape", "internal/bytealg.MakeNoZero"], unfollowed := true, recurses := true, named := ["internal/bytealg.MaxLen", "unicode/utf8.first", "unicode/utf8.acceptRanges"], apart := false, laid := [("unicode/utf8.acceptRanges", laid_unicode_utf8_acceptRanges), ("unicode/utf8.first", laid_unicode_utf8_first)], narrowed := true }
def FnBytesPrefixUptoSaid : Prop := fnBytesPrefixUptoRow.holds Tryz.pinned (OpenSpec.upto fnBytesPrefixSpec)

end Rows
end Go.Proofs.YtidjpalnmnehmaaGreatDoor
