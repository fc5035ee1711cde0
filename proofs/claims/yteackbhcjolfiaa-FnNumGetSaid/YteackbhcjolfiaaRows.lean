/-
  No cell of these rows narrows 'for every input' (looked for: loops, veiled, ifaces, maps, wideKeys, modest, calm, conditions, laid).
  DERIVED. THE GIVEN ROWS OF THIS SEAT. 12 by the template 'for every input the law returns true; each argument reads behind the call as it read before'; 0 by the template 'total and deterministic' (their statements: YteackbhcjolfiaaTotals.lean).
  GIVEN WITH THE SEED: the statements are not yours to turn. If you find one false, say at which input.
  Laid BY PROGRAM, IN A SANDBOX (cutbox-rows.mjs): the forced cells as the released guide's own fill.sh prints them over the translation f786ef648e3ae5dc… (all of the seat's roots in one cut). By AI agents, Wed Nov 11 2026. No macro, syntax, notation, axiom, sorry.
-/
import Derived.Test.YteackbhcjolfiaaChecked
import GoSem.Claim
import GoSem.ClaimJoined
import GoSem.ClaimMapViews
import Derived.JoinedTies
import Derived.KernelRfl
namespace Go.Proofs.Yteackbhcjolfiaa
/- THE CELL 'sum', in the pinned program and in every row, IS THE sha256 OF THE DUMP (.gsa) THAT YteackbhcjolfiaaProg.lean LOADS. Nothing in Lean hashes anything: it is a label: what it is worth is what the hold of that sum in a sandbox is worth. -/
noncomputable def Try.pinned : Pinned := { name := "yteackbhcjolfiaa", sum := "f786ef648e3ae5dcf375dd6ce4748c7caa345045afce51a8d6011b644646f9d7", checked := Try.checked }
namespace Rows
def none {H : Type} : Left H := { results := [], args := [] }

/-- 'laws.FnExactConstants': WHATEVER THE INPUT: true; the input reads as it did. -/
def fnExactConstantsSpec : ChangeSpec := { name := "fnExactConstants", fn := fun _ => fun
  | [] => { results := [.lit (.bool true)], args := [] }
  | _ => none }
def fnExactConstantsRow : OpenClaim := { program := "yteackbhcjolfiaa", sum := "f786ef648e3ae5dcf375dd6ce4748c7caa345045afce51a8d6011b644646f9d7", func := "loop.example/wireforms/laws.FnExactConstants", spec := "fnExactConstants", apart := false }
def FnExactConstantsSaid : Prop := fnExactConstantsRow.holds Try.pinned (OpenSpec.ofChange fnExactConstantsSpec)

/-- ITS FALSE NEIGHBOUR: 'it returns false'. Refute it at one input. -/
def fnExactConstantsWrong : ChangeSpec := { name := "fnExactConstants", fn := fun _ => fun
  | [] => { results := [.lit (.bool false)], args := [] }
  | _ => none }
def FnExactConstantsWrongFalsely : Prop := fnExactConstantsRow.holds Try.pinned (OpenSpec.ofChange fnExactConstantsWrong)

/-- 'laws.FnExactFoldNum': WHATEVER THE INPUT: true; the input reads as it did. -/
def fnExactFoldNumSpec : ChangeSpec := { name := "fnExactFoldNum", fn := fun _ => fun
  | [d] => { results := [.lit (.bool true)], args := [d] }
  | _ => none }
def fnExactFoldNumRow : OpenClaim := { program := "yteackbhcjolfiaa", sum := "f786ef648e3ae5dcf375dd6ce4748c7caa345045afce51a8d6011b644646f9d7", func := "loop.example/wireforms/laws.FnExactFoldNum", spec := "fnExactFoldNum", apart := false }
def FnExactFoldNumSaid : Prop := fnExactFoldNumRow.holds Try.pinned (OpenSpec.ofChange fnExactFoldNumSpec)

/-- ITS FALSE NEIGHBOUR: 'it returns false'. Refute it at one input. -/
def fnExactFoldNumWrong : ChangeSpec := { name := "fnExactFoldNum", fn := fun _ => fun
  | [d] => { results := [.lit (.bool false)], args := [d] }
  | _ => none }
def FnExactFoldNumWrongFalsely : Prop := fnExactFoldNumRow.holds Try.pinned (OpenSpec.ofChange fnExactFoldNumWrong)

/-- 'laws.FnExactNumPut': WHATEVER THE INPUT: true; the input reads as it did. -/
def fnExactNumPutSpec : ChangeSpec := { name := "fnExactNumPut", fn := fun _ => fun
  | [d] => { results := [.lit (.bool true)], args := [d] }
  | _ => none }
def fnExactNumPutRow : OpenClaim := { program := "yteackbhcjolfiaa", sum := "f786ef648e3ae5dcf375dd6ce4748c7caa345045afce51a8d6011b644646f9d7", func := "loop.example/wireforms/laws.FnExactNumPut", spec := "fnExactNumPut", recurses := true, apart := false }
def FnExactNumPutSaid : Prop := fnExactNumPutRow.holds Try.pinned (OpenSpec.ofChange fnExactNumPutSpec)

/-- ITS FALSE NEIGHBOUR: 'it returns false'. Refute it at one input. -/
def fnExactNumPutWrong : ChangeSpec := { name := "fnExactNumPut", fn := fun _ => fun
  | [d] => { results := [.lit (.bool false)], args := [d] }
  | _ => none }
def FnExactNumPutWrongFalsely : Prop := fnExactNumPutRow.holds Try.pinned (OpenSpec.ofChange fnExactNumPutWrong)

/-- 'laws.FnExactNumGet': WHATEVER THE INPUT: true; the input reads as it did. -/
def fnExactNumGetSpec : ChangeSpec := { name := "fnExactNumGet", fn := fun _ => fun
  | [d] => { results := [.lit (.bool true)], args := [d] }
  | _ => none }
def fnExactNumGetRow : OpenClaim := { program := "yteackbhcjolfiaa", sum := "f786ef648e3ae5dcf375dd6ce4748c7caa345045afce51a8d6011b644646f9d7", func := "loop.example/wireforms/laws.FnExactNumGet", spec := "fnExactNumGet", apart := false }
def FnExactNumGetSaid : Prop := fnExactNumGetRow.holds Try.pinned (OpenSpec.ofChange fnExactNumGetSpec)

/-- ITS FALSE NEIGHBOUR: 'it returns false'. Refute it at one input. -/
def fnExactNumGetWrong : ChangeSpec := { name := "fnExactNumGet", fn := fun _ => fun
  | [d] => { results := [.lit (.bool false)], args := [d] }
  | _ => none }
def FnExactNumGetWrongFalsely : Prop := fnExactNumGetRow.holds Try.pinned (OpenSpec.ofChange fnExactNumGetWrong)

/-- 'laws.FnExactOpenNum': WHATEVER THE INPUT: true; the input reads as it did. -/
def fnExactOpenNumSpec : ChangeSpec := { name := "fnExactOpenNum", fn := fun _ => fun
  | [d] => { results := [.lit (.bool true)], args := [d] }
  | _ => none }
def fnExactOpenNumRow : OpenClaim := { program := "yteackbhcjolfiaa", sum := "f786ef648e3ae5dcf375dd6ce4748c7caa345045afce51a8d6011b644646f9d7", func := "loop.example/wireforms/laws.FnExactOpenNum", spec := "fnExactOpenNum", apart := false }
def FnExactOpenNumSaid : Prop := fnExactOpenNumRow.holds Try.pinned (OpenSpec.ofChange fnExactOpenNumSpec)

/-- ITS FALSE NEIGHBOUR: 'it returns false'. Refute it at one input. -/
def fnExactOpenNumWrong : ChangeSpec := { name := "fnExactOpenNum", fn := fun _ => fun
  | [d] => { results := [.lit (.bool false)], args := [d] }
  | _ => none }
def FnExactOpenNumWrongFalsely : Prop := fnExactOpenNumRow.holds Try.pinned (OpenSpec.ofChange fnExactOpenNumWrong)

/-- 'laws.FnExactNumSize': WHATEVER THE INPUT: true; the input reads as it did. -/
def fnExactNumSizeSpec : ChangeSpec := { name := "fnExactNumSize", fn := fun _ => fun
  | [d] => { results := [.lit (.bool true)], args := [d] }
  | _ => none }
def fnExactNumSizeRow : OpenClaim := { program := "yteackbhcjolfiaa", sum := "f786ef648e3ae5dcf375dd6ce4748c7caa345045afce51a8d6011b644646f9d7", func := "loop.example/wireforms/laws.FnExactNumSize", spec := "fnExactNumSize", recurses := true, apart := false }
def FnExactNumSizeSaid : Prop := fnExactNumSizeRow.holds Try.pinned (OpenSpec.ofChange fnExactNumSizeSpec)

/-- ITS FALSE NEIGHBOUR: 'it returns false'. Refute it at one input. -/
def fnExactNumSizeWrong : ChangeSpec := { name := "fnExactNumSize", fn := fun _ => fun
  | [d] => { results := [.lit (.bool false)], args := [d] }
  | _ => none }
def FnExactNumSizeWrongFalsely : Prop := fnExactNumSizeRow.holds Try.pinned (OpenSpec.ofChange fnExactNumSizeWrong)

/-- 'laws.FnFoldNum': WHATEVER THE INPUT: true; the input reads as it did. -/
def fnFoldNumSpec : ChangeSpec := { name := "fnFoldNum", fn := fun _ => fun
  | [d] => { results := [.lit (.bool true)], args := [d] }
  | _ => none }
def fnFoldNumRow : OpenClaim := { program := "yteackbhcjolfiaa", sum := "f786ef648e3ae5dcf375dd6ce4748c7caa345045afce51a8d6011b644646f9d7", func := "loop.example/wireforms/laws.FnFoldNum", spec := "fnFoldNum", apart := false }
def FnFoldNumSaid : Prop := fnFoldNumRow.holds Try.pinned (OpenSpec.ofChange fnFoldNumSpec)

/-- ITS FALSE NEIGHBOUR: 'it returns false'. Refute it at one input. -/
def fnFoldNumWrong : ChangeSpec := { name := "fnFoldNum", fn := fun _ => fun
  | [d] => { results := [.lit (.bool false)], args := [d] }
  | _ => none }
def FnFoldNumWrongFalsely : Prop := fnFoldNumRow.holds Try.pinned (OpenSpec.ofChange fnFoldNumWrong)

/-- 'laws.FnNumSize': WHATEVER THE INPUT: true; the input reads as it did. -/
def fnNumSizeSpec : ChangeSpec := { name := "fnNumSize", fn := fun _ => fun
  | [d] => { results := [.lit (.bool true)], args := [d] }
  | _ => none }
def fnNumSizeRow : OpenClaim := { program := "yteackbhcjolfiaa", sum := "f786ef648e3ae5dcf375dd6ce4748c7caa345045afce51a8d6011b644646f9d7", func := "loop.example/wireforms/laws.FnNumSize", spec := "fnNumSize", recurses := true, apart := false }
def FnNumSizeSaid : Prop := fnNumSizeRow.holds Try.pinned (OpenSpec.ofChange fnNumSizeSpec)

/-- ITS FALSE NEIGHBOUR: 'it returns false'. Refute it at one input. -/
def fnNumSizeWrong : ChangeSpec := { name := "fnNumSize", fn := fun _ => fun
  | [d] => { results := [.lit (.bool false)], args := [d] }
  | _ => none }
def FnNumSizeWrongFalsely : Prop := fnNumSizeRow.holds Try.pinned (OpenSpec.ofChange fnNumSizeWrong)

/-- 'laws.FnOpenNum': WHATEVER THE INPUT: true; the input reads as it did. -/
def fnOpenNumSpec : ChangeSpec := { name := "fnOpenNum", fn := fun _ => fun
  | [d] => { results := [.lit (.bool true)], args := [d] }
  | _ => none }
def fnOpenNumRow : OpenClaim := { program := "yteackbhcjolfiaa", sum := "f786ef648e3ae5dcf375dd6ce4748c7caa345045afce51a8d6011b644646f9d7", func := "loop.example/wireforms/laws.FnOpenNum", spec := "fnOpenNum", apart := false }
def FnOpenNumSaid : Prop := fnOpenNumRow.holds Try.pinned (OpenSpec.ofChange fnOpenNumSpec)

/-- ITS FALSE NEIGHBOUR: 'it returns false'. Refute it at one input. -/
def fnOpenNumWrong : ChangeSpec := { name := "fnOpenNum", fn := fun _ => fun
  | [d] => { results := [.lit (.bool false)], args := [d] }
  | _ => none }
def FnOpenNumWrongFalsely : Prop := fnOpenNumRow.holds Try.pinned (OpenSpec.ofChange fnOpenNumWrong)

/-- 'laws.FnNumPut': WHATEVER THE INPUT: true; the input reads as it did. -/
def fnNumPutSpec : ChangeSpec := { name := "fnNumPut", fn := fun _ => fun
  | [d1, d2] => { results := [.lit (.bool true)], args := [d1, d2] }
  | _ => none }
def fnNumPutRow : OpenClaim := { program := "yteackbhcjolfiaa", sum := "f786ef648e3ae5dcf375dd6ce4748c7caa345045afce51a8d6011b644646f9d7", func := "loop.example/wireforms/laws.FnNumPut", spec := "fnNumPut", recurses := true, apart := false }
def FnNumPutSaid : Prop := fnNumPutRow.holds Try.pinned (OpenSpec.ofChange fnNumPutSpec)

/-- ITS FALSE NEIGHBOUR: 'it returns false'. Refute it at one input. -/
def fnNumPutWrong : ChangeSpec := { name := "fnNumPut", fn := fun _ => fun
  | [d1, d2] => { results := [.lit (.bool false)], args := [d1, d2] }
  | _ => none }
def FnNumPutWrongFalsely : Prop := fnNumPutRow.holds Try.pinned (OpenSpec.ofChange fnNumPutWrong)

/-- 'laws.FnNumGet': WHATEVER THE INPUT: true; the input reads as it did. -/
def fnNumGetSpec : ChangeSpec := { name := "fnNumGet", fn := fun _ => fun
  | [d] => { results := [.lit (.bool true)], args := [d] }
  | _ => none }
def fnNumGetRow : OpenClaim := { program := "yteackbhcjolfiaa", sum := "f786ef648e3ae5dcf375dd6ce4748c7caa345045afce51a8d6011b644646f9d7", func := "loop.example/wireforms/laws.FnNumGet", spec := "fnNumGet", recurses := true, apart := false }
def FnNumGetSaid : Prop := fnNumGetRow.holds Try.pinned (OpenSpec.ofChange fnNumGetSpec)

/-- ITS FALSE NEIGHBOUR: 'it returns false'. Refute it at one input. -/
def fnNumGetWrong : ChangeSpec := { name := "fnNumGet", fn := fun _ => fun
  | [d] => { results := [.lit (.bool false)], args := [d] }
  | _ => none }
def FnNumGetWrongFalsely : Prop := fnNumGetRow.holds Try.pinned (OpenSpec.ofChange fnNumGetWrong)

/-- 'laws.FnExactBytesField': WHATEVER THE INPUT: true; the input reads as it did. -/
def fnExactBytesFieldSpec : ChangeSpec := { name := "fnExactBytesField", fn := fun _ => fun
  | [d1, d2] => { results := [.lit (.bool true)], args := [d1, d2] }
  | _ => none }
def fnExactBytesFieldRow : OpenClaim := { program := "yteackbhcjolfiaa", sum := "f786ef648e3ae5dcf375dd6ce4748c7caa345045afce51a8d6011b644646f9d7", func := "loop.example/wireforms/laws.FnExactBytesField", spec := "fnExactBytesField", apart := false }
def FnExactBytesFieldSaid : Prop := fnExactBytesFieldRow.holds Try.pinned (OpenSpec.ofChange fnExactBytesFieldSpec)

/-- ITS FALSE NEIGHBOUR: 'it returns false'. Refute it at one input. -/
def fnExactBytesFieldWrong : ChangeSpec := { name := "fnExactBytesField", fn := fun _ => fun
  | [d1, d2] => { results := [.lit (.bool false)], args := [d1, d2] }
  | _ => none }
def FnExactBytesFieldWrongFalsely : Prop := fnExactBytesFieldRow.holds Try.pinned (OpenSpec.ofChange fnExactBytesFieldWrong)

/- THE SECOND FORM. 'bulk': how many values and letters a reading holds, each counted each time it is reached (what is shared counts as often as it is met; a slice's spare places count too). A statement '..UptoSaid' is the law's where the arguments, and the package variables that the reading takes, are together of bulk at most 1048576: NARROWER than '..Said'. Prove '..Said' where nothing that the law and all that it calls make is longer than what came in: it says more and counts as full. Else prove '..UptoSaid'. A law counts once. -/
mutual
def uptoBulk {H : Type} : DataW H → Nat
  | .lit (.string bytes) => bytes.length + 1
  | .lit _ => 1
  | .nil => 1
  | .ptr d => uptoBulk d + 1
  | .slice elems spare => uptoBulkAll elems + uptoBulkAll spare + 1
  | .agg parts => uptoBulkAll parts + 1
  | .iface _ d => uptoBulk d + 1
  | .map entries => uptoBulkEntries entries + 1
  | .held _ => 1
def uptoBulkAll {H : Type} : List (DataW H) → Nat
  | [] => 0
  | d :: r => uptoBulk d + uptoBulkAll r
def uptoBulkEntries {H : Type} : List (Lit × DataW H) → Nat
  | [] => 0
  | x :: r => uptoBulkEntry x + uptoBulkEntries r
def uptoBulkEntry {H : Type} : Lit × DataW H → Nat
  | (.string bytes, d) => bytes.length + uptoBulk d + 1
  | (_, d) => uptoBulk d + 1
 end
def uptoSmall : (H : Type) → List (DataW H) → Bool := fun _ ds => decide (uptoBulkAll ds ≤ 1048576)
def OpenSpec.upto (s : _root_.Go.ChangeSpec) : _root_.Go.OpenSpec := { _root_.Go.OpenSpec.ofChange s with cond := some uptoSmall }

/-- 'laws.FnExactConstants', WHERE WHAT IT READS IS OF BULK AT MOST 1048576: true; the input reads as it did. -/
def fnExactConstantsUptoRow : OpenClaim := { program := "yteackbhcjolfiaa", sum := "f786ef648e3ae5dcf375dd6ce4748c7caa345045afce51a8d6011b644646f9d7", func := "loop.example/wireforms/laws.FnExactConstants", spec := "fnExactConstants", apart := false, narrowed := true }
def FnExactConstantsUptoSaid : Prop := fnExactConstantsUptoRow.holds Try.pinned (OpenSpec.upto fnExactConstantsSpec)

/-- 'laws.FnExactFoldNum', WHERE WHAT IT READS IS OF BULK AT MOST 1048576: true; the input reads as it did. -/
def fnExactFoldNumUptoRow : OpenClaim := { program := "yteackbhcjolfiaa", sum := "f786ef648e3ae5dcf375dd6ce4748c7caa345045afce51a8d6011b644646f9d7", func := "loop.example/wireforms/laws.FnExactFoldNum", spec := "fnExactFoldNum", apart := false, narrowed := true }
def FnExactFoldNumUptoSaid : Prop := fnExactFoldNumUptoRow.holds Try.pinned (OpenSpec.upto fnExactFoldNumSpec)

/-- 'laws.FnExactNumPut', WHERE WHAT IT READS IS OF BULK AT MOST 1048576: true; the input reads as it did. -/
def fnExactNumPutUptoRow : OpenClaim := { program := "yteackbhcjolfiaa", sum := "f786ef648e3ae5dcf375dd6ce4748c7caa345045afce51a8d6011b644646f9d7", func := "loop.example/wireforms/laws.FnExactNumPut", spec := "fnExactNumPut", recurses := true, apart := false, narrowed := true }
def FnExactNumPutUptoSaid : Prop := fnExactNumPutUptoRow.holds Try.pinned (OpenSpec.upto fnExactNumPutSpec)

/-- 'laws.FnExactNumGet', WHERE WHAT IT READS IS OF BULK AT MOST 1048576: true; the input reads as it did. -/
def fnExactNumGetUptoRow : OpenClaim := { program := "yteackbhcjolfiaa", sum := "f786ef648e3ae5dcf375dd6ce4748c7caa345045afce51a8d6011b644646f9d7", func := "loop.example/wireforms/laws.FnExactNumGet", spec := "fnExactNumGet", apart := false, narrowed := true }
def FnExactNumGetUptoSaid : Prop := fnExactNumGetUptoRow.holds Try.pinned (OpenSpec.upto fnExactNumGetSpec)

/-- 'laws.FnExactOpenNum', WHERE WHAT IT READS IS OF BULK AT MOST 1048576: true; the input reads as it did. -/
def fnExactOpenNumUptoRow : OpenClaim := { program := "yteackbhcjolfiaa", sum := "f786ef648e3ae5dcf375dd6ce4748c7caa345045afce51a8d6011b644646f9d7", func := "loop.example/wireforms/laws.FnExactOpenNum", spec := "fnExactOpenNum", apart := false, narrowed := true }
def FnExactOpenNumUptoSaid : Prop := fnExactOpenNumUptoRow.holds Try.pinned (OpenSpec.upto fnExactOpenNumSpec)

/-- 'laws.FnExactNumSize', WHERE WHAT IT READS IS OF BULK AT MOST 1048576: true; the input reads as it did. -/
def fnExactNumSizeUptoRow : OpenClaim := { program := "yteackbhcjolfiaa", sum := "f786ef648e3ae5dcf375dd6ce4748c7caa345045afce51a8d6011b644646f9d7", func := "loop.example/wireforms/laws.FnExactNumSize", spec := "fnExactNumSize", recurses := true, apart := false, narrowed := true }
def FnExactNumSizeUptoSaid : Prop := fnExactNumSizeUptoRow.holds Try.pinned (OpenSpec.upto fnExactNumSizeSpec)

/-- 'laws.FnFoldNum', WHERE WHAT IT READS IS OF BULK AT MOST 1048576: true; the input reads as it did. -/
def fnFoldNumUptoRow : OpenClaim := { program := "yteackbhcjolfiaa", sum := "f786ef648e3ae5dcf375dd6ce4748c7caa345045afce51a8d6011b644646f9d7", func := "loop.example/wireforms/laws.FnFoldNum", spec := "fnFoldNum", apart := false, narrowed := true }
def FnFoldNumUptoSaid : Prop := fnFoldNumUptoRow.holds Try.pinned (OpenSpec.upto fnFoldNumSpec)

/-- 'laws.FnNumSize', WHERE WHAT IT READS IS OF BULK AT MOST 1048576: true; the input reads as it did. -/
def fnNumSizeUptoRow : OpenClaim := { program := "yteackbhcjolfiaa", sum := "f786ef648e3ae5dcf375dd6ce4748c7caa345045afce51a8d6011b644646f9d7", func := "loop.example/wireforms/laws.FnNumSize", spec := "fnNumSize", recurses := true, apart := false, narrowed := true }
def FnNumSizeUptoSaid : Prop := fnNumSizeUptoRow.holds Try.pinned (OpenSpec.upto fnNumSizeSpec)

/-- 'laws.FnOpenNum', WHERE WHAT IT READS IS OF BULK AT MOST 1048576: true; the input reads as it did. -/
def fnOpenNumUptoRow : OpenClaim := { program := "yteackbhcjolfiaa", sum := "f786ef648e3ae5dcf375dd6ce4748c7caa345045afce51a8d6011b644646f9d7", func := "loop.example/wireforms/laws.FnOpenNum", spec := "fnOpenNum", apart := false, narrowed := true }
def FnOpenNumUptoSaid : Prop := fnOpenNumUptoRow.holds Try.pinned (OpenSpec.upto fnOpenNumSpec)

/-- 'laws.FnNumPut', WHERE WHAT IT READS IS OF BULK AT MOST 1048576: true; the input reads as it did. -/
def fnNumPutUptoRow : OpenClaim := { program := "yteackbhcjolfiaa", sum := "f786ef648e3ae5dcf375dd6ce4748c7caa345045afce51a8d6011b644646f9d7", func := "loop.example/wireforms/laws.FnNumPut", spec := "fnNumPut", recurses := true, apart := false, narrowed := true }
def FnNumPutUptoSaid : Prop := fnNumPutUptoRow.holds Try.pinned (OpenSpec.upto fnNumPutSpec)

/-- 'laws.FnNumGet', WHERE WHAT IT READS IS OF BULK AT MOST 1048576: true; the input reads as it did. -/
def fnNumGetUptoRow : OpenClaim := { program := "yteackbhcjolfiaa", sum := "f786ef648e3ae5dcf375dd6ce4748c7caa345045afce51a8d6011b644646f9d7", func := "loop.example/wireforms/laws.FnNumGet", spec := "fnNumGet", recurses := true, apart := false, narrowed := true }
def FnNumGetUptoSaid : Prop := fnNumGetUptoRow.holds Try.pinned (OpenSpec.upto fnNumGetSpec)

/-- 'laws.FnExactBytesField', WHERE WHAT IT READS IS OF BULK AT MOST 1048576: true; the input reads as it did. -/
def fnExactBytesFieldUptoRow : OpenClaim := { program := "yteackbhcjolfiaa", sum := "f786ef648e3ae5dcf375dd6ce4748c7caa345045afce51a8d6011b644646f9d7", func := "loop.example/wireforms/laws.FnExactBytesField", spec := "fnExactBytesField", apart := false, narrowed := true }
def FnExactBytesFieldUptoSaid : Prop := fnExactBytesFieldUptoRow.holds Try.pinned (OpenSpec.upto fnExactBytesFieldSpec)

end Rows
end Go.Proofs.Yteackbhcjolfiaa
