/- Packed by pack.py: Iv. -/
import Derived.Shelf.Strings.SlTrimAscii
import Derived.Shelf.Strings.Prefix
import Derived.Shelf.Strings.Cut
import Derived.Shelf.Strings.Search3
import Derived.Shelf.Strings.Split
import Derived.Shelf.Strings.SplitShaped
import Derived.Shelf.Strings.Shaped
import Derived.Shelf.Small.Wraps
import Derived.Shelf.Strings.OnBuilder
import Derived.Test.YtidjpalnmnehmaaF20
namespace Go.Proofs.Ytidjpalnmnehmaa
open Go.ChangeShapes Go.WideShapes Go.ChangeAt Go.RowKit Go.Lib
set_option linter.unusedVariables false
set_option linter.unusedSimpArgs false
theorem fdC_form (sort : UInt8) (f : Wf.Fd) : ∃ s2 s3 s4 s5 : ByteArray,fdC sort f = [.int .i64 f.tag,tx f.name, .string s2, .string s3, .string s4, .string s5]:=by
  unfold fdC
  split
  · exact ⟨_,_,_,_,rfl⟩
  · exact ⟨_,_,_,_,rfl⟩
def ISays (sort : UInt8) (x : List UInt8) (ok : Bool) (t : Nat) (a s2 s3 s4 s5 : ByteArray) : Prop :=
  (ok = true ∧ ∃ f,Wf.fdB sort x = some f ∧ fdC sort f = [.int .i64 t, .string a, .string s2, .string s3, .string s4, .string s5] ∧ f.tag = t ∧ a.data.toList = f.name) ∨ (ok = false ∧ Wf.fdB sort x = none)
theorem IfOut.shape {sort : UInt8} {x : List UInt8} {e : Ending} (h : IfOut sort x e) : ∃ (ok : Bool) (t : Nat) (a s2 s3 s4 s5 : ByteArray),e = .returned (.tuple #[.agg #[.int .i64 t, .string a, .string s2, .string s3, .string s4, .string s5], .bool ok]) ∧ Hid (ISays sort x ok t a s2 s3 s4 s5):=by
  unfold IfOut at h
  rw [Wf.fdA_fdB] at h
  cases hf : Wf.fdB sort x with
  | none =>
    rw [hf] at h
    exact ⟨false,0,_,_,_,_,_,h,hid (.inr ⟨rfl,hf⟩)⟩
  | some f =>
    rw [hf] at h
    obtain ⟨s2,s3,s4,s5,hc⟩:=fdC_form sort f
    dsimp only at h
    rw [hc] at h
    exact ⟨true,f.tag,_,_,_,_,_,h,hid (.inl ⟨rfl,f,hf,hc,rfl,rfl⟩)⟩
end Go.Proofs.Ytidjpalnmnehmaa
