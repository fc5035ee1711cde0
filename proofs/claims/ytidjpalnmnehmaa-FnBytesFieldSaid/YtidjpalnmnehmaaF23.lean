/- Packed by pack.py: Iz. -/
import Derived.Shelf.Strings.SlTrimAscii
import Derived.Shelf.Strings.Prefix
import Derived.Shelf.Strings.Cut
import Derived.Shelf.Strings.Search3
import Derived.Shelf.Strings.Split
import Derived.Shelf.Strings.SplitShaped
import Derived.Shelf.Strings.Shaped
import Derived.Shelf.Small.Wraps
import Derived.Shelf.Strings.OnBuilder
import Derived.Test.YtidjpalnmnehmaaF22
namespace Go.Proofs.Ytidjpalnmnehmaa
open Go.ChangeShapes Go.WideShapes Go.ChangeAt Go.RowKit Go.Lib
set_option linter.unusedVariables false
set_option linter.unusedSimpArgs false
def strLen : Value → Nat
  | .string b => b.size
  | _ => 0
theorem ItOut.shape {l : List UInt8} {lo : Nat} {e : Ending} {w' : World} (h : ItOut l lo e w') : (Wf.lineTy l = none ∧ ∃ p,e = .returned (.tuple #[.pointer p, .bool false])) ∨ ∃ t b,Wf.lineTy l = some t ∧ e = .returned (.tuple #[ptr b, .bool true]) ∧ TyL w' lo b t:=by
  unfold ItOut at h
  cases hl : Wf.lineTy l with
  | none => rw [hl] at h;exact .inl ⟨rfl,h⟩
  | some t => rw [hl] at h;obtain ⟨b,h1,h2⟩:=h;exact .inr ⟨t,b,rfl,h1,h2⟩
theorem ItOut.no {l : List UInt8} {lo : Nat} {e : Ending} {w' : World} (h : ItOut l lo e w') (hl : Wf.lineTy l = none) : ∃ p,e = .returned (.tuple #[.pointer p, .bool false]):=by
  unfold ItOut at h;rw [hl] at h;exact h
theorem ItOut.yes {l : List UInt8} {lo : Nat} {e : Ending} {w' : World} {t : Wf.Ty} (h : ItOut l lo e w') (hl : Wf.lineTy l = some t) : ∃ b,e = .returned (.tuple #[ptr b, .bool true]) ∧ TyL w' lo b t:=by
  unfold ItOut at h;rw [hl] at h;exact h
theorem TyL.name {w : World} {lo b : Nat} {t : Wf.Ty} (h : TyL w lo b t) : w.cell? ⟨b,1,none⟩ = some (tx t.name):=by
  obtain ⟨_,_,_,_,_,_,_,_,c1,_⟩:=h;exact c1
def RsOut (l : List UInt8) (lo : Nat) (e : Ending) (w' : World) : Prop:=match Wf.schemaOf l with
  | some x => ∃ sb,e = .returned (.tuple #[ptr sb, .bool true]) ∧ ScL w' lo sb x
  | none => ∃ p,e = .returned (.tuple #[.pointer p, .bool false])
end Go.Proofs.Ytidjpalnmnehmaa
