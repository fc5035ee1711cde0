/- Packed by pack.py: If. -/
import Derived.Shelf.Strings.SlTrimAscii
import Derived.Shelf.Strings.Prefix
import Derived.Shelf.Strings.Cut
import Derived.Shelf.Strings.Search3
import Derived.Shelf.Strings.Split
import Derived.Shelf.Strings.SplitShaped
import Derived.Shelf.Strings.Shaped
import Derived.Shelf.Small.Wraps
import Derived.Shelf.Strings.OnBuilder
import Derived.Test.YtidjpalnmnehmaaF18
import Derived.Test.YtidjpalnmnehmaaF15
import Derived.Test.YtidjpalnmnehmaaF5
namespace Go.Proofs.Ytidjpalnmnehmaa
open Go.ChangeShapes Go.WideShapes Go.ChangeAt Go.RowKit Go.Lib
set_option linter.unusedVariables false
set_option linter.unusedSimpArgs false
abbrev w0 (w : World) : World:=w.alloc (.cells #[.int .i64 0,tx [],tx [],tx [],tx [],tx []] 126)
theorem behind {w wa wb : World} (ha : Below (w.heap.size + 1) (w0 w) wa) (hs : w.heap.size + 2 < wa.heap.size) (hb : Below wa.heap.size wa wb) : ((∀ b o,b < wa.heap.size → wb.cell? ⟨b,o,none⟩ = wa.cell? ⟨b,o,none⟩) ∧ (∀ b o,b < wa.heap.size → wb.frozen? ⟨b,o,none⟩ = wa.frozen? ⟨b,o,none⟩)) ∧ w.heap.size + 2 < wb.heap.size ∧ w.heap.size < wb.heap.size ∧ Hid (Below (w.heap.size + 1) (w0 w) wb) ∧ Hid (Below w.heap.size w wb) ∧
    wb.cell? ⟨w.heap.size,0,none⟩ = some (.int .i64 0) ∧ wb.cell? ⟨w.heap.size,1,none⟩ = some (tx []) ∧ wb.cell? ⟨w.heap.size,2,none⟩ = some (tx []) ∧ wb.cell? ⟨w.heap.size,3,none⟩ = some (tx []) ∧ wb.cell? ⟨w.heap.size,4,none⟩ = some (tx []) ∧ wb.cell? ⟨w.heap.size,5,none⟩ = some (tx []):=by
  have D:=ha.trans (hb.mono (by omega))
  have c:=fun k => D.cell (p:=⟨w.heap.size,k,none⟩) (Nat.lt_succ_self _)
  exact ⟨bcell hb,by have:=hb.size;omega,by have:=hb.size;omega,hid D,hid (((Below.refl _ _).alloc (Nat.le_refl _) _).trans (D.mono (Nat.le_succ _))),(c 0).trans (by simp),(c 1).trans (by simp),(c 2).trans (by simp),(c 3).trans (by simp),(c 4).trans (by simp),(c 5).trans (by simp)⟩
section
variable {s : ByteArray} {sort : Nat} {w : World} {m : Int} {H V : ByteArray} {told : Bool} {A B D : ByteArray} {v : Value}
end
end Go.Proofs.Ytidjpalnmnehmaa
