/- Packed by pack.py: Ia Nq Vb. -/
import Derived.Shelf.Strings.SlTrimAscii
import Derived.Shelf.Strings.Prefix
import Derived.Shelf.Strings.Cut
import Derived.Shelf.Strings.Search3
import Derived.Shelf.Strings.Split
import Derived.Shelf.Strings.SplitShaped
import Derived.Shelf.Strings.Shaped
import Derived.Shelf.Small.Wraps
import Derived.Shelf.Strings.OnBuilder
import Derived.Test.YtidjpalnmnehmaaF3
import Derived.Test.YtidjpalnmnehmaaF8
import Derived.Test.YtidjpalnmnehmaaF17
import Derived.Test.YtidjpalnmnehmaaF7
import Derived.Test.YtidjpalnmnehmaaF15
import Derived.Deep.RegionWith
import Derived.Deep.QuietTactic
import Derived.BigQuiet
namespace Go.Proofs.Ytidjpalnmnehmaa
open Go.ChangeShapes Go.WideShapes Go.ChangeAt Go.RowKit Go.Lib
set_option linter.unusedVariables false

end Go.Proofs.Ytidjpalnmnehmaa

namespace Go.Proofs.Ytidjpalnmnehmaa
open Go.ChangeShapes Go.WideShapes Go.ChangeAt Go.RowKit Go.Lib
set_option linter.unusedVariables false
set_option linter.unusedSimpArgs false
structure Sn (W : World) (rb sb : Nat) (s : List UInt8) (bad : Bool) : Prop where
  lt : rb < W.heap.size
  c0 : W.cell? ⟨rb,0,none⟩ = some (ptr sb)
  c1 : W.cell? ⟨rb,1,none⟩ = some (tx s)
  c2 : W.cell? ⟨rb,2,none⟩ = some (.bool bad)
  f1 : W.frozen? ⟨rb,1,none⟩ = false
  f2 : W.frozen? ⟨rb,2,none⟩ = false
section
variable {W W' : World} {rb sb : Nat} {s r : List UInt8} {bad : Bool}
theorem Sn.belowB (h : Sn W rb sb s bad) {B : Nat} (hb : Below B W W') (hB : rb < B) : Sn W' rb sb s bad :=
  ⟨Nat.lt_of_lt_of_le h.lt hb.size,(hb.cell (p:=⟨rb,0,none⟩) hB).trans h.c0,(hb.cell (p:=⟨rb,1,none⟩) hB).trans h.c1,(hb.cell (p:=⟨rb,2,none⟩) hB).trans h.c2,(hb.frozen (p:=⟨rb,1,none⟩) hB).trans h.f1,(hb.frozen (p:=⟨rb,2,none⟩) hB).trans h.f2⟩
theorem Sn.below (h : Sn W rb sb s bad) (hb : Below W.heap.size W W') : Sn W' rb sb s bad:=h.belowB hb h.lt
theorem Sn.drewN (h : Sn W rb sb s bad) (n : Nat) : Sn (W.drewN n) rb sb s bad:=h.below ⟨rfl,rfl,rfl,Nat.le_refl _,fun _ _ => rfl⟩
theorem Sn.text (h : Sn W rb sb s bad) (r : List UInt8) : Sn (W.setCell ⟨rb,1,none⟩ (tx r)) rb sb r bad :=
  ⟨by simpa using h.lt,(World.cell?_setCell_other W _ _ _ (by simp)).trans h.c0,World.cell?_setCell_same W _ _ h.c1,(World.cell?_setCell_other W _ _ _ (by simp)).trans h.c2,by simpa using h.f1,by simpa using h.f2⟩
theorem Sn.fail (h : Sn W rb sb s bad) : Sn (W.setCell ⟨rb,2,none⟩ (.bool true)) rb sb s true :=
  ⟨by simpa using h.lt,(World.cell?_setCell_other W _ _ _ (by simp)).trans h.c0,(World.cell?_setCell_other W _ _ _ (by simp)).trans h.c1,World.cell?_setCell_same W _ _ h.c2,by simpa using h.f1,by simpa using h.f2⟩
end
section
variable (rb sb : Nat) (w : World)
end
section
variable (rb sb : Nat) (w : World)
end
end Go.Proofs.Ytidjpalnmnehmaa
