/- Packed by pack.py: Rk. -/
import Derived.Test.YtidjpalnmnehmaaF3
import Derived.Deep.QuietTactic
import Derived.Deep.RegionWith
import Derived.Deep.RegionHeld3
namespace Go.Proofs.Ytidjpalnmnehmaa
open Go.ChangeShapes Go.WideShapes Go.ChangeAt Go.RowKit Go.Lib
set_option linter.unusedVariables false
abbrev tx (l : List UInt8) : Value:=.string ⟨l.toArray⟩
def kV (k : Wf.K) : Value:=.agg #[tx k.signs,tx k.base,tx k.name]
theorem below_join {W X w2 : World} (hX : Below W.heap.size W X) (h : Below X.heap.size X w2) : Below W.heap.size W w2:=hX.trans (h.mono hX.size)
end Go.Proofs.Ytidjpalnmnehmaa
