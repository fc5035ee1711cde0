/- A world in which the listed tables of Go's library lie as the program's text lays them. -/
import Derived.Test.YtmdacedmjbiekaaGreatDoorRows
import Derived.Deep.DeepHandedRow
import Derived.LaidLaws
import Derived.ProofKit
import Derived.SevenTiedAt
import Derived.KernelRfl
namespace Go.Proofs.YtmdacedmjbiekaaGreatDoor
open Go.ChangeShapes Go.WideShapes Go.ChangeAt Go.RowKit
def flat2 : DataW Unit → List Value
  | .agg l => l.flatMap fun x => match x with
    | .lit (.int k n) => [.int k n]
    | .agg m => m.flatMap fun y => match y with
      | .lit (.int k n) => [.int k n]
      | _ => []
    | _ => []
  | _ => []
def laidIn (h : Array Obj) (g : Nat) (d : DataW Unit) : Array Obj := h.modify g fun o => match o with
  | .cells _ t frozen => .cells (flat2 d).toArray t frozen
  | o => o
noncomputable def laidWorld (os : Os) : World := { World.holding Tryz.prog os ⟨#[], #[], []⟩ with heap := (laidIn (laidIn (World.holding Tryz.prog os ⟨#[], #[], []⟩).heap 2 Rows.laid_unicode_utf8_acceptRanges) 1 Rows.laid_unicode_utf8_first) }
theorem laid_met (os : Os) (args : Array Value) : laidMet Tryz.prog [("unicode/utf8.acceptRanges", Rows.laid_unicode_utf8_acceptRanges), ("unicode/utf8.first", Rows.laid_unicode_utf8_first)] ((laidWorld os).forCall (fun _ _ => 0) ⟨#[], args, []⟩).memory :=
  laidMet_of_run' 8 (by kernel_rfl) (by kernel_rfl)
theorem looks0 : false = Tryz.pinned.checked.prog.looks [] := by kernel_rfl
end Go.Proofs.YtmdacedmjbiekaaGreatDoor
