/- The law FnExactBytesCanon holds for every input: the Go function returns true and its arguments read as before. No condition but that the listed tables of Go's library hold what the card ties. -/
import Derived.Test.YtidjpalnmnehmaaGreatDoorK39
import Derived.Test.YtidjpalnmnehmaaGreatDoorK41
import Derived.Test.YtidjpalnmnehmaaGreatDoorCrdC
import Derived.WalkKit
import Derived.ProofKit
import Derived.Below
namespace Go.Proofs.YtidjpalnmnehmaaGreatDoor.fnExactBytesCanon
open Go.ChangeShapes Go.WideShapes Go.ChangeAt Go.RowKit
open Go.ChangeMaps (open_string shut_string)
set_option linter.unusedVariables false
theorem below_call {W w1 w2 : World} (h1 : Below W.heap.size W w1) (h2 : Below w1.heap.size w1 w2) : Below W.heap.size W w2 := h1.trans (h2.mono h1.size)
theorem walk (a0 : ByteArray) (a1 : ByteArray) (a2 : ByteArray) (w0 : a0.size ≤ maxLen) (w1 : a1.size ≤ maxLen) (w2 : a2.size ≤ maxLen) (w : World) (hsh : w.ShapedOpen Tryz.prog) :
    Calls Tryz.prog 8 #[.string a0, .string a1, .string a2] w fun e w' => e = .returned (.bool true) ∧ Below w.heap.size w w' := by
  by_cases hbig0 : 1048576 < a0.size
  · go_enter Tryz.func8, Tryz.ntmps8
    go_wp2
    go_ret
    exact ⟨rfl, Below.refl _ _⟩
  have hlen0 : a0.size ≤ 1048576 := by omega
  clear hbig0
  by_cases hbig1 : 1048576 < a1.size
  · go_enter Tryz.func8, Tryz.ntmps8
    go_wp2
    go_ret
    exact ⟨rfl, Below.refl _ _⟩
  have hlen1 : a1.size ≤ 1048576 := by omega
  clear hbig1
  by_cases hbig2 : 1048576 < a2.size
  · go_enter Tryz.func8, Tryz.ntmps8
    go_wp2
    go_ret
    exact ⟨rfl, Below.refl _ _⟩
  have hlen2 : a2.size ≤ 1048576 := by omega
  clear hbig2
  obtain ⟨m, hm⟩ := tH w hsh
  have HM := Lib.hid hm
  clear hm hsh
  have HS := Lib.hid fun wz => bytesCanon_s a0 a1 a2 wz (by omega)
  have HI := Lib.hid fun wz hz => bytesCanon_i a0 a1 a2 m wz hz (by omega) (by omega) (by omega)
  obtain ⟨B, hB⟩ : ∃ B, canonI a0.data.toList a1.data.toList a2.data.toList = B := ⟨_, rfl⟩
  rw [hB] at HS HI
  clear hB
  go_enter Tryz.func8, Tryz.ntmps8
  go_wp2_with (first | (go_at_call 14; refine (HI.out _ (HM.out.below hb1)).mono ?_; rintro e w2 ⟨rfl, hb2⟩) | (go_at_call 24; refine (HS.out _).mono ?_; rintro e w1 ⟨rfl, hb1⟩))
  go_ret
  exact ⟨rfl, below_call hb1 hb2⟩

theorem proved : Rows.FnExactBytesCanonCardSaid := proved_of fun a0 a1 a2 w0 w1 w2 w hsh => walk a0 a1 a2 w0 w1 w2 w hsh
end Go.Proofs.YtidjpalnmnehmaaGreatDoor.fnExactBytesCanon
