/- The law FnExactSchemaUsed holds for every input: the Go function returns true and its arguments read as before. No condition but that the listed tables of Go's library hold what the card ties. -/
import Derived.Test.YtmdacedmjbiekaaGreatDoorR41
import Derived.Test.YtmdacedmjbiekaaGreatDoorCrdE
import Derived.WalkKit
import Derived.ProofKit
import Derived.Below
namespace Go.Proofs.YtmdacedmjbiekaaGreatDoor.fnExactSchemaUsed
open Go.ChangeShapes Go.WideShapes Go.ChangeAt Go.RowKit
open Go.ChangeMaps (open_string shut_string)
set_option linter.unusedVariables false
theorem below_call {W w1 w2 : World} (h1 : Below W.heap.size W w1) (h2 : Below w1.heap.size w1 w2) : Below W.heap.size W w2 := h1.trans (h2.mono h1.size)
theorem below_dn {B : Nat} {a w : World} (h : Below B a w) (n : Nat) : Below B a (w.drewN n) := h.trans ⟨rfl, rfl, rfl, Nat.le_refl _, fun _ _ => rfl⟩
theorem ne_of {w1 : World} {xs : List Value} {k0 k1 : Nat} (h : xs = [] ∨ k0 < w1.heap.size) (h2 : w1.heap.size ≤ k1) : xs = [] ∨ k0 ≠ k1 := by
  rcases h with h | h
  · exact .inl h
  · exact .inr (by omega)
theorem walk (a0 : ByteArray) (a1 : ByteArray) (w0 : a0.size ≤ maxLen) (w1 : a1.size ≤ maxLen) (w : World) (hsh : w.ShapedOpen Tryz.prog) :
    Calls Tryz.prog 3 #[.string a0, .string a1] w fun e w' => e = .returned (.bool true) ∧ Below w.heap.size w w' := by
  by_cases hbig : 1048576 < a0.size
  · go_enter Tryz.func3, Tryz.ntmps3
    go_wp2
    go_ret
    exact ⟨rfl, Below.refl _ _⟩
  have hlen : a0.size ≤ 1048576 := by omega
  clear hbig
  by_cases hbig1 : 1048576 < a1.size
  · go_enter Tryz.func3, Tryz.ntmps3
    go_wp2
    go_ret
    exact ⟨rfl, Below.refl _ _⟩
  have hlen1 : a1.size ≤ 1048576 := by omega
  clear hbig1
  obtain ⟨m0, hm0⟩ := ml_of w hsh
  have HML := Lib.hid hm0
  clear hm0 hsh
  obtain ⟨B, hB⟩ : ∃ B, (kindOf a0.data.toList a1.data.toList).isSome = B := ⟨_, rfl⟩
  have hS := fun wz => schemaUsed_s a0 a1 wz (by omega)
  have hI := fun wz hz => schemaUsed_i a0 a1 m0 wz hz (by omega) (by omega)
  have hL := used_len a0.data.toList a1.data.toList
  obtain ⟨L, hLL⟩ : ∃ L, usedL a0.data.toList a1.data.toList = L := ⟨_, rfl⟩
  rw [hB, hLL] at hS hI
  rw [hLL] at hL
  have HS := Lib.hid hS
  have HI := Lib.hid hI
  clear hB hS hI hLL
  obtain ⟨m, hm⟩ : ∃ m : Int, m = 1 + (L.length : Int) := ⟨_, rfl⟩
  have hm0 : 1 ≤ m := by omega
  have HM := Lib.hid hm
  clear hm
  go_enter Tryz.func3, Tryz.ntmps3
  go_wp2_with (first | (go_at_call 18; have _u := n2; refine (held1 m k1 v1 _ _ (by omega) HM.out (((hR3.out.below' hB4.out).below' hB5.out).drewN n2)).mono ?_; rintro e w6 ⟨rfl, hb6⟩; have hB6 := Lib.hid hb6; clear hb6) | (go_at_call 16; have _u := hB5; refine (eqTexts _ (by omega) k2 k0 v2 v0 _ hR5.out (((((hR0.out.below' hB2.out).drewN n1).beside' hM3.out hne.out).below' hB4.out).below' hB5.out)).mono ?_; rintro e wx ⟨rfl, n2, rfl⟩) | (go_at_call 15; have _u := hB4; refine (HI.out _ (((((HML.out.below hB0.out).below hB2.out).drewN n1).beside hM3.out hne0.out).below hB4.out)).mono ?_; rintro e w5 ⟨⟨k2, v2, rfl, hk2, r5⟩, b5⟩; have hR5 := Lib.hid r5; have hB5 := Lib.hid b5; clear r5 b5) | (go_at_call 18; refine (held1 m k1 v1 _ _ (by omega) HM.out hR3.out).mono ?_; rintro e w4 ⟨rfl, b4⟩; have hB4 := Lib.hid b4; clear b4) | (go_at_call 17; refine (marked1 m k1 v1 _ _ (by omega) HM.out (hR2.out.drewN n1)).mono ?_; rintro e w3 ⟨rfl, r3, b3⟩; have hR3 := Lib.hid r3; have hM3 := Lib.hid b3; clear r3 b3) | (go_at_call 16; refine (eqTexts _ (by omega) k1 k0 v1 v0 _ hR2.out (hR0.out.below' hB2.out)).mono ?_; rintro e wx ⟨rfl, n1, rfl⟩) | (go_at_call 15; refine (HI.out _ (HML.out.below hB0.out)).mono ?_; rintro e w2 ⟨⟨k1, v1, rfl, hk1, r2⟩, b2⟩; have hne := Lib.hid (ne_of hR0.out.lt hk1); have hne0 := Lib.hid ((HML.out.below hB0.out).ne hk1); have hR2 := Lib.hid r2; have hB2 := Lib.hid b2; clear r2 b2) | (go_at_call 14; refine (HS.out _).mono ?_; rintro e w1 ⟨⟨k0, v0, rfl, hk0, r0⟩, b0⟩; have hR0 := Lib.hid r0; have hB0 := Lib.hid b0; clear r0 b0))
  go_ret
  have b2 := below_call hB0.out hB2.out
  have b3 := below_dn b2 n1
  have b4 := Beside.below b3 b3.size (Nat.le_trans hB0.out.size hk1) hM3.out
  have b5 := below_call (below_call b4 hB4.out) hB5.out
  exact ⟨rfl, below_call (below_dn b5 n2) hB6.out⟩

theorem proved : Rows.FnExactSchemaUsedCardSaid := proved_of fun a0 a1 w0 w1 w hsh => walk a0 a1 w0 w1 w hsh
end Go.Proofs.YtmdacedmjbiekaaGreatDoor.fnExactSchemaUsed
