/- The law FnValueDeep holds for every input: the Go function returns true and its arguments read as before. No condition but that the listed tables of Go's library hold what the card ties. -/
import Derived.Test.YtmdacedmjbiekaaGreatDoorR51
import Derived.Test.YtmdacedmjbiekaaGreatDoorCrd
import Derived.WalkKit
import Derived.ProofKit
import Derived.Below
namespace Go.Proofs.YtmdacedmjbiekaaGreatDoor.fnValueDeep
open Go.ChangeShapes Go.WideShapes Go.ChangeAt Go.RowKit
open Go.ChangeMaps (open_string shut_string)
set_option linter.unusedVariables false
theorem below_call {W w1 w2 : World} (h1 : Below W.heap.size W w1) (h2 : Below w1.heap.size w1 w2) : Below W.heap.size W w2 := h1.trans (h2.mono h1.size)
theorem below_dn {B : Nat} {a w : World} (h : Below B a w) (n : Nat) : Below B a (w.drewN n) := h.trans ⟨rfl, rfl, rfl, Nat.le_refl _, fun _ _ => rfl⟩
theorem ne_of {w1 : World} {xs : List Value} {k0 k1 : Nat} (h : xs = [] ∨ k0 < w1.heap.size) (h2 : w1.heap.size ≤ k1) : xs = [] ∨ k0 ≠ k1 := by
  rcases h with h | h
  · exact .inl h
  · exact .inr (by omega)
theorem below_to {W w1 w2 : World} (h1 : Below W.heap.size W w1) (h2 : Below w1.heap.size w1 w2) : Hid (Below W.heap.size W w2) := Lib.hid (h1.trans (h2.mono h1.size))
theorem walk (a0 : Option Addr) (len0 cap0 : Nat) (z0 : List Int) (w : World) (w0 : IsRow .u8 w a0 len0 cap0 z0) (hsh : w.ShapedOpen Tryz.prog) :
    Calls Tryz.prog 10 #[.slice a0 len0 cap0] w fun e w' => e = .returned (.bool true) ∧ Below w.heap.size w w' := by
  obtain ⟨m, hm⟩ := ml_of w hsh
  have HM := Lib.hid hm
  clear hm hsh
  have HB := Lib.hid (bytes_of w0)
  clear w0
  by_cases hbig : 1048576 < len0
  · go_enter Tryz.func10, Tryz.ntmps10
    go_wp2
    go_ret
    exact ⟨rfl, Below.refl _ _⟩
  have hlen : len0 ≤ 1048576 := by omega
  clear hbig
  go_enter Tryz.func10, Tryz.ntmps10
  go_wp2_with (first | (go_at_call 26; have _u := hb2; refine (HS.out _).mono ?_; rintro e w3 ⟨rfl, hb3⟩; have B3 := below_to hb2 hb3; clear hb3) | (go_at_call 27; refine (HI.out _ (HM.out.below hb1)).mono ?_; rintro e w2 ⟨rfl, hbx⟩; have hb2 := below_call hb1 hbx; clear hbx) | (go_at_call 32; refine (drawValueDeep _ _ _ _ HB.out).mono ?_; rintro e w1 ⟨s, K, T, rfl, hs, hK, hT, hb1⟩; have hI := fun wz hz => valueDeep_i s K T m wz hz (by omega) (by omega) (by omega); have hS := fun wz => valueDeep_s s K T wz (by omega) (by omega); have hD := deep_cases s.data.toList K.data.toList T.data.toList; obtain ⟨D, hE⟩ : ∃ D, deepI s.data.toList K.data.toList T.data.toList = D := ⟨_, rfl⟩; rw [hE] at hD hI hS; clear hE; have HI := Lib.hid hI; have HS := Lib.hid hS; clear hI hS; rcases hD with rfl | ⟨h1, h12⟩ <;> (try (have h0 : (0 : Int) ≤ D := by omega; have d0 : decide ((0 : Int) ≤ D) = true := decide_eq_true h0; have d1 : decide ((1 : Int) ≤ D) = true := decide_eq_true h1; have d2 : decide (D ≤ (12 : Int)) = true := decide_eq_true h12))))
  all_goals go_ret
  all_goals exact ⟨rfl, B3.out⟩

theorem proved : Rows.FnValueDeepCardSaid := proved_of fun a0 len0 cap0 z0 w w0 hsh => walk a0 len0 cap0 z0 w w0 hsh
end Go.Proofs.YtmdacedmjbiekaaGreatDoor.fnValueDeep
