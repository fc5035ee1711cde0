/- The law FnValueField holds for every input: the Go function returns true and its arguments read as before. No condition but that the listed tables of Go's library hold what the card ties. -/
import Derived.Test.YtmdacedmjbiekaaGreatDoorA52
import Derived.Test.YtmdacedmjbiekaaGreatDoorCrdF
import Derived.WalkKit
import Derived.ProofKit
import Derived.Below
namespace Go.Proofs.YtmdacedmjbiekaaGreatDoor.fnValueField
open Go.ChangeShapes Go.WideShapes Go.ChangeAt Go.RowKit
open Go.ChangeMaps (open_string shut_string)
set_option linter.unusedVariables false
theorem below_call {W w1 w2 : World} (h1 : Below W.heap.size W w1) (h2 : Below w1.heap.size w1 w2) : Below W.heap.size W w2 := h1.trans (h2.mono h1.size)
theorem below_dn {B : Nat} {a w : World} (h : Below B a w) (n : Nat) : Below B a (w.drewN n) := h.trans ⟨rfl, rfl, rfl, Nat.le_refl _, fun _ _ => rfl⟩
theorem ne_of {w1 : World} {xs : List Value} {k0 k1 : Nat} (h : xs = [] ∨ k0 < w1.heap.size) (h2 : w1.heap.size ≤ k1) : xs = [] ∨ k0 ≠ k1 := by
  rcases h with h | h
  · exact .inl h
  · exact .inr (by omega)
theorem below_to {W w1 w2 : World} (h1 : Below W.heap.size W w1) (h2 : Below w1.heap.size w1 w2) : Hid (Below W.heap.size W w2) := Lib.hid (h1.trans (h2.mono h1.size))
theorem walk (a0 : Option Addr) (len0 cap0 : Nat) (z0 : List Int) (w : World) (w0 : IsRow .u8 w a0 len0 cap0 z0) (hsh : w.ShapedOpen Tryz.prog) :
    Calls Tryz.prog 11 #[.slice a0 len0 cap0] w fun e w' => e = .returned (.bool true) ∧ Below w.heap.size w w' := by
  obtain ⟨m, hm⟩ := sT w hsh
  have HM := Lib.hid hm
  clear hm hsh
  have HB := Lib.hid (oJ w0)
  clear w0
  by_cases hbig : 1048576 < len0
  · go_enter Tryz.func11, Tryz.ntmps11
    go_wp2
    go_ret
    exact ⟨rfl, Below.refl _ _⟩
  have hlen : len0 ≤ 1048576 := by omega
  clear hbig
  go_enter Tryz.func11, Tryz.ntmps11
  go_wp2_with (first | (go_at_call 22; have _u := B5; refine (HVO.out _ (HM.out.below B5.out)).mono ?_; rintro e w6 ⟨rfl, hb6⟩; have B6 := below_to B5.out hb6; clear hb6) | (go_at_call 31; have _u := B4; refine (HVS.out _ (HM.out.below B4.out)).mono ?_; rintro e w5 ⟨rfl, hb5⟩; have B5 := below_to B4.out hb5; clear hb5) | (go_at_call 20; have _u := B3; refine (HSF.out _ (HM.out.below B3.out)).mono ?_; rintro e w4 ⟨rfl, hb4⟩; have B4 := below_to B3.out hb4; clear hb4) | (go_at_call 28; have _u := hb2; refine (HS.out _).mono ?_; rintro e w3 ⟨rfl, hb3⟩; have B3 := below_to hb2 hb3; clear hb3) | (go_at_call 29; refine (HI.out _ (HM.out.below hb1)).mono ?_; rintro e w2 ⟨rfl, hbx⟩; have hb2 := below_call hb1 hbx; clear hbx) | (go_at_call 33; refine (drawValueField _ _ _ _ HB.out).mono ?_; rintro e w1 ⟨s, K, T, g, rfl, hs, hK, hT, hb1⟩; have hI := fun wz hz => jO s K T g m wz hz (by omega) (by omega) (by omega); have hS := fun wz => valueField_s s K T g wz (by omega) (by omega); rcases field_law s K T g with hv | ⟨X, A, U, C, hv, hk2, hk12, hfv, hU, hX, hvo, hsv⟩ <;> (rw [hv] at hI hS; (try (have hF := fun wz hz => schemaField_i s (K.extract 1 (K.size - 1)) g m wz hz (by omega) (by rw [ByteArray.size_extract]; omega); rw [hfv] at hF; have HSF := Lib.hid hF; have hO := fun wz hz => valueOk_i s U X m wz hz (by omega) (by omega) (by omega); rw [hvo] at hO; have HVO := Lib.hid hO; have hW := fun wz hz => gM s K T g X m wz hz (by omega) (by omega) (by omega) (by omega); rw [hsv] at hW; have HVS := Lib.hid hW; clear hF hO hW)); have HI := Lib.hid hI; have HS := Lib.hid hS; clear hv hI hS; (try clear hfv hvo hsv))))
  all_goals go_ret
  all_goals first | exact ⟨rfl, B6.out⟩ | exact ⟨rfl, B3.out⟩

theorem proved : Rows.FnValueFieldCardSaid := proved_of fun a0 len0 cap0 z0 w w0 hsh => walk a0 len0 cap0 z0 w w0 hsh
end Go.Proofs.YtmdacedmjbiekaaGreatDoor.fnValueField
