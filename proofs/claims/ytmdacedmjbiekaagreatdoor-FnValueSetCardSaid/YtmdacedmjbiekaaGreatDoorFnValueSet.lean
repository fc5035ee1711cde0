/- The law FnValueSet holds for every input: the Go function returns true and its arguments read as before. No condition but that the listed tables of Go's library hold what the card ties. -/
import Derived.Test.YtmdacedmjbiekaaGreatDoorA51
import Derived.Test.YtmdacedmjbiekaaGreatDoorA47
import Derived.Test.YtmdacedmjbiekaaGreatDoorCrd
import Derived.WalkKit
import Derived.ProofKit
import Derived.Below
namespace Go.Proofs.YtmdacedmjbiekaaGreatDoor.fnValueSet
open Go.ChangeShapes Go.WideShapes Go.ChangeAt Go.RowKit
open Go.ChangeMaps (open_string shut_string)
set_option linter.unusedVariables false
theorem below_call {W w1 w2 : World} (h1 : Below W.heap.size W w1) (h2 : Below w1.heap.size w1 w2) : Below W.heap.size W w2 := h1.trans (h2.mono h1.size)
theorem below_dn {B : Nat} {a w : World} (h : Below B a w) (n : Nat) : Below B a (w.drewN n) := h.trans ⟨rfl, rfl, rfl, Nat.le_refl _, fun _ _ => rfl⟩
theorem ne_of {w1 : World} {xs : List Value} {k0 k1 : Nat} (h : xs = [] ∨ k0 < w1.heap.size) (h2 : w1.heap.size ≤ k1) : xs = [] ∨ k0 ≠ k1 := by
  rcases h with h | h
  · exact .inl h
  · exact .inr (by omega)
theorem below_to {W w1 w2 : World} (h1 : Below W.heap.size W w1) (h2 : Below w1.heap.size w1 w2) : Hid (Below W.heap.size W w2) := Lib.hid (h1.trans (h2.mono h1.size))
theorem walk (a0 : Option Addr) (len0 cap0 : Nat) (z0 : List Int) (w : World) (w0 : IsRow .u8 w a0 len0 cap0 z0) (hsh : w.ShapedOpen Tryz.prog) :
    Calls Tryz.prog 13 #[.slice a0 len0 cap0] w fun e w' => e = .returned (.bool true) ∧ Below w.heap.size w w' := by
  obtain ⟨m, hm⟩ := sT w hsh
  have HM := Lib.hid hm
  clear hm hsh
  have HB := Lib.hid (oJ w0)
  clear w0
  by_cases hbig : 1048576 < len0
  · go_enter Tryz.func13, Tryz.ntmps13
    go_wp2
    go_ret
    exact ⟨rfl, Below.refl _ _⟩
  have hlen : len0 ≤ 1048576 := by omega
  clear hbig
  go_enter Tryz.func13, Tryz.ntmps13
  go_wp2_with (first | (go_at_call 31; have _u := B5; refine (HBK.out _ (HM.out.below B5.out)).mono ?_; rintro e w6 ⟨rfl, hb6⟩; have B6 := below_to B5.out hb6; clear hb6) | (go_at_call 29; have _u := B4; refine (HF2.out _ (HM.out.below B4.out)).mono ?_; rintro e w5 ⟨rfl, hb5⟩; have B5 := below_to B4.out hb5; clear hb5) | (go_at_call 29; have _u := B3; refine (HF1.out _ (HM.out.below B3.out)).mono ?_; rintro e w4 ⟨rfl, hb4⟩; have B4 := below_to B3.out hb4; clear hb4) | (go_at_call 30; have _u := hb2; refine (HS.out _).mono ?_; rintro e w3 ⟨rfl, hb3⟩; have B3 := below_to hb2 hb3; clear hb3) | (go_at_call 31; refine (HI.out _ (HM.out.below hb1)).mono ?_; rintro e w2 ⟨rfl, hbx⟩; have hb2 := below_call hb1 hbx; clear hbx) | (go_at_call 34; refine (sG _ _ _ _ HB.out).mono ?_; rintro e w1 ⟨s, K, T, g, X, rfl, hs, hK, hT, hX, hb1⟩; have hI := fun wz hz => gM s K T g X m wz hz (by omega) (by omega) (by omega) (by omega); have hS := fun wz => uJ s K T g X wz (by omega) (by omega) (by omega); rcases oZ s K T X g with hv | ⟨R, O, hv, hR, hO, hf1, hf2, hbk, hall⟩ <;> (rw [hv] at hI hS; (try (have h1 := fun wz hz => jO s K R g m wz hz (by omega) (by omega) (by omega); rw [hf1] at h1; have HF1 := Lib.hid h1; have h2 := fun wz hz => jO s K T g m wz hz (by omega) (by omega) (by omega); rw [hf2] at h2; have HF2 := Lib.hid h2; have h3 := fun wz hz => gM s K R g O m wz hz (by omega) (by omega) (by omega) (by omega); rw [hbk] at h3; have HBK := Lib.hid h3; have HALL := Lib.hid hall; have HT := Lib.hid (fun t wz hz => jO s K T t m wz hz (by omega) (by omega) (by omega)); have HR := Lib.hid (fun t wz hz => jO s K R t m wz hz (by omega) (by omega) (by omega)); clear h1 h2 h3 hall)); have HI := Lib.hid hI; have HS := Lib.hid hS; clear hv hI hS; (try clear hf1 hf2 hbk))))
  · go_ret
    exact ⟨rfl, B3.out⟩
  go_loopw [19] (fun v wr => ∃ i : Nat, v = .int .i64 i ∧ 1 ≤ i ∧ i ≤ 12 ∧ Hid (Below w.heap.size w wr)) (fun v _ => 12 - (RowKit.intOf v).toNat)
  case atStart => exact ⟨1, rfl, by omega, by omega, B6⟩
  case round =>
    obtain ⟨i, rfl, hi1, hi2, hh⟩ := hrel
    by_cases hlt : i < 12
    · have hT := fun wz hz => HT.out (i : Int) wz hz
      have hR := fun wz hz => HR.out (i : Int) wz hz
      obtain ⟨P, p, hp⟩ := qV (bP s.data.toList K.data.toList T.data.toList i)
      rw [hp] at hT
      by_cases hg : (i : Int) = g
      · obtain ⟨Q, q, hq⟩ := qV (bP s.data.toList K.data.toList R.data.toList i)
        rw [hq] at hR
        have hTi := Lib.hid hT
        have hRi := Lib.hid hR
        clear hT hR hp hq
        subst hg
        go_wp2_with (first | (go_at_call 29; have _u := C7; refine (hRi.out _ (HM.out.below C7.out)).mono ?_; rintro e w8 ⟨rfl, hb8⟩; have C8 := below_to C7.out hb8; clear hb8) | (go_at_call 29; refine (hTi.out _ (HM.out.below hh.out)).mono ?_; rintro e w7 ⟨rfl, hb7⟩; have C7 := below_to hh.out hb7; clear hb7))
        go_roundw
        case rel => exact ⟨i + 1, by go_num, by omega, by omega, C8⟩
        case measure => simp [RowKit.intOf]; omega
      · have t1 : ((i : Int) == g) = false := beq_eq_false_iff_ne.2 hg
        rw [← HALL.out (i : Int) hg, hp] at hR
        have hTi := Lib.hid hT
        have hRi := Lib.hid hR
        clear hT hR hp
        go_wp2_with (first | (go_at_call 29; have _u := C7; refine (hRi.out _ (HM.out.below C7.out)).mono ?_; rintro e w8 ⟨rfl, hb8⟩; have C8 := below_to C7.out hb8; clear hb8) | (go_at_call 29; refine (hTi.out _ (HM.out.below hh.out)).mono ?_; rintro e w7 ⟨rfl, hb7⟩; have C7 := below_to hh.out hb7; clear hb7))
        go_roundw
        case rel => exact ⟨i + 1, by go_num, by omega, by omega, C8⟩
        case measure => simp [RowKit.intOf]; omega
    · go_wp2_with fail
      go_ret
      exact ⟨rfl, hh.out⟩

theorem proved : Rows.FnValueSetCardSaid := proved_of fun a0 len0 cap0 z0 w w0 hsh => walk a0 len0 cap0 z0 w w0 hsh
end Go.Proofs.YtmdacedmjbiekaaGreatDoor.fnValueSet
