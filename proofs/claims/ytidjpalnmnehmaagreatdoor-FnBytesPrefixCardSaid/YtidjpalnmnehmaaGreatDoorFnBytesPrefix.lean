/- The law FnBytesPrefix holds for every input: the Go function returns true and its arguments read as before. No condition but that the listed tables of Go's library hold what the card ties. -/
import Derived.Test.YtidjpalnmnehmaaGreatDoorG40
import Derived.Test.YtidjpalnmnehmaaGreatDoorG41
import Derived.Test.YtidjpalnmnehmaaGreatDoorG44
import Derived.Test.YtidjpalnmnehmaaGreatDoorCrdX
import Derived.WalkKit
import Derived.ProofKit
import Derived.Below
namespace Go.Proofs.YtidjpalnmnehmaaGreatDoor.fnBytesPrefix
open Go.ChangeShapes Go.WideShapes Go.ChangeAt Go.RowKit
open Go.ChangeMaps (open_string shut_string)
set_option linter.unusedVariables false
theorem below_call {W w1 w2 : World} (h1 : Below W.heap.size W w1) (h2 : Below w1.heap.size w1 w2) : Below W.heap.size W w2 := h1.trans (h2.mono h1.size)
theorem below_dn {B : Nat} {a w : World} (h : Below B a w) (n : Nat) : Below B a (w.drewN n) := h.trans ⟨rfl, rfl, rfl, Nat.le_refl _, fun _ _ => rfl⟩
theorem ne_of {w1 : World} {xs : List Value} {k0 k1 : Nat} (h : xs = [] ∨ k0 < w1.heap.size) (h2 : w1.heap.size ≤ k1) : xs = [] ∨ k0 ≠ k1 := by
  rcases h with h | h
  · exact .inl h
  · exact .inr (by omega)
theorem below_to {W w1 w2 : World} (h1 : Below W.heap.size W w1) (h2 : Below w1.heap.size w1 w2) : Hid (Below W.heap.size W w2) := Lib.hid (h1.trans (h2.mono h1.size))
theorem walk (a0 : Option Addr) (len0 cap0 : Nat) (z0 : List Int) (a1 : Option Addr) (len1 cap1 : Nat) (z1 : List Int) (w : World) (w0 : IsRow .u8 w a0 len0 cap0 z0) (w1 : IsRow .u8 w a1 len1 cap1 z1) (hsh : w.ShapedOpen Tryz.prog) :
    Calls Tryz.prog 9 #[.slice a0 len0 cap0, .slice a1 len1 cap1] w fun e w' => e = .returned (.bool true) ∧ Below w.heap.size w w' := by
  obtain ⟨m, hm⟩ := lY w hsh
  have HM := Lib.hid hm
  clear hm hsh
  have HB := Lib.hid (kY w0)
  clear w0
  by_cases hbig : 1048576 < len0
  · go_enter Tryz.func9, Tryz.ntmps9
    go_wp2
    go_ret
    exact ⟨rfl, Below.refl _ _⟩
  have hlen : len0 ≤ 1048576 := by omega
  clear hbig
  clear w1
  by_cases hbig1 : 1048576 < len1
  · go_enter Tryz.func9, Tryz.ntmps9
    go_wp2
    go_ret
    exact ⟨rfl, Below.refl _ _⟩
  have hlen1 : len1 ≤ 1048576 := by omega
  clear hbig1
  go_enter Tryz.func9, Tryz.ntmps9
  have HJM := Lib.hid fun (A : ByteArray) (h : 0 < A.size) => (⟨len1 % A.size, Nat.mod_lt _ h, rfl⟩ : ∃ j : Nat, j < A.size ∧ Int.tmod (len1 : Int) (A.size : Int) = (j : Int))
  go_wp2_with (first | (go_at_call 13; have _u := B4; refine (HH.out _ (HM.out.below B4.out)).mono ?_; rintro e w5 ⟨rfl, hb5⟩; have B5 := below_to B4.out hb5; clear hb5) | (go_at_call 13; have _u := B3; refine (HG.out _ (HM.out.below B3.out)).mono ?_; rintro e w4 ⟨rfl, hb4⟩; have B4 := below_to B3.out hb4; clear hb4) | (go_at_call 12; have _u := hb2; refine (HS.out _).mono ?_; rintro e w3 ⟨rfl, hb3⟩; have B3 := below_to hb2 hb3; clear hb3) | (go_at_call 11; refine (HI.out _ (HM.out.below hb1)).mono ?_; rintro e w2 ⟨rfl, hbx⟩; have hb2 := below_call hb1 hbx; clear hbx) | (go_at_call 10; refine (drawBytesPut _ _ _ _ HB.out).mono ?_; rintro e w1 ⟨s, K, T, rfl, hs, hK, hT, hb1⟩; have hI := fun wz hz => bytesPut_i s K T m wz hz (by omega) (by omega) (by omega); have hS := fun wz => bytesPut_s s K T wz (by omega) (by omega); rcases put_law s K T with hv | ⟨A, hv, hA4, hA0, _, _, hg, hh⟩ <;> (rw [hv] at hI hS; (try (obtain ⟨j, hj, hjm⟩ := HJM.out A hA0; have hG := fun wz hz => bytesGet_i s K (A.extract 0 j) m wz hz (by omega) (by omega) (by rw [ByteArray.size_extract]; omega); rw [hg j hj] at hG; have HG := Lib.hid hG; have hH := fun wz hz => bytesGet_i s K (A ++ ⟨#[120]⟩) m wz hz (by omega) (by omega) (by rw [ByteArray.size_append]; show A.size + 1 ≤ _; omega); rw [hh ⟨#[120]⟩ (by decide)] at hH; have HH := Lib.hid hH; have hAz : ¬ A.size = 0 := Nat.pos_iff_ne_zero.1 hA0; have ka := fun wz => run_string_add_sum (P := Tryz.prog) (w := wz) A ⟨#[120]⟩ (by show A.size + 1 ≤ _; omega); clear hG hH hg hh)); have HI := Lib.hid hI; have HS := Lib.hid hS; clear hv hI hS)))
  all_goals go_ret
  all_goals first | exact ⟨rfl, B5.out⟩ | exact ⟨rfl, B3.out⟩

theorem proved : Rows.FnBytesPrefixCardSaid := proved_of fun a0 len0 cap0 z0 a1 len1 cap1 z1 w w0 w1 hsh => walk a0 len0 cap0 z0 a1 len1 cap1 z1 w w0 w1 hsh
end Go.Proofs.YtidjpalnmnehmaaGreatDoor.fnBytesPrefix
