/- The law FnSetOrder holds for every input: the Go function returns true and its arguments read as before. No condition but that the listed tables of Go's library hold what the card ties. -/
import Derived.Test.YtmdacedmjbiekaaGreatDoorA51
import Derived.Test.YtmdacedmjbiekaaGreatDoorA47
import Derived.Test.YtmdacedmjbiekaaGreatDoorCrdO
import Derived.WalkKit
import Derived.ProofKit
import Derived.Below
namespace Go.Proofs.YtmdacedmjbiekaaGreatDoor.fnSetOrder
open Go.ChangeShapes Go.WideShapes Go.ChangeAt Go.RowKit
open Go.ChangeMaps (open_string shut_string)
set_option linter.unusedVariables false
theorem below_call {W w1 w2 : World} (h1 : Below W.heap.size W w1) (h2 : Below w1.heap.size w1 w2) : Below W.heap.size W w2 := h1.trans (h2.mono h1.size)
theorem below_dn {B : Nat} {a w : World} (h : Below B a w) (n : Nat) : Below B a (w.drewN n) := h.trans ⟨rfl, rfl, rfl, Nat.le_refl _, fun _ _ => rfl⟩
theorem ne_of {w1 : World} {xs : List Value} {k0 k1 : Nat} (h : xs = [] ∨ k0 < w1.heap.size) (h2 : w1.heap.size ≤ k1) : xs = [] ∨ k0 ≠ k1 := by
  rcases h with h | h
  · exact .inl h
  · exact .inr (by omega)
theorem below_to {W w1 w2 : World} (h1 : Below W.heap.size W w1) (h2 : Below w1.heap.size w1 w2) : Hid (Below W.heap.size W w2) := Lib.hid (h1.trans (h2.mono h1.size))
set_option maxRecDepth 20000 in
set_option maxHeartbeats 4000000 in
theorem walk (a0 : Option Addr) (len0 cap0 : Nat) (z0 : List Int) (a1 : Option Addr) (len1 cap1 : Nat) (z1 : List Int) (w : World) (w0 : IsRow .u8 w a0 len0 cap0 z0) (w1 : IsRow .u8 w a1 len1 cap1 z1) (hsh : w.ShapedOpen Tryz.prog) :
    Calls Tryz.prog 12 #[.slice a0 len0 cap0, .slice a1 len1 cap1] w fun e w' => e = .returned (.bool true) ∧ Below w.heap.size w w' := by
  obtain ⟨m, hm⟩ := sT w hsh
  have HM := Lib.hid hm
  clear hm hsh
  have HB := Lib.hid (oJ w0)
  clear w0
  by_cases hbig : 1048576 < len0
  · go_enter Tryz.func12, Tryz.ntmps12
    go_wp2
    go_ret
    exact ⟨rfl, Below.refl _ _⟩
  have hlen : len0 ≤ 1048576 := by omega
  clear hbig
  clear w1
  by_cases hbig1 : 1048576 < len1
  · go_enter Tryz.func12, Tryz.ntmps12
    go_wp2
    go_ret
    exact ⟨rfl, Below.refl _ _⟩
  have hlen1 : len1 ≤ 1048576 := by omega
  clear hbig1
  go_enter Tryz.func12, Tryz.ntmps12
  go_wp2_with (first | (go_at_call 30; have _u := hb2; refine (HS.out _).mono ?_; rintro e w3 ⟨rfl, hb3⟩; have B3 := below_to hb2 hb3; clear hb3) | (go_at_call 31; refine (HI.out _ (HM.out.below hb1)).mono ?_; rintro e w2 ⟨rfl, hbx⟩; have hb2 := below_call hb1 hbx; clear hbx) | (go_at_call 34; refine (sG _ _ _ _ HB.out).mono ?_; rintro e w1 ⟨s, K, T, g, X, rfl, hs, hK, hT, hX, hb1⟩; have hI := fun wz hz => gM s K T g X m wz hz (by omega) (by omega) (by omega) (by omega); have hS := fun wz => uJ s K T g X wz (by omega) (by omega) (by omega); rcases oZ s K T X g with hv | ⟨R, O, hv, hR, _, _, _, _, _⟩ <;> (have HV := Lib.hid hv; rw [hv] at hI hS; have HI := Lib.hid hI; have HS := Lib.hid hS; clear hv hI hS)))
  · go_ret
    exact ⟨rfl, B3.out⟩
  go_loopw [14] (fun v wr => ∃ i : Nat, v = .int .i64 i ∧ 1 ≤ i ∧ i ≤ 10 ∧ Hid (Below w.heap.size w wr)) (fun v _ => 10 - (RowKit.intOf v).toNat)
  case atStart => exact ⟨1, rfl, by omega, by omega, B3⟩
  case round =>
    obtain ⟨i, rfl, hi1, hi2, hh⟩ := hrel
    by_cases hlt : i < 10
    · obtain ⟨j, hj⟩ : ∃ j : Nat, j = (len1 + i) % 5 := ⟨_, rfl⟩
      have hj5 : j < 5 := by omega
      have hjm : Int.tmod ((len1 : Int) + (i : Int)) 5 = (j : Int) := by
        rw [hj, Int.tmod_eq_emod_of_nonneg (by omega)]
        omega
      obtain ⟨O, hO, hcell⟩ := a7N j hj5
      have hcl := hcell wr
      obtain ⟨Y, p, hy, hYl⟩ := lX s.data.toList K.data.toList R.data.toList i O.data.toList
      obtain ⟨Z, q, hz, hZl⟩ := lX s.data.toList K.data.toList T.data.toList i O.data.toList
      obtain ⟨V, r, hw, hVl⟩ := lX s.data.toList K.data.toList Z.data.toList g X.data.toList
      have hY := fun wz hz => gM s K R i O m wz hz (by omega) (by omega) (by omega) (by omega)
      have hZ := fun wz hz => gM s K T i O m wz hz (by omega) (by omega) (by omega) (by omega)
      have hW := fun wz hz => gM s K Z g X m wz hz (by omega) (by omega) (by omega) (by omega)
      rw [hy] at hY
      rw [hz] at hZ
      rw [hw] at hW
      have HYV := Lib.hid (fun (hg : (i : Int) ≠ g) (h1 : p = true) (h2 : q = true) (h3 : r = true) => xW s K T X O R Y Z V g i hg HV.out (by rw [hy, h1]) (by rw [hz, h2]) (by rw [hw, h3]))
      have HY := Lib.hid hY
      have HZ := Lib.hid hZ
      have HW := Lib.hid hW
      clear hY hZ hW hy hz hw hcell hj hYl hVl
      by_cases hg : (i : Int) = g
      · subst hg
        go_wp2_with (first | (go_at_call 31; have _u := C5; refine (HW.out _ (HM.out.below C5.out)).mono ?_; rintro e w6 ⟨rfl, hb6⟩; have C6 := below_to C5.out hb6; clear hb6) | (go_at_call 31; have _u := C4; refine (HZ.out _ (HM.out.below C4.out)).mono ?_; rintro e w5 ⟨rfl, hb5⟩; have C5 := below_to C4.out hb5; clear hb5) | (go_at_call 31; refine (HY.out _ (HM.out.below (hh.out.alloc hh.out.size _))).mono ?_; rintro e w4 ⟨rfl, hb4⟩; have C4 := below_to (hh.out.alloc hh.out.size _) hb4; clear hb4))
        go_roundw
        case rel => exact ⟨i + 1, by go_num, by omega, by omega, C6⟩
        case measure => simp [RowKit.intOf]; omega
      · have HYW := Lib.hid (HYV.out hg)
        clear HYV
        cases p <;> cases q <;> cases r
        all_goals (try (obtain rfl := HYW.out rfl rfl rfl))
        all_goals
          go_wp2_with (first | (go_at_call 31; have _u := C5; refine (HW.out _ (HM.out.below C5.out)).mono ?_; rintro e w6 ⟨rfl, hb6⟩; have C6 := below_to C5.out hb6; clear hb6) | (go_at_call 31; have _u := C4; refine (HZ.out _ (HM.out.below C4.out)).mono ?_; rintro e w5 ⟨rfl, hb5⟩; have C5 := below_to C4.out hb5; clear hb5) | (go_at_call 31; refine (HY.out _ (HM.out.below (hh.out.alloc hh.out.size _))).mono ?_; rintro e w4 ⟨rfl, hb4⟩; have C4 := below_to (hh.out.alloc hh.out.size _) hb4; clear hb4))
          go_roundw
          case rel => exact ⟨i + 1, by go_num, by omega, by omega, C6⟩
          case measure => simp [RowKit.intOf]; omega
    · go_wp2_with fail
      go_ret
      exact ⟨rfl, hh.out⟩

theorem proved : Rows.FnSetOrderCardSaid := proved_of fun a0 len0 cap0 z0 a1 len1 cap1 z1 w w0 w1 hsh => walk a0 len0 cap0 z0 a1 len1 cap1 z1 w w0 w1 hsh
end Go.Proofs.YtmdacedmjbiekaaGreatDoor.fnSetOrder
