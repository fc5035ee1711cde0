/- The law FnBytesPart holds for every input: the Go function returns true and its arguments read as before. No condition but that the listed tables of Go's library hold what the card ties. -/
import Derived.Test.YtidjpalnmnehmaaGreatDoorP40
import Derived.Test.YtidjpalnmnehmaaGreatDoorP41
import Derived.Test.YtidjpalnmnehmaaGreatDoorP42
import Derived.Test.YtidjpalnmnehmaaGreatDoorP44
import Derived.Test.YtidjpalnmnehmaaGreatDoorCrdP
import Derived.WalkKit
import Derived.ProofKit
import Derived.Below
namespace Go.Proofs.YtidjpalnmnehmaaGreatDoor.fnBytesPart
open Go.ChangeShapes Go.WideShapes Go.ChangeAt Go.RowKit
open Go.ChangeMaps (open_string shut_string)
set_option linter.unusedVariables false
theorem below_call {W w1 w2 : World} (h1 : Below W.heap.size W w1) (h2 : Below w1.heap.size w1 w2) : Below W.heap.size W w2 := h1.trans (h2.mono h1.size)
theorem below_dn {B : Nat} {a w : World} (h : Below B a w) (n : Nat) : Below B a (w.drewN n) := h.trans ⟨rfl, rfl, rfl, Nat.le_refl _, fun _ _ => rfl⟩
theorem ne_of {w1 : World} {xs : List Value} {k0 k1 : Nat} (h : xs = [] ∨ k0 < w1.heap.size) (h2 : w1.heap.size ≤ k1) : xs = [] ∨ k0 ≠ k1 := by
  rcases h with h | h
  · exact .inl h
  · exact .inr (by omega)
theorem below_to {W w1 w2 : World} (h1 : Below W.heap.size W w1) (h2 : Below w1.heap.size w1 w2) : Hid (Below W.heap.size W w2) := Lib.hid (h1.trans (h2.mono h1.size))
set_option maxRecDepth 20000 in
set_option maxHeartbeats 4000000 in
theorem walk (a0 : Option Addr) (len0 cap0 : Nat) (z0 : List Int) (w : World) (w0 : IsRow .u8 w a0 len0 cap0 z0) (hsh : w.ShapedOpen Tryz.prog) :
    Calls Tryz.prog 7 #[.slice a0 len0 cap0] w fun e w' => e = .returned (.bool true) ∧ Below w.heap.size w w' := by
  obtain ⟨m, hm⟩ := zK w hsh
  have HM := Lib.hid hm
  clear hm hsh
  have HB := Lib.hid (yT w0)
  clear w0
  by_cases hbig : 1048576 < len0
  · go_enter Tryz.func7, Tryz.ntmps7
    go_wp2
    go_ret
    exact ⟨rfl, Below.refl _ _⟩
  have hlen : len0 ≤ 1048576 := by omega
  clear hbig
  go_enter Tryz.func7, Tryz.ntmps7
  go_wp2_with (first | (go_at_call 20; have _u := B6; refine (HG.out _ (HM.out.below B6.out)).mono ?_; rintro e w7 ⟨⟨b, v, rfl, hbl, hr⟩, hb7⟩; have B7 := below_to B6.out hb7; obtain ⟨a7, c7, rfl, hc7, hm7, h7⟩ := hr; have HR := Lib.hid h7; obtain ⟨n, hn⟩ : ∃ n, (L.map fun (g : Nat) => Value.int .i64 g).length = n := ⟨_, rfl⟩; have HLN := Lib.hid hn; have hn8 : n ≤ 8 := (by rw [← hn, List.length_map]; exact hL8); rw [hn] at hc7 ⊢; clear hn h7 hb7) | (go_at_call 16; have _u := B5; refine (HN.out _).mono ?_; rintro e w6 ⟨rfl, hb6⟩; have B6 := below_to B5.out hb6; clear hb6) | (go_at_call 15; have _u := B4; refine (HT.out _ (HM.out.below B4.out)).mono ?_; rintro e w5 ⟨rfl, hb5⟩; have B5 := below_to B4.out hb5; clear hb5) | (go_at_call 16; have _u := B3; refine (HN.out _).mono ?_; rintro e w4 ⟨rfl, hb4⟩; have B4 := below_to B3.out hb4; clear hb4) | (go_at_call 12; have _u := hb2; refine (HS.out _).mono ?_; rintro e w3 ⟨rfl, hb3⟩; have B3 := below_to hb2 hb3; clear hb3) | (go_at_call 11; refine (HI.out _ (HM.out.below hb1)).mono ?_; rintro e w2 ⟨rfl, hbx⟩; have hb2 := below_call hb1 hbx; clear hbx) | (go_at_call 10; refine (drawBytesPut _ _ _ _ HB.out).mono ?_; rintro e w1 ⟨s, K, T, rfl, hs, hK, hT, hb1⟩; have hI := fun wz hz => bytesPut_i s K T m wz hz (by omega) (by omega) (by omega); have hS := fun wz => bytesPut_s s K T wz (by omega) (by omega); obtain ⟨NM, hNM⟩ : ∃ NM : ByteArray, (⟨(nmL K.data.toList).toArray⟩ : ByteArray) = NM := ⟨_, rfl⟩; have hN := fun wz => kindName_l K wz (by omega); simp only [tx, hNM] at hN; have HN := Lib.hid hN; have hNs : NM.size ≤ 12 := (by rw [← hNM]; exact nm_len); have hNl : nmL K.data.toList = NM.data.toList := (by rw [← hNM]); have hT := fun wz hz => schemaSort_i s NM m wz hz (by omega) (by omega); have hG := fun wz hz => schemaTags_i s NM m wz hz (by omega) (by omega); have hFD := fun (g : Nat) wz hz => wR s NM (g : Int) m wz hz (by omega) (by omega); have hVF := fun (g : Nat) wz hz => wX s K T (g : Int) m wz hz (by omega) (by omega) (by omega); rcases part_law_words s K T with hv | ⟨A, hv, hA4, hz | ⟨Z, hz, hZ⟩ | ⟨hz, hi, hL8, hp⟩⟩ <;> (rw [hv] at hI hS; (try (rw [hNl] at hz; rw [hz] at hT; have HT := Lib.hid hT)); (try (rw [hNM] at hp; rw [hNl] at hi hL8 hp; rw [hi] at hG; obtain ⟨L, hL⟩ : ∃ L, cX s.data.toList NM.data.toList = L := ⟨_, rfl⟩; rw [hL] at hG hL8 hp; have HP := Lib.hid hp; clear hL hp hi)); have HG := Lib.hid hG; have HFD := Lib.hid hFD; have HVF := Lib.hid hVF; have HI := Lib.hid hI; have HS := Lib.hid hS; have HSS := Lib.hid (show s.size ≤ 1048576 by omega); clear hv hI hS hN hNM hNl hT hG hFD hVF)))
  all_goals first | (go_ret; first | exact ⟨rfl, B3.out⟩ | exact ⟨rfl, B5.out⟩) | skip
  go_loopw [14] (fun v wr => ∃ i : Nat, v = .int .i64 i ∧ i ≤ n ∧ Hid (Below w.heap.size w wr ∧ Below w7.heap.size w7 wr)) (fun v _ => n - (RowKit.intOf v).toNat)
  case atStart => exact ⟨0, rfl, by omega, Lib.hid ⟨B7.out, Below.refl _ _⟩⟩
  case round =>
    obtain ⟨i, rfl, hi, hh⟩ := hrel
    by_cases hlt : i < n
    · have hiL : i < (L.map fun (g : Nat) => Value.int .i64 g).length := by rw [HLN.out]; exact hlt
      rcases HR.out with h0 | ⟨o1, rfl, h14, h15⟩
      · rw [h0] at hiL; simp at hiL
      have p1 := (h15 i hiL).1
      rw [List.getElem_map] at p1
      obtain ⟨g, hg⟩ : ∃ g, (L[i]'(by rw [List.length_map] at hiL; exact hiL)) = g := ⟨_, rfl⟩
      rw [hg] at p1
      obtain ⟨FN, KT, ST, V, hk12, hv4, q1, q2, q3⟩ := HP.out g (by rw [← hg]; exact List.getElem_mem _)
      have hFD := HFD.out g
      have hVF := HVF.out g
      have hBF := fun wz => bytesField_i A (g : Int) wz
      have hBP := fun wz hz => bytesPut_i s KT V m wz hz HSS.out (by omega) (by omega)
      rw [q1] at hFD
      rw [q2] at hVF
      have FD := Lib.hid hFD
      have VF := Lib.hid hVF
      have hwr := hh.out.1.size
      have F := Lib.hid fun wz (h : Below w7.heap.size w7 wz) => (h.cell (p := ⟨b, o1 + i, none⟩) h14).trans p1
      have pr := F.out _ hh.out.2
      clear q1 q2 hFD hVF p1 hg h15
      rcases q3 with ⟨B, r1, r2, r3⟩ | ⟨r1, r2, Z, zb, r3⟩
      all_goals
        rw [r1] at hBF
        rw [r3] at hBP
        have BF := Lib.hid hBF
        have BP := Lib.hid hBP
        clear r1 r3 hBF hBP
        go_wp2_with fail
        go_region_held3 (fun w' => w'.cell? ⟨b, o1 + i, none⟩ = some (.int .i64 g)) (first | exact j9 | exact j8 | go_keep) (first | (go_at_call 21; have _u := D8; refine (FD.out _ (HM.out.below (by have B := hh.out.1.trans (D8.out.mono hwr); repeat (first | with_reducible exact B | with_reducible refine Below.drew ?_)))).mono ?_; rintro e w9 ⟨rfl, hb9⟩; have D9 := Lib.hid (aC (by have B := D8.out; repeat (first | with_reducible exact B | with_reducible refine Below.drew ?_)) hb9); have j9 := F.out _ (hh.out.2.trans (D9.out.mono hh.out.2.size)); clear hb9) | (go_at_call 16; refine (HN.out _).mono ?_; rintro e w8 ⟨rfl, hb8⟩; have D8 := Lib.hid (show Below wr.heap.size wr w8 by refine Below.trans (b := _) ?_ hb8; repeat (first | with_reducible exact Below.refl _ _ | with_reducible refine Below.drew ?_)); have j8 := F.out _ (hh.out.2.trans (D8.out.mono hh.out.2.size)); clear hb8))
        all_goals go_wp2_with (first | (go_at_call 11; have _u := D11; refine (BP.out _ (HM.out.below (by have B := hh.out.1.trans (D11.out.mono hwr); repeat (first | with_reducible exact B | with_reducible refine Below.drew ?_)))).mono ?_; rintro e w12 ⟨rfl, hb12⟩; have D12 := Lib.hid (aC (by have B := D11.out; repeat (first | with_reducible exact B | with_reducible refine Below.drew ?_)) hb12); clear hb12) | (go_at_call 23; have _u := D10; refine (BF.out _).mono ?_; rintro e w11 ⟨rfl, hb11⟩; have D11 := Lib.hid (aC (by have B := D10.out; repeat (first | with_reducible exact B | with_reducible refine Below.drew ?_)) hb11); clear hb11) | (go_at_call 22; have _u := D9; refine (VF.out _ (HM.out.below (by have B := hh.out.1.trans (D9.out.mono hwr); repeat (first | with_reducible exact B | with_reducible refine Below.drew ?_)))).mono ?_; rintro e w10 ⟨rfl, hb10⟩; have D10 := Lib.hid (aC (by have B := D9.out; repeat (first | with_reducible exact B | with_reducible refine Below.drew ?_)) hb10); have j10 := F.out _ (hh.out.2.trans (D10.out.mono hh.out.2.size)); clear hb10))
        all_goals go_roundw
        all_goals first | exact ⟨i + 1, by go_num, by omega, Lib.hid ⟨hh.out.1.trans (D12.out.mono hwr), hh.out.2.trans (D12.out.mono hh.out.2.size)⟩⟩ | (simp [RowKit.intOf]; omega)
    · have hin : i = n := by omega
      subst hin
      go_wp2
      go_ret
      exact ⟨rfl, hh.out.1⟩

theorem proved : Rows.FnBytesPartCardSaid := proved_of fun a0 len0 cap0 z0 w w0 hsh => walk a0 len0 cap0 z0 w w0 hsh
end Go.Proofs.YtidjpalnmnehmaaGreatDoor.fnBytesPart
