/- The law FnBytesUnknown holds for every input: the Go function returns true and its arguments read as before. No condition but that the listed tables of Go's library hold what the card ties. -/
import Derived.Test.YtidjpalnmnehmaaGreatDoorG40
import Derived.Test.YtidjpalnmnehmaaGreatDoorG41
import Derived.Test.YtidjpalnmnehmaaGreatDoorG44
import Derived.Test.YtidjpalnmnehmaaGreatDoorCrdU
import Derived.WalkKit
import Derived.ProofKit
import Derived.Below
namespace Go.Proofs.YtidjpalnmnehmaaGreatDoor.fnBytesUnknown
open Go.ChangeShapes Go.WideShapes Go.ChangeAt Go.RowKit
open Go.ChangeMaps (open_string shut_string)
set_option linter.unusedVariables false
theorem below_call {W w1 w2 : World} (h1 : Below W.heap.size W w1) (h2 : Below w1.heap.size w1 w2) : Below W.heap.size W w2 := h1.trans (h2.mono h1.size)
theorem below_dn {B : Nat} {a w : World} (h : Below B a w) (n : Nat) : Below B a (w.drewN n) := h.trans ⟨rfl, rfl, rfl, Nat.le_refl _, fun _ _ => rfl⟩
theorem ne_of {w1 : World} {xs : List Value} {k0 k1 : Nat} (h : xs = [] ∨ k0 < w1.heap.size) (h2 : w1.heap.size ≤ k1) : xs = [] ∨ k0 ≠ k1 := by
  rcases h with h | h
  · exact .inl h
  · exact .inr (by omega)
theorem below_to {W w1 w2 : World} (h1 : Below W.heap.size W w1) (h2 : Below w1.heap.size w1 w2) : Hid (Below W.heap.size W w2) := Lib.hid (h1.trans (h2.mono h1.size))
set_option maxRecDepth 20000 in
set_option maxHeartbeats 4000000 in
theorem walk (a0 : Option Addr) (len0 cap0 : Nat) (z0 : List Int) (a1 : Option Addr) (len1 cap1 : Nat) (z1 : List Int) (w : World) (w0 : IsRow .u8 w a0 len0 cap0 z0) (w1 : IsRow .u8 w a1 len1 cap1 z1) (hsh : w.ShapedOpen Tryz.prog) :
    Calls Tryz.prog 4 #[.slice a0 len0 cap0, .slice a1 len1 cap1] w fun e w' => e = .returned (.bool true) ∧ Below w.heap.size w w' := by
  obtain ⟨m, hm⟩ := lY w hsh
  have HM := Lib.hid hm
  clear hm hsh
  have HB := Lib.hid (kY w0)
  clear w0
  by_cases hbig : 1048576 < len0
  · go_enter Tryz.func4, Tryz.ntmps4
    go_wp2
    go_ret
    exact ⟨rfl, Below.refl _ _⟩
  have hlen : len0 ≤ 1048576 := by omega
  clear hbig
  clear w1
  by_cases hbig1 : 1048576 < len1
  · go_enter Tryz.func4, Tryz.ntmps4
    go_wp2
    go_ret
    exact ⟨rfl, Below.refl _ _⟩
  have hlen1 : len1 ≤ 1048576 := by omega
  clear hbig1
  go_enter Tryz.func4, Tryz.ntmps4
  obtain ⟨j, hj, hjm⟩ : ∃ j : Nat, j ≤ 98 ∧ Int.tmod (len1 : Int) 99 = (j : Int) := ⟨len1 % 99, by omega, rfl⟩
  obtain ⟨g, hg⟩ : ∃ g : Nat, 201 + j = g := ⟨_, rfl⟩
  have hgi : (201 : Int) + (j : Int) = (g : Int) := by omega
  have hg1 : 200 < g := by omega
  have hg2 : g ≤ 300 := by omega
  have HNP := Lib.hid fun wz => numPut_impl (g : Int) wz
  obtain ⟨P, hP⟩ : ∃ P : ByteArray, (⟨(Wf.putN g).toArray⟩ : ByteArray) = P := ⟨_, rfl⟩
  have hPV : putV (g : Int) = .tuple #[.string P, .bool true] := by
    rw [← hP]
    unfold putV
    rw [putL, if_pos (by omega), putB, decide_eq_true (by omega)]
    rfl
  have hPs : P.size ≤ 10 := by
    rw [← hP]
    have := (Wf.bH g (by omega)).2
    show (Wf.putN g).length ≤ 10
    omega
  rw [hPV] at HNP
  have kc := fun W et => run_convert_four W et
  have kcd := fun W et => run_convert_four_drew W et
  have HPP := Lib.hid hP
  clear hg hPV hP
  go_wp2_with (first | (go_at_call 17; have _u := B5; refine (HNP.out _).mono ?_; rintro e w6 ⟨rfl, hb6⟩; have B6 := below_to B5.out hb6; clear hb6) | (go_at_call 15; have _u := B4; refine (HT.out _ (HM.out.below B4.out)).mono ?_; rintro e w5 ⟨rfl, hb5⟩; have B5 := below_to B4.out hb5; clear hb5) | (go_at_call 16; have _u := B3; refine (HN.out _).mono ?_; rintro e w4 ⟨rfl, hb4⟩; have B4 := below_to B3.out hb4; clear hb4) | (go_at_call 12; have _u := hb2; refine (HS.out _).mono ?_; rintro e w3 ⟨rfl, hb3⟩; have B3 := below_to hb2 hb3; clear hb3) | (go_at_call 11; refine (HI.out _ (HM.out.below hb1)).mono ?_; rintro e w2 ⟨rfl, hbx⟩; have hb2 := below_call hb1 hbx; clear hbx) | (go_at_call 10; refine (drawBytesPut _ _ _ _ HB.out).mono ?_; rintro e w1 ⟨s, K, T, rfl, hs, hK, hT, hb1⟩; have hI := fun wz hz => bytesPut_i s K T m wz hz (by omega) (by omega) (by omega); have hS := fun wz => bytesPut_s s K T wz (by omega) (by omega); obtain ⟨NM, hNM⟩ : ∃ NM : ByteArray, (⟨(nmL K.data.toList).toArray⟩ : ByteArray) = NM := ⟨_, rfl⟩; have hN := fun wz => kindName_l K wz (by omega); simp only [tx, hNM] at hN; have HN := Lib.hid hN; have hNs : NM.size ≤ 12 := (by rw [← hNM]; exact nm_len); have hNl : nmL K.data.toList = NM.data.toList := (by rw [← hNM]); have hT := fun wz hz => schemaSort_i s NM m wz hz (by omega) (by omega); rcases unknown_words s K T with hv | ⟨A, hv, hA4, hA0, hz | ⟨Z, hz, hZ⟩ | ⟨hz, hw⟩⟩ <;> (rw [hv] at hI hS; (try (rw [hNl] at hz; rw [hz] at hT; have HT := Lib.hid hT)); (try (obtain ⟨A1, hA1⟩ : ∃ A1 : ByteArray, A.extract 0 (A.size - 1) = A1 := ⟨_, rfl⟩; have hA1s : A1.size ≤ 400 := (by rw [← hA1, ByteArray.size_extract]; omega); obtain ⟨A2, hA2⟩ : ∃ A2 : ByteArray, A1 ++ P = A2 := ⟨_, rfl⟩; have hA2s : A2.size ≤ 410 := (by rw [← hA2, ByteArray.size_append]; omega); obtain ⟨A3, hA3⟩ : ∃ A3 : ByteArray, A2 ++ ⟨#[2, 7, 200, 0]⟩ = A3 := ⟨_, rfl⟩; have hA3s : A3.size ≤ 1048576 := (by rw [← hA3, ByteArray.size_append]; show A2.size + 4 ≤ _; omega); obtain ⟨f1, f2, f3⟩ := hw g A3 hg1 hg2 (by rw [HPP.out, hA1, hA2, hA3]); have hG := fun wz hz => bytesGet_i s K A3 m wz hz (by omega) (by omega) hA3s; rw [f1] at hG; have HG := Lib.hid hG; have hC := fun wz hz => bytesCanon_i s K A3 m wz hz (by omega) (by omega) hA3s; rw [f3] at hC; have HC := Lib.hid hC; have HK := Lib.hid fun wz hz => (bytesSkip_i s K A3 m wz hz (by omega) (by omega) hA3s).mono fun e w' h => skip_one f2 h; clear hG hC hw f1 f2 f3)); have HI := Lib.hid hI; have HS := Lib.hid hS; clear hv hI hS hN hNM hNl hT)))
  all_goals first | (go_ret; first | exact ⟨rfl, B3.out⟩ | exact ⟨rfl, B5.out⟩) | skip
  have kw : IntKind.i64.wrap ((A.size : Int) - 1) = (A.size : Int) - 1 := IntWalk.i64_in _ (by omega)
  have ks := run_cut_last A A1 hA0 hA1
  have ka1 := run_add_str A1 P A2 (by omega) hA2
  have ka2 := run_add_str A2 ⟨#[2, 7, 200, 0]⟩ A3 (by show A2.size + 4 ≤ _; omega) hA3
  clear hA1 hA2 hA3
  go_region
  go_wp2_with (first | (go_at_call 14; have _u := B8; refine (HC.out _ (HM.out.below B8.out)).mono ?_; rintro e w9 ⟨rfl, hb9⟩; have B9 := below_to B8.out hb9; clear hb9) | (go_at_call 18; have _u := B7; refine (HK.out _ (HM.out.below B7.out)).mono ?_; rintro e w8 ⟨⟨b8, o8, c8, rfl, hl8, hc8⟩, hb8⟩; have B8 := below_to B7.out hb8; clear hb8) | (go_at_call 13; have _u := B6; have BA := Lib.hid fun o => Below.drew (B6.out.alloc B6.out.size o); refine (HG.out _ (HM.out.below (BA.out _))).mono ?_; rintro e w7 ⟨rfl, hb7⟩; have B7 := below_to (BA.out _) hb7; clear hb7))
  all_goals go_ret
  all_goals exact ⟨rfl, B9.out⟩

theorem proved : Rows.FnBytesUnknownCardSaid := proved_of fun a0 len0 cap0 z0 a1 len1 cap1 z1 w w0 w1 hsh => walk a0 len0 cap0 z0 a1 len1 cap1 z1 w w0 w1 hsh
end Go.Proofs.YtidjpalnmnehmaaGreatDoor.fnBytesUnknown
