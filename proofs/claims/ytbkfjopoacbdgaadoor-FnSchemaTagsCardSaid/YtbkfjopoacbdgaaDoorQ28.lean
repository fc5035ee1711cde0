/- What is drawn for the laws on schemas: names, fields. What is drawn for the laws on schemas: schemas. What is drawn for the laws on schemas: what the laws ask of it, and plain words on what they compare. -/
import Derived.Test.YtbkfjopoacbdgaaDoorQ27
import Derived.Test.YtbkfjopoacbdgaaDoorQ2
import Derived.Test.YtbkfjopoacbdgaaDoorQ0
import Derived.Test.YtbkfjopoacbdgaaDoorQ24
import Derived.Deep.RegionWith
import Derived.Deep.RegionHeld3
import Derived.Test.YtbkfjopoacbdgaaDoorQ26
namespace Go.Proofs.YtbkfjopoacbdgaaDoor
open Go.ChangeShapes Go.WideShapes Go.ChangeAt Go.RowKit Go.Lib
set_option linter.unusedVariables false
set_option linter.unusedSimpArgs false
set_option maxRecDepth 20000 in
set_option maxHeartbeats 1000000 in
theorem l91Name (rb k : Nat) (w : World) (H : Rd w rb k) (hk : k ≤ 900000) :
    Calls Tryd.prog 48 #[.pointer (some ⟨rb, 0, none⟩)] w fun e w' => ∃ s : ByteArray, e = .returned (.string s) ∧ s.size ≤ 4 ∧ Rd w' rb (k + 2) ∧ Beside rb w w' := by
  have R0 := H.lt
  go_enter Tryd.func48, Tryd.ntmps48
  go_wp2_with (first | (go_at_call 72; have _u := hR2; refine (pick rb (k + 1) 4 _ (hR2.alloc _) (by omega) (by omega)).mono ?_; rintro e w3 ⟨n, rfl, hn, _, hR3, hBs3⟩; obtain ⟨hn0, hn1⟩ := hn (by omega); obtain ⟨x, hx0, hx1, hxc⟩ := cell_picks 4 [[], [65], [97, 98, 99, 100], [97, 49]] hBs3 hR2.lt n hn0 hn1 (by decide); have B3 := Lib.hid ((B2.out.alloc _).trans hBs3); clear hBs3) | (go_at_call 72; have _u := hR2; refine (pick rb (k + 1) 4 _ (hR2.alloc _) (by omega) (by omega)).mono ?_; rintro e w3 ⟨n, rfl, hn, _, hR3, hBs3⟩; obtain ⟨hn0, hn1⟩ := hn (by omega); obtain ⟨x, hx0, hx1, hxc⟩ := cell_picks 4 [[97], [98], [99], [100]] hBs3 hR2.lt n hn0 hn1 (by decide); have B3 := Lib.hid ((B2.out.alloc _).trans hBs3); clear hBs3) | (go_at_call 72; refine (pick rb k 30 _ H (by omega) (by omega)).mono ?_; rintro e w2 ⟨v, rfl, hv, _, hR2, hBs⟩; obtain ⟨hv0, hv1⟩ := hv (by omega); have B2 := Lib.hid hBs; clear hBs))
  all_goals go_ret
  all_goals exact ⟨x, rfl, hx0, hR3, B3.out⟩
/-- a field drawn -/
def Drew (n : Nat) (rb k : Nat) (w : World) (e : Ending) (w' : World) : Prop := ∃ s : ByteArray, e = .returned (.string s) ∧ s.size ≤ n ∧ Rd w' rb k ∧ Beside rb w w'
set_option maxRecDepth 20000 in
set_option maxHeartbeats 2000000 in
theorem l91Field (rb k : Nat) (T NM : ByteArray) (g : Nat) (hg : g ≤ 999999) (hn : NM.size ≤ 10) (w : World) (H : Rd w rb k) (hk : k ≤ 900000) :
    Calls Tryd.prog 84 #[.pointer (some ⟨rb, 0, none⟩), .string T, .int .i64 g, .string NM] w fun e w' => Drew 130 rb (k + 9) w e w' := by
  have R0 := H.lt
  have HD := hid fun wz => l6Dec g g wz (Nat.le_refl _) (by omega)
  have ld := Wf.dec_len6 hg
  obtain ⟨D, hD⟩ : ∃ D : ByteArray, (⟨(Wf.dec g).toArray⟩ : ByteArray) = D := ⟨_, rfl⟩
  simp only [tx, hD] at HD
  have hds : D.size ≤ 6 := by rw [← hD, tx_size]; exact ld
  have HH := hid H
  clear hD ld H
  go_enter Tryd.func84, Tryd.ntmps84
  go_wp2_with (first | (go_at_call 72; have _u := hR4; have _t : (K.toList == [110]) = true := (by assumption); refine (pick rb (k + 8) 8 _ (hR4.alloc _) (by omega) (by omega)).mono ?_; rintro e w5 ⟨u, rfl, hu, _, hR5, hBs5⟩; obtain ⟨hu0, hu1⟩ := hu (by omega); obtain ⟨x, hx0, hx1, hxc⟩ := cell_picks 6 [[53], [55, 55], [57, 57, 57, 57, 57, 57], [48]] hBs5 hR4.lt (u / 2 % 4) (by omega) (by simp; omega) (by decide); have B5 := Lib.hid ((B4.out.alloc _).trans hBs5); clear hBs5) | (go_at_call 72; have _u := hR4; have _t : (K.toList == [116]) = true := (by assumption); refine (pick rb (k + 8) 7 _ (hR4.alloc _) (by omega) (by omega)).mono ?_; rintro e w5 ⟨u, rfl, hu, _, hR5, hBs5⟩; obtain ⟨hu0, hu1⟩ := hu (by omega); obtain ⟨x, hx0, hx1, hxc⟩ := cell_picks 3 [[104, 105], [97, 32, 98], []] hBs5 hR4.lt (u / 3) (by omega) (by simp; omega) (by decide); have B5 := Lib.hid ((B4.out.alloc _).trans hBs5); clear hBs5) | (go_at_call 72; have _u := hR4; have _t : (K.toList == [102]) = true := (by assumption); refine (pick rb (k + 8) 7 _ (hR4.alloc _) (by omega) (by omega)).mono ?_; rintro e w5 ⟨u, rfl, hu, _, hR5, hBs5⟩; obtain ⟨hu0, hu1⟩ := hu (by omega); obtain ⟨x, hx0, hx1, hxc⟩ := cell_picks 3 [[121, 101, 115], [121, 101, 115], [110, 111]] hBs5 hR4.lt (u / 3) (by omega) (by simp; omega) (by decide); have B5 := Lib.hid ((B4.out.alloc _).trans hBs5); clear hBs5) | (go_at_call 72; refine (pick rb (k + 7) 3 _ R3.out (by omega) (by omega)).mono ?_; rintro e w4 ⟨v, rfl, hv, _, hR4, hBs⟩; obtain ⟨hv0, hv1⟩ := hv (by omega); have B4 := Lib.hid (B3.out.trans hBs); clear hBs) | (go_at_call 100; refine (l91Kind rb k _ R1.out (by omega)).mono ?_; rintro e w3 ⟨K, rfl, hK, hR3, hBs3⟩; have B3 := Lib.hid (B1.out.trans hBs3); have R3 := Lib.hid hR3; clear hBs3 hR3) | (go_at_call 67; refine (HD.out _).mono ?_; rintro e w1 ⟨rfl, hb1⟩; have R1 := Lib.hid (HH.out.below hb1 R0); have B1 := Lib.hid (Beside.of_below (rb := rb) hb1 (Nat.le_refl _)); clear hb1))
  all_goals go_ret
  all_goals have c58 : (⟨#[58]⟩ : ByteArray).size = 1 := rfl
  all_goals have c61 : (⟨#[61]⟩ : ByteArray).size = 1 := rfl
  all_goals have c62 : (⟨#[61, 39]⟩ : ByteArray).size = 2 := rfl
  all_goals have c39 : (⟨#[39]⟩ : ByteArray).size = 1 := rfl
  all_goals first | exact ⟨_, rfl, by simp [ByteArray.size_append]; omega, hR5.mono (by omega), B5.out⟩ | exact ⟨_, rfl, by simp [ByteArray.size_append]; omega, hR4.mono (by omega), B4.out⟩ | exact ⟨_, rfl, by simp [ByteArray.size_append]; omega, R3.out.mono (by omega), B3.out⟩ | exact ⟨_, rfl, by simp [ByteArray.size_append]; omega, R1.out.mono (by omega), B1.out⟩
/-- the same, at an Int -/
theorem l91FieldI (rb k : Nat) (T NM : ByteArray) (g : Int) (hg0 : 0 ≤ g) (hg : g ≤ 999999) (hn : NM.size ≤ 10) (w : World) (H : Rd w rb k) (hk : k ≤ 900000) :
    Calls Tryd.prog 84 #[.pointer (some ⟨rb, 0, none⟩), .string T, .int .i64 g, .string NM] w fun e w' => Drew 130 rb (k + 9) w e w' := by
  obtain ⟨n, rfl⟩ := Int.eq_ofNat_of_zero_le hg0
  exact l91Field rb k T NM n (by omega) hn w H hk
set_option maxRecDepth 20000 in
set_option maxHeartbeats 2000000 in
theorem l91Type (rb k : Nat) (T NM : ByteArray) (hT : T.size ≤ 1) (hT1 : 1 ≤ T.size) (hn : NM.size ≤ 1) (w : World) (H : Rd w rb k) (hk : k ≤ 800000) :
    Calls Tryd.prog 71 #[.pointer (some ⟨rb, 0, none⟩), .string T, .string NM] w fun e w' => ∃ s : ByteArray, e = .returned (.string s) ∧ 1 ≤ s.size ∧ s.size ≤ 600 ∧ Rd w' rb (k + 50) ∧ Beside rb w w' := by
  have R0 := H.lt
  have HH := hid H
  have kc1 := fun W a c (q : Int) h => run_convert_one (P := Tryd.prog) 36 9 5 Tryd.underlying36 Tryd.underlying5 Tryd.underlying9 W a c q h
  have c61 : (⟨#[61]⟩ : ByteArray).size = 1 := rfl
  have c44 : (⟨#[44]⟩ : ByteArray).size = 1 := rfl
  have c10 : (⟨#[10]⟩ : ByteArray).size = 1 := rfl
  clear H
  go_enter Tryd.func71, Tryd.ntmps71
  go_wp2_with (first | (go_at_call 72; have _u := hR1; refine (pick rb (k + 1) 8 _ hR1 (by omega) (by omega)).mono ?_; rintro e w2 ⟨v2, rfl, hv2, _, hR2, hBs2⟩; have B2 := Lib.hid (B1.out.trans hBs2); clear hBs2 hv2; rcases (Bool.eq_false_or_eq_true (v2 == (0 : Int))) with hq | hq) | (go_at_call 72; refine (pick rb k 4 _ HH.out (by omega) (by omega)).mono ?_; rintro e w1 ⟨v1, rfl, hv1, _, hR1, hBs⟩; obtain ⟨hv10, hv11⟩ := hv1 (by omega); have B1 := Lib.hid hBs; clear hBs))
  all_goals
    go_loopw [7, 8, 10] (fun s tg iv wr => ∃ (S : ByteArray) (t : Int) (i : Nat), s = .string S ∧ tg = .int .i64 t ∧ iv = .int .i64 i ∧ i ≤ 4 ∧ 0 ≤ t ∧ t ≤ 3 * i ∧ S.size ≤ 3 + 140 * i ∧ 1 ≤ S.size ∧ Rd wr rb (k + 2 + 11 * i) ∧ Hid (Beside rb w wr)) (fun _ _ v _ => 4 - (RowKit.intOf v).toNat)
    case atStart => exact ⟨_, _, 0, rfl, rfl, rfl, by omega, by omega, by omega, by simp [ByteArray.size_append]; omega, by simp [ByteArray.size_append]; omega, by first | exact hR2 | exact hR1.mono (by omega), by first | exact B2 | exact B1⟩
    case round =>
      obtain ⟨S, t, i, rfl, rfl, rfl, hi4, ht0, ht1, hS, hS1, hR, hB⟩ := hrel
      go_wp2_with (first | (go_at_call 84; have _u := hR7; refine (l91FieldI rb (k + 2 + 11 * i + 2) T ⟨#[112 + UInt8.ofNat i]⟩ _ (by omega) (by omega) (show (1 : Nat) ≤ 10 by omega) _ (hR7.alloc _) (by omega)).mono ?_; rintro e w8 ⟨F, rfl, hF, hR8, hBs8⟩; have B8 := Lib.hid ((B7.out.alloc _).trans hBs8); clear hBs8) | (go_at_call 72; have _u := hR6; refine (pick rb (k + 2 + 11 * i + 1) 2 _ hR6 (by omega) (by omega)).mono ?_; rintro e w7 ⟨v7, rfl, hv7, _, hR7, hBs7⟩; obtain ⟨hv70, hv71⟩ := hv7 (by omega); have B7 := Lib.hid (B6.out.trans hBs7); clear hBs7; rcases (show v7 = 0 ∨ v7 = 1 by omega) with rfl | rfl) | (go_at_call 72; refine (pick rb (k + 2 + 11 * i) 3 _ hR (by omega) (by omega)).mono ?_; rintro e w6 ⟨v6, rfl, hv6, _, hR6, hBs6⟩; obtain ⟨hv60, hv61⟩ := hv6 (by omega); have B6 := Lib.hid (hB.out.trans hBs6); clear hBs6))
      all_goals first | (go_roundw; (case rel => exact ⟨_, _, i + 1, rfl, rfl, by go_num, by omega, by omega, by omega, by simp [ByteArray.size_append]; omega, by simp [ByteArray.size_append]; omega, hR8.mono (by omega), B8⟩); (case measure => simp [RowKit.intOf]; omega)) | (go_ret; exact ⟨_, rfl, by simp [ByteArray.size_append]; omega, by simp [ByteArray.size_append]; omega, hR.mono (by omega), hB.out⟩)
end Go.Proofs.YtbkfjopoacbdgaaDoor

namespace Go.Proofs.YtbkfjopoacbdgaaDoor
open Go.ChangeShapes Go.WideShapes Go.ChangeAt Go.RowKit Go.Lib
set_option linter.unusedVariables false
set_option linter.unusedSimpArgs false
theorem mem_pos {x : ByteArray} {l : List (List UInt8)} (h : x.data.toList ∈ l) (hl : (l.all fun n => decide (1 ≤ n.length)) = true) : 1 ≤ x.size := by
  have := List.all_eq_true.1 hl _ h
  have h2 : 1 ≤ x.data.toList.length := by simpa using this
  rw [size_list] at h2
  exact h2
/-- an element of a row of texts, each of at most so many bytes -/
theorem el_picks (m : Nat) (l : List (List UInt8)) (v : Int) (h0 : 0 ≤ v) (h1 : v < l.length) (hl : (l.all fun n => decide (n.length ≤ m)) = true) : ∃ x : ByteArray, x.size ≤ m ∧ x.data.toList ∈ l ∧ ∀ h : v.toNat < (l.map tx).length, (l.map tx)[v.toNat]'h = .string x := by
  have hv : v.toNat < l.length := by omega
  have := List.all_eq_true.1 hl l[v.toNat] (List.getElem_mem _)
  exact ⟨⟨(l[v.toNat]).toArray⟩, by simpa [tx_size] using this, List.getElem_mem _, fun h => by rw [List.getElem_map]⟩
set_option maxRecDepth 20000 in
set_option maxHeartbeats 2000000 in
theorem l91Schema (rb k : Nat) (w : World) (H : Rd w rb k) (hk : k ≤ 700000) :
    Calls Tryd.prog 47 #[.pointer (some ⟨rb, 0, none⟩)] w fun e w' => ∃ s : ByteArray, e = .returned (.string s) ∧ s.size ≤ 1900 ∧ Rd w' rb (k + 170) ∧ Beside rb w w' := by
  have R0 := H.lt
  have HH := hid H
  clear H
  go_enter Tryd.func47, Tryd.ntmps47
  go_upto_region 2 with (first | (go_at_call 71; have _u := hR5; refine (l91Type rb (k + 102) x2 ⟨#[99]⟩ hx21 hx22 (show (1 : Nat) ≤ 1 by omega) _ hR5 (by omega)).mono ?_; rintro e w6 ⟨S3, rfl, hS31, hS32, hR6, hBs6⟩; have B6 := Lib.hid (B5.out.trans hBs6); clear hBs6) | (go_at_call 72; have _u := hR4; refine (pick rb (k + 101) 3 _ (hR4.alloc _) (by omega) (by omega)).mono ?_; rintro e w5 ⟨v5, rfl, hv5, _, hR5, hBs5⟩; obtain ⟨hv50, hv51⟩ := hv5 (by omega); obtain ⟨x2, hx21, hx2m, hx2c⟩ := cell_picks 1 [[82], [69], [85]] hBs5 hR4.lt v5 hv50 hv51 (by decide); have hx22 := mem_pos hx2m (by decide); have B5 := Lib.hid ((B4.out.alloc _).trans hBs5); clear hBs5) | (go_at_call 71; have _u := hR3; refine (l91Type rb (k + 51) x1 ⟨#[98]⟩ hx11 hx12 (show (1 : Nat) ≤ 1 by omega) _ hR3 (by omega)).mono ?_; rintro e w4 ⟨S2, rfl, hS21, hS22, hR4, hBs4⟩; have B4 := Lib.hid (B3.out.trans hBs4); clear hBs4) | (go_at_call 72; have _u := hR2; refine (pick rb (k + 50) 4 _ (hR2.alloc _) (by omega) (by omega)).mono ?_; rintro e w3 ⟨v3, rfl, hv3, _, hR3, hBs3⟩; obtain ⟨hv30, hv31⟩ := hv3 (by omega); obtain ⟨x1, hx11, hx1m, hx1c⟩ := cell_picks 1 [[82], [85], [85], [69]] hBs3 hR2.lt v3 hv30 hv31 (by decide); have hx12 := mem_pos hx1m (by decide); have B3 := Lib.hid ((B2.out.alloc _).trans hBs3); clear hBs3) | (go_at_call 71; refine (l91Type rb k ⟨#[82]⟩ ⟨#[97]⟩ (show (1 : Nat) ≤ 1 by omega) (show (1 : Nat) ≤ 1 by omega) (show (1 : Nat) ≤ 1 by omega) _ HH.out (by omega)).mono ?_; rintro e w2 ⟨S1, rfl, hS11, hS12, hR2, hBs2⟩; have B2 := Lib.hid hBs2; clear hBs2))
  go_cut [3, 30] from 23 (fun s3 s30 wx => ∃ (S : ByteArray) (b : Bool), s3 = .string S ∧ s30 = .bool b ∧ 1 ≤ S.size ∧ S.size ≤ 1800 ∧ Rd wx rb (k + 160) ∧ Hid (Beside rb w wx))
  case first =>
    have hsz : (S1 ++ S2 ++ S3).size ≤ 1800 := by simp [ByteArray.size_append]; omega
    have hsz1 : 1 ≤ (S1 ++ S2 ++ S3).size := by simp [ByteArray.size_append]; omega
    have HSO := hid fun wz => schemaOk_s (S1 ++ S2 ++ S3) wz (by omega)
    obtain ⟨B, hB⟩ : ∃ B, okL (S1 ++ S2 ++ S3).data.toList = B := ⟨_, rfl⟩
    rw [hB] at HSO
    clear hB
    go_wp2_with (first | (go_at_call 72; have _u := hR7; refine (pick rb (k + 152) 8 _ hR7 (by omega) (by omega)).mono ?_; rintro e w8 ⟨v8, rfl, hv8, _, hR8, hBs8⟩; have B8 := Lib.hid (B7.out.trans hBs8); clear hBs8) | (go_at_call 13; refine (HSO.out _).mono ?_; rintro e w7 ⟨rfl, hb7⟩; have hR7 := hR6.below hb7 hR6.lt; have B7 := Lib.hid (B6.out.trans (Beside.of_below hb7 (Nat.le_refl _))); clear hb7))
    all_goals go_meet
    all_goals exact ⟨_, _, rfl, rfl, hsz1, hsz, by first | exact hR8.mono (by omega) | exact hR7.mono (by omega), by first | exact B8 | exact B7⟩
  case rest =>
    obtain ⟨S, b, rfl, rfl, hS1, hS2, hR, hB⟩ := hcut
    go_upto_if 30 with fail
    go_cut [3] from 23 (fun s3 wx => ∃ (S' : ByteArray), s3 = .string S' ∧ 1 ≤ S'.size ∧ S'.size ≤ 1800 ∧ wx = wc)
    case first =>
      cases b
      · go_wp2_with fail
        go_meet
        exact ⟨S, rfl, hS1, hS2, rfl⟩
      · go_wp2_with fail
        go_meet
        exact ⟨_, rfl, by decide, by decide, rfl⟩
    case rest =>
      obtain ⟨S', rfl, hS3, hS4, rfl⟩ := hcut
      go_wp2_with (first | (go_at_call 72; have _u := hR9; refine (pick rb (k + 161) S'.size _ hR9 (by omega) (by omega)).mono ?_; rintro e w10 ⟨v10, rfl, hv10, _, hR10, hBs10⟩; obtain ⟨hv100, hv101⟩ := hv10 (by omega); obtain ⟨n10, rfl⟩ := Int.eq_ofNat_of_zero_le hv100; have B10 := Lib.hid (B9.out.trans hBs10); clear hBs10 hv10) | (go_at_call 72; refine (pick rb (k + 160) 24 _ hR (by omega) (by omega)).mono ?_; rintro e w9 ⟨v9, rfl, hv9, _, hR9, hBs9⟩; have B9 := Lib.hid (hB.out.trans hBs9); clear hBs9 hv9))
      · have kk1 : n10 < S'.size := by omega
        have kk2 : n10 ≤ S'.size := by omega
        have kk3 : n10 + 1 ≤ S'.size := by omega
        have kk4 : (0 : Int) ≤ (n10 : Int) + 1 := by omega
        have kk5 : (n10 : Int) + 1 ≤ (S'.size : Int) := by omega
        have kw : IntKind.i64.wrap ((n10 : Int) + 1) = (n10 : Int) + 1 := by
          have := wrap_nat_i64 (n10 + 1) (by omega)
          rw [show ((n10 + 1 : Nat) : Int) = (n10 : Int) + 1 by omega] at this
          exact this
        have ks : ∀ wz, (Instr.slice 9 (.string S') (some (.int .i64 ((n10 : Int) + 1))) none none).run Tryd.prog wz = .ok (.string (S'.extract (n10 + 1) S'.size)) wz := fun wz => run_slice_string_l wz 9 S' Tryd.underlying9 .i64 ((n10 : Int) + 1) kk4 kk5
        go_region_with (first | (go_at_call 72; refine (pick rb (k + 162) 5 _ ((hR10.alloc _).drewN 1) (by omega) (by omega)).mono ?_; rintro e w11 ⟨v11, rfl, hv11, _, hR11, hBs11⟩; obtain ⟨hv110, hv111⟩ := hv11 (by omega); obtain ⟨x, hx0, hxm, hxc⟩ := cell_picks 1 [[], [44], [58], [49], [10]] (w1 := w10) (Beside.trans (Beside.drew (Beside.refl _ _)) hBs11) hR10.lt v11 hv110 hv111 (by decide); have a1 := fun wz => run_string_add_sum (P := Tryd.prog) (w := wz) (S'.extract 0 n10) x (by rw [ByteArray.size_extract]; omega); have a2 := fun wz => run_string_add_sum (P := Tryd.prog) (w := wz) (S'.extract 0 n10 ++ x) (S'.extract (n10 + 1) S'.size) (by rw [ByteArray.size_append, ByteArray.size_extract, ByteArray.size_extract]; omega); have B11 := Lib.hid (((B10.out.alloc _).drew).trans hBs11); clear hBs11 hv11) | (go_at_call 72; refine (pick rb (k + 162) 5 _ (hR10.drewN 1) (by omega) (by omega)).mono ?_; rintro e w11 ⟨v11, rfl, hv11, _, hR11, hBs11⟩; obtain ⟨hv110, hv111⟩ := hv11 (by omega); obtain ⟨x, hx0, hxm, hxc⟩ := el_picks 1 [[], [44], [58], [49], [10]] v11 hv110 hv111 (by decide); have hel : ∀ h, [Value.string ⟨#[]⟩, Value.string ⟨#[44]⟩, Value.string ⟨#[58]⟩, Value.string ⟨#[49]⟩, Value.string ⟨#[10]⟩][v11.toNat]'h = .string x := (fun h => hxc h); clear hxc; have a1 := fun wz => run_string_add_sum (P := Tryd.prog) (w := wz) (S'.extract 0 n10) x (by rw [ByteArray.size_extract]; omega); have a2 := fun wz => run_string_add_sum (P := Tryd.prog) (w := wz) (S'.extract 0 n10 ++ x) (S'.extract (n10 + 1) S'.size) (by rw [ByteArray.size_append, ByteArray.size_extract, ByteArray.size_extract]; omega); have B11 := Lib.hid ((B10.out.drew).trans hBs11); clear hBs11 hv11))
        all_goals go_wp2_with fail
        all_goals go_ret
        all_goals exact ⟨_, rfl, by rw [ByteArray.size_append, ByteArray.size_append, ByteArray.size_extract, ByteArray.size_extract]; omega, by first | exact hR11.mono (by omega) | exact (hR11.alloc _).mono (by omega), by first | exact B11.out | exact B11.out.alloc _⟩
      · go_ret
        exact ⟨S', rfl, by omega, hR9.mono (by omega), B9.out⟩
end Go.Proofs.YtbkfjopoacbdgaaDoor

namespace Go.Proofs.YtbkfjopoacbdgaaDoor
open Go.ChangeShapes Go.WideShapes Go.ChangeAt Go.RowKit Go.Lib
set_option linter.unusedVariables false
set_option linter.unusedSimpArgs false
set_option maxRecDepth 20000 in
theorem drawSchemaOk (w : World) (a : Option Addr) (len cap : Nat) (h : Bytes w w.heap.size a len cap) : Calls Tryd.prog 29 #[.slice a len cap] w fun e w' => ∃ s : ByteArray, e = .returned (.string s) ∧ s.size ≤ 1900 ∧ Below w.heap.size w w' := by
  have HO := Lib.hid (openRd w a len cap h)
  clear h
  go_enter Tryd.func29, Tryd.ntmps29
  go_wp2_with (first | (go_at_call 47; refine (l91Schema rb 0 _ hR.out (by omega)).mono ?_; rintro e w2 ⟨s, rfl, hs, hR2, hBs⟩; have hB2 := Lib.hid (Beside.below hB.out hB.out.size hrb hBs)) | (go_at_call 46; refine HO.out.mono ?_; rintro e w1 ⟨rb, rfl, hrb, hR1, hB1⟩; have hR := hid hR1; have hB := hid hB1; clear hR1 hB1))
  go_ret
  exact ⟨_, rfl, hs, hB2.out⟩
set_option maxRecDepth 20000 in
theorem drawSchemaTypes (w : World) (a : Option Addr) (len cap : Nat) (h : Bytes w w.heap.size a len cap) : Calls Tryd.prog 31 #[.slice a len cap] w fun e w' => ∃ s : ByteArray, e = .returned (.string s) ∧ s.size ≤ 1900 ∧ Below w.heap.size w w' := by
  have HO := Lib.hid (openRd w a len cap h)
  clear h
  go_enter Tryd.func31, Tryd.ntmps31
  go_wp2_with (first | (go_at_call 47; refine (l91Schema rb 0 _ hR.out (by omega)).mono ?_; rintro e w2 ⟨s, rfl, hs, hR2, hBs⟩; have hB2 := Lib.hid (Beside.below hB.out hB.out.size hrb hBs)) | (go_at_call 46; refine HO.out.mono ?_; rintro e w1 ⟨rb, rfl, hrb, hR1, hB1⟩; have hR := hid hR1; have hB := hid hB1; clear hR1 hB1))
  go_ret
  exact ⟨_, rfl, hs, hB2.out⟩
set_option maxRecDepth 20000 in
theorem drawSchemaSort (w : World) (a : Option Addr) (len cap : Nat) (h : Bytes w w.heap.size a len cap) : Calls Tryd.prog 30 #[.slice a len cap] w fun e w' => ∃ s nm : ByteArray, e = .returned (.tuple #[.string s, .string nm]) ∧ s.size ≤ 1900 ∧ nm.size ≤ 4 ∧ Below w.heap.size w w' := by
  have HO := Lib.hid (openRd w a len cap h)
  clear h
  go_enter Tryd.func30, Tryd.ntmps30
  go_wp2_with (first | (go_at_call 48; refine (l91Name rb 170 _ hR3.out (by omega)).mono ?_; rintro e w3 ⟨nm, rfl, hnm, hR4, hBs4⟩; have hB3 := Lib.hid (Beside.below hB2.out hB2.out.size hrb hBs4)) | (go_at_call 47; refine (l91Schema rb 0 _ hR.out (by omega)).mono ?_; rintro e w2 ⟨s, rfl, hs, hR2, hBs⟩; have hB2 := Lib.hid (Beside.below hB.out hB.out.size hrb hBs); have hR3 := hid (hR2.mono (show 0 + 170 ≤ 170 by omega)); clear hBs) | (go_at_call 46; refine HO.out.mono ?_; rintro e w1 ⟨rb, rfl, hrb, hR1, hB1⟩; have hR := hid hR1; have hB := hid hB1; clear hR1 hB1))
  go_ret2
  exact ⟨_, _, rfl, hs, hnm, hB3.out⟩
set_option maxRecDepth 20000 in
theorem drawSchemaTags (w : World) (a : Option Addr) (len cap : Nat) (h : Bytes w w.heap.size a len cap) : Calls Tryd.prog 35 #[.slice a len cap] w fun e w' => ∃ s nm : ByteArray, e = .returned (.tuple #[.string s, .string nm]) ∧ s.size ≤ 1900 ∧ nm.size ≤ 4 ∧ Below w.heap.size w w' := by
  have HO := Lib.hid (openRd w a len cap h)
  clear h
  go_enter Tryd.func35, Tryd.ntmps35
  go_wp2_with (first | (go_at_call 48; refine (l91Name rb 170 _ hR3.out (by omega)).mono ?_; rintro e w3 ⟨nm, rfl, hnm, hR4, hBs4⟩; have hB3 := Lib.hid (Beside.below hB2.out hB2.out.size hrb hBs4)) | (go_at_call 47; refine (l91Schema rb 0 _ hR.out (by omega)).mono ?_; rintro e w2 ⟨s, rfl, hs, hR2, hBs⟩; have hB2 := Lib.hid (Beside.below hB.out hB.out.size hrb hBs); have hR3 := hid (hR2.mono (show 0 + 170 ≤ 170 by omega)); clear hBs) | (go_at_call 46; refine HO.out.mono ?_; rintro e w1 ⟨rb, rfl, hrb, hR1, hB1⟩; have hR := hid hR1; have hB := hid hB1; clear hR1 hB1))
  go_ret2
  exact ⟨_, _, rfl, hs, hnm, hB3.out⟩
theorem types_nodup (l : List UInt8) : (typesL l).Pairwise (· ≠ ·) := by
  unfold typesL
  cases h : Wf.schemaOf l with
  | none => exact List.Pairwise.nil
  | some x => exact (Wf.schemaOf_ok h).names
theorem types_ne {l : List UInt8} {i j : Nat} (hij : j < i) (hi : i < (typesL l).length) : ((⟨((typesL l)[i]).toArray⟩ : ByteArray).toList == (⟨((typesL l)[j]'(by omega)).toArray⟩ : ByteArray).toList) = false := by
  rw [ByteArray.toList_eq, ByteArray.toList_eq]
  have h := List.pairwise_iff_getElem.1 (types_nodup l) j i (by omega) hi hij
  simpa using fun e => h e.symm
theorem types_neL {l : List UInt8} {L : List (List UInt8)} (hL : typesL l = L) {i j : Nat} (hij : j < i) (hi : i < L.length) : ((⟨(L[i]).toArray⟩ : ByteArray).toList == (⟨(L[j]'(by omega)).toArray⟩ : ByteArray).toList) = false := by
  subst hL
  exact types_ne hij hi
/-- what the sort of a type is -/
theorem sort_cases (l nm : List UInt8) : sortV l nm = .tuple #[.string ⟨#[]⟩, .bool false] ∨ (∃ n, sortV l nm = .tuple #[.string ⟨#[82]⟩, .bool true] ∧ (typeIn l nm).isSome = true ∧ (tagsL l nm).length = n) ∨ (∃ n, sortV l nm = .tuple #[.string ⟨#[85]⟩, .bool true] ∧ (typeIn l nm).isSome = true ∧ (tagsL l nm).length = n ∧ 0 < n) ∨ (∃ n, sortV l nm = .tuple #[.string ⟨#[69]⟩, .bool true] ∧ (typeIn l nm).isSome = true ∧ (tagsL l nm).length = n ∧ 0 < n) := by
  unfold sortV tagsL
  cases h : typeIn l nm with
  | none => exact .inl rfl
  | some y =>
    obtain ⟨x, t⟩ := y
    right
    obtain ⟨_, hx, _, ht⟩ := typeIn_ok h
    have hT := hx.tys _ ht
    have hpos : t.sort ≠ 82 → 0 < (t.fields.map (·.tag)).length := fun h82 => by rw [List.length_map]; exact List.length_pos_iff.2 (hT.some h82)
    rcases hT.sort with h | h | h
    · exact .inl ⟨_, by dsimp only; rw [h], rfl, rfl⟩
    · exact .inr (.inl ⟨_, by dsimp only; rw [h], rfl, rfl, hpos (by rw [h]; decide)⟩)
    · exact .inr (.inr ⟨_, by dsimp only; rw [h], rfl, rfl, hpos (by rw [h]; decide)⟩)
theorem find_of_mem {x : Wf.Sc} {nm : List UInt8} (h : nm ∈ x.map (·.name)) : ∃ t, x.find nm = some t := by
  obtain ⟨t, ht, rfl⟩ := List.mem_map.1 h
  cases hf : x.find t.name with
  | some u => exact ⟨u, rfl⟩
  | none =>
    have := List.find?_eq_none.1 hf t ht
    simp at this
theorem types_size {l nm : List UInt8} (h : nm ∈ typesL l) : nm.length ≤ 10 := by
  unfold typesL at h
  cases hs : Wf.schemaOf l with
  | none => rw [hs] at h; simp at h
  | some x =>
    rw [hs] at h
    obtain ⟨t, ht, rfl⟩ := List.mem_map.1 h
    have := ((Wf.schemaOf_ok hs).tys t ht).name
    simp [Wf.isName] at this
    omega
theorem typeIn_mem {l nm : List UInt8} (h : nm ∈ typesL l) : (typeIn l nm).isSome = true ∧ ∃ t : ByteArray, sortV l nm = .tuple #[.string t, .bool true] := by
  unfold typesL at h
  cases hs : Wf.schemaOf l with
  | none => rw [hs] at h; simp at h
  | some x =>
    rw [hs] at h
    obtain ⟨t, ht⟩ := find_of_mem h
    have hty : typeIn l nm = some (x, t) := by unfold typeIn; rw [hs]; dsimp only; rw [ht]; rfl
    exact ⟨by rw [hty]; rfl, ⟨#[t.sort]⟩, by unfold sortV; rw [hty]⟩
/-- what is known of the tags of a type -/
theorem tags_mem {l nm : List UInt8} {i : Nat} (hi : i < (tagsL l nm).length) : (1 ≤ (tagsL l nm)[i] ∧ (tagsL l nm)[i] ≤ 200) ∧ ∃ t u v : ByteArray, fieldV l nm ((tagsL l nm)[i] : Nat) = .tuple #[.string t, .string u, .string v, .bool true] := by
  have hmem := List.getElem_mem hi
  obtain ⟨g, hg⟩ : ∃ g, (tagsL l nm)[i] = g := ⟨_, rfl⟩
  rw [hg] at hmem ⊢
  clear hg hi
  unfold tagsL at hmem
  cases h : typeIn l nm with
  | none => rw [h] at hmem; simp at hmem
  | some y =>
    rw [h] at hmem
    obtain ⟨x, t⟩ := y
    obtain ⟨_, hx, _, ht⟩ := typeIn_ok h
    have hT := hx.tys _ ht
    obtain ⟨f, hf, rfl⟩ := List.mem_map.1 hmem
    have hF := hT.fds f hf
    refine ⟨⟨hF.tag1, hF.tag2⟩, ?_⟩
    unfold fieldV
    rw [h]
    dsimp only
    cases hq : fieldI t (f.tag : Nat) with
    | none =>
      have := List.find?_eq_none.1 hq f hf
      simp at this
    | some f' =>
      dsimp only
      split <;> exact ⟨_, _, _, rfl⟩
theorem tags_memL {l nm : List UInt8} {L : List Nat} (hL : tagsL l nm = L) {i : Nat} (hi : i < L.length) : (1 ≤ L[i] ∧ L[i] ≤ 200) ∧ ∃ t u v : ByteArray, fieldV l nm (L[i] : Nat) = .tuple #[.string t, .string u, .string v, .bool true] := by
  subst hL
  exact tags_mem hi
theorem tags_asc {l nm : List UInt8} {i : Nat} (hi : i + 1 < (tagsL l nm).length) : (tagsL l nm)[i] < (tagsL l nm)[i + 1] := by
  have hp : (tagsL l nm).Pairwise (· < ·) := by
    unfold tagsL
    cases h : typeIn l nm with
    | none => exact List.Pairwise.nil
    | some y =>
      obtain ⟨x, t⟩ := y
      obtain ⟨_, hx, _, ht⟩ := typeIn_ok h
      exact (hx.tys _ ht).tags
  exact List.pairwise_iff_getElem.1 hp i (i + 1) (by omega) hi (by omega)
theorem tags_ascL {l nm : List UInt8} {L : List Nat} (hL : tagsL l nm = L) {i : Nat} (hi : i + 1 < L.length) : L[i] < L[i + 1] := by
  subst hL
  exact tags_asc hi
end Go.Proofs.YtbkfjopoacbdgaaDoor
