/- What is drawn for the law on a field of bytes. -/
import Derived.Test.YtidjpalnmnehmaaF41
import Derived.Test.YtidjpalnmnehmaaF38
import Derived.Test.YtidjpalnmnehmaaF39
namespace Go.Proofs.Ytidjpalnmnehmaa
open Go.ChangeShapes Go.WideShapes Go.ChangeAt Go.RowKit Go.Lib
set_option linter.unusedVariables false
set_option linter.unusedSimpArgs false
theorem put_two (l kt v : List UInt8) : ∃ (A : ByteArray) (o : Bool), vfV (bytesVal l kt v) = .tuple #[.string A, .bool o] ∧ A.size ≤ 400 := by
  cases h : bytesVal l kt v with
  | none => exact ⟨⟨#[]⟩, false, rfl, by decide⟩
  | some a => exact ⟨⟨a.toArray⟩, true, rfl, bytesVal_len h⟩
theorem pick_n (rb k : Nat) (n : Int) (w : World) (H : Rd w rb k) (hk : k ≤ 900000) (h1 : 1 ≤ n) (hn : n ≤ 1000) : Calls Try.prog 10 #[.pointer (some ⟨rb, 0, none⟩), .int .i64 n] w fun e w' => ∃ v : Nat, e = .returned (.int .i64 v) ∧ (v : Int) < n ∧ Rd w' rb (k + 1) ∧ Beside rb w w' := by
  refine (pick rb k n w H (by omega) (by omega)).mono ?_
  rintro e w' ⟨v, rfl, hv, _, hR, hB⟩
  obtain ⟨h0, h2⟩ := hv h1
  obtain ⟨m, rfl⟩ := Int.eq_ofNat_of_zero_le h0
  exact ⟨m, rfl, h2, hR, hB⟩
/-- a literal of four bytes as a text -/
theorem convert_1150 (W : World) (et : TypeId) : (convert 22 9 (.slice (some ⟨W.heap.size, 0, none⟩) 4 4)).run Try.prog (W.alloc (.cells #[.int .u8 1, .int .u8 1, .int .u8 5, .int .u8 0] et)) = .ok (.string ⟨#[1, 1, 5, 0]⟩) (W.alloc (.cells #[.int .u8 1, .int .u8 1, .int .u8 5, .int .u8 0] et)) := by
  refine run_convert_bytes_back _ 22 9 5 ⟨W.heap.size, 0, none⟩ 4 [1, 1, 5, 0] Try.underlying22 Try.underlying5 Try.underlying9 fun j hj => ?_
  simp only [List.length_cons, List.length_nil] at hj
  match j, hj with
  | 0, _ => simp [Addr.add]
  | 1, _ => simp [Addr.add]
  | 2, _ => simp [Addr.add]
  | 3, _ => simp [Addr.add]
/-- a literal of five bytes as a text -/
theorem convert_2770 (W : World) (m : Int) (h0 : 0 ≤ m) (hm : m < 256) (et : TypeId) : (convert 22 9 (.slice (some ⟨W.heap.size, 0, none⟩) 5 5)).run Try.prog (W.alloc (.cells #[.int .u8 m, .int .u8 2, .int .u8 7, .int .u8 7, .int .u8 0] et)) = .ok (.string ⟨#[UInt8.ofNat m.toNat, 2, 7, 7, 0]⟩) (W.alloc (.cells #[.int .u8 m, .int .u8 2, .int .u8 7, .int .u8 7, .int .u8 0] et)) := by
  refine run_convert_bytes_back _ 22 9 5 ⟨W.heap.size, 0, none⟩ 5 [UInt8.ofNat m.toNat, 2, 7, 7, 0] Try.underlying22 Try.underlying5 Try.underlying9 fun j hj => ?_
  simp only [List.length_cons, List.length_nil] at hj
  match j, hj with
  | 0, _ => simp [Addr.add]; omega
  | 1, _ => simp [Addr.add]
  | 2, _ => simp [Addr.add]
  | 3, _ => simp [Addr.add]
  | 4, _ => simp [Addr.add]
theorem convert_2770_drew (W : World) (m : Int) (h0 : 0 ≤ m) (hm : m < 256) (et : TypeId) : (convert 22 9 (.slice (some ⟨W.heap.size, 0, none⟩) 5 5)).run Try.prog (W.alloc (.cells #[.int .u8 m, .int .u8 2, .int .u8 7, .int .u8 7, .int .u8 0] et)).drew = .ok (.string ⟨#[UInt8.ofNat m.toNat, 2, 7, 7, 0]⟩) (W.alloc (.cells #[.int .u8 m, .int .u8 2, .int .u8 7, .int .u8 7, .int .u8 0] et)).drew := by
  refine run_convert_bytes_back _ 22 9 5 ⟨W.heap.size, 0, none⟩ 5 [UInt8.ofNat m.toNat, 2, 7, 7, 0] Try.underlying22 Try.underlying5 Try.underlying9 fun j hj => ?_
  simp only [List.length_cons, List.length_nil] at hj
  match j, hj with
  | 0, _ => simp [Addr.add]; omega
  | 1, _ => simp [Addr.add]
  | 2, _ => simp [Addr.add]
  | 3, _ => simp [Addr.add]
  | 4, _ => simp [Addr.add]
theorem conv5 (W : World) (m : Int) (h0 : 0 ≤ m) (hm : m < 256) : ∃ Q : ByteArray, Q.size = 5 ∧ (∀ et : TypeId, (convert 22 9 (.slice (some ⟨W.heap.size, 0, none⟩) 5 5)).run Try.prog (W.alloc (.cells #[.int .u8 m, .int .u8 2, .int .u8 7, .int .u8 7, .int .u8 0] et)) = .ok (.string Q) (W.alloc (.cells #[.int .u8 m, .int .u8 2, .int .u8 7, .int .u8 7, .int .u8 0] et))) ∧ (∀ et : TypeId, (convert 22 9 (.slice (some ⟨W.heap.size, 0, none⟩) 5 5)).run Try.prog (W.alloc (.cells #[.int .u8 m, .int .u8 2, .int .u8 7, .int .u8 7, .int .u8 0] et)).drew = .ok (.string Q) (W.alloc (.cells #[.int .u8 m, .int .u8 2, .int .u8 7, .int .u8 7, .int .u8 0] et)).drew) :=
  ⟨_, rfl, fun et => convert_2770 W m h0 hm et, fun et => convert_2770_drew W m h0 hm et⟩
theorem last_byte (S : ByteArray) (h : 0 < S.size) : ∃ c : Nat, ∀ wz, (Instr.index 9 (.string S) (.int .i64 ((S.size : Int) - 1))).run Try.prog wz = .ok (.int .u8 (c : Int)) wz := by
  refine ⟨(S[((S.size : Int) - 1).toNat]'(by omega)).toNat, fun wz => ?_⟩
  rw [run_index_string (P := Try.prog) wz 9 S .i64 _ Try.underlying9, dif_pos (by omega)]
theorem sl_suf2 (S : ByteArray) (i v : Nat) (h : i + v ≤ S.size) : ∀ wz, (Instr.slice 9 (.string S) (some (.int .i64 ((i : Int) + (v : Int)))) none none).run Try.prog wz = .ok (.string (S.extract (i + v) S.size)) wz := sl_suf S (i + v) h
theorem cut_last (A : ByteArray) (h0 : 0 < A.size) : ∀ wz, (Instr.slice 9 (.string A) none (some (.int .i64 ((A.size : Int) - 1))) none).run Try.prog wz = .ok (.string (A.extract 0 (A.size - 1))) wz := fun wz => by
  have h := run_slice_string_h (P := Try.prog) wz 9 A Try.underlying9 .i64 ((A.size : Int) - 1) (by omega) (by omega)
  rw [h, show ((A.size : Int) - 1).toNat = A.size - 1 by omega]
theorem last_cases (S : ByteArray) : (S.size = 0 ∧ decide (0 < (S.size : Int)) = false) ∨ (0 < S.size ∧ decide (0 < (S.size : Int)) = true ∧ ∃ c : Nat, (∀ wz, (Instr.index 9 (.string S) (.int .i64 ((S.size : Int) - 1))).run Try.prog wz = .ok (.int .u8 (c : Int)) wz) ∧ (((c : Int) == 0) = true ∨ ((c : Int) == 0) = false)) := by
  rcases Nat.eq_zero_or_pos S.size with h | h
  · exact .inl ⟨h, decide_eq_false (by omega)⟩
  · obtain ⟨c, hc⟩ := last_byte S h
    exact .inr ⟨h, decide_eq_true (by omega), c, hc, Bool.eq_false_or_eq_true _⟩
theorem conv1 (W : World) (m : Int) : ∃ X : ByteArray, X.size = 1 ∧ (∀ et : TypeId, (convert 22 9 (.slice (some ⟨W.heap.size, 0, none⟩) 1 1)).run Try.prog (W.alloc (.cells #[.int .u8 m] et)) = .ok (.string X) (W.alloc (.cells #[.int .u8 m] et))) ∧ (∀ et : TypeId, (convert 22 9 (.slice (some ⟨W.heap.size, 0, none⟩) 1 1)).run Try.prog (W.alloc (.cells #[.int .u8 m] et)).drew = .ok (.string X) (W.alloc (.cells #[.int .u8 m] et)).drew) ∧ (∀ (W' : World) (a : Addr) (c : Nat), W'.cell? a = some (.int .u8 m) → (convert 22 9 (.slice (some a) 1 c)).run Try.prog W' = .ok (.string X) W') :=
  ⟨_, rfl, fun et => run_convert_lit (P := Try.prog) 22 9 5 Try.underlying22 Try.underlying5 Try.underlying9 W m et, fun et => run_convert_lit_drew (P := Try.prog) 22 9 5 Try.underlying22 Try.underlying5 Try.underlying9 W m et, fun W' a c h => run_convert_one (P := Try.prog) 22 9 5 Try.underlying22 Try.underlying5 Try.underlying9 W' a c m h⟩
set_option maxRecDepth 20000 in
set_option maxHeartbeats 4000000 in
theorem l91Bytes (rb k : Nat) (w : World) (H : Rd w rb k) (hk : k ≤ 600000) : Calls Try.prog 9 #[.pointer (some ⟨rb, 0, none⟩)] w fun e w' => ∃ s K B : ByteArray, e = .returned (.tuple #[.string s, .string K, .string B]) ∧ B.size ≤ 420 ∧ Rd w' rb (k + 110200) ∧ Beside rb w w' := by
  have R0 := H.lt
  have HH := hid H
  clear H
  go_enter Try.func9, Try.ntmps9
  go_upto_if 25 with (first | (go_at_call 16; have _u := R2; refine (HBP.out _).mono ?_; rintro e w3 ⟨rfl, hb3⟩; have R3 := hid (R2.out.below hb3 R2.out.lt); have B3 := hid (B2.out.trans (Beside.of_below (rb := rb) hb3 (Nat.le_refl _))); clear hb3) | (go_at_call 15; refine (l91Three rb k w HH.out (by omega)).mono ?_; rintro e w2 ⟨s, K, T, rfl, hs, hK, hT, hR2, hB2⟩; have R2 := hid hR2; have B2 := hid hB2; obtain ⟨A, o, hA, hAs⟩ := put_two s.data.toList K.data.toList T.data.toList; have HBP := hid fun wz => bytesPut_s s K T wz (by omega) (by omega); rw [hA] at HBP; clear hR2 hB2 hA))
  go_cut [8] (fun s8 wx => ∃ S : ByteArray, s8 = .string S ∧ S.size ≤ 400 ∧ Hid (Rd wx rb (k + 110180) ∧ Beside rb w wx))
  case first =>
    have hcv := fun W et => convert_1150 W et
    cases o
    · go_wp2_with fail
      go_meet
      exact ⟨_, rfl, by decide, hid ⟨R3.out.alloc _, B3.out.alloc _⟩⟩
    · go_wp2_with fail
      go_meet
      exact ⟨A, rfl, hAs, hid ⟨R3.out, B3.out⟩⟩
  case rest =>
    obtain ⟨S, rfl, hS, hh⟩ := hcut
    have hz : (S.size = 0 ∧ decide (0 < (S.size : Int)) = false) ∨ (0 < S.size ∧ decide (0 < (S.size : Int)) = true) := by
      rcases Nat.eq_zero_or_pos S.size with h | h
      · exact .inl ⟨h, decide_eq_false (by omega)⟩
      · exact .inr ⟨h, decide_eq_true (by omega)⟩
    have HZ := hid hz
    clear hz
    go_upto_region 5 with fail
    go_cut [35] (fun s35 wx => ∃ b : Bool, s35 = .bool b ∧ (b = true → 0 < S.size) ∧ Hid (Rd wx rb (k + 110181) ∧ Beside rb w wx))
    case first =>
      go_wp2_with (go_at_call 10; refine (pick_n rb (k + 110180) 4 _ hh.out.1 (by omega) (by omega) (by omega)).mono ?_; rintro e w4 ⟨v, rfl, hv, hR4, hB4⟩; have R4 := hid hR4; have B4 := hid (hh.out.2.trans hB4); clear hR4 hB4; rcases (Bool.eq_false_or_eq_true ((v : Int) == (0 : Int))) with hq | hq <;> (rcases HZ.out with ⟨hz1, hz2⟩ | ⟨hz1, hz2⟩))
      all_goals go_meet
      all_goals first | exact ⟨false, rfl, (fun h => by cases h), hid ⟨R4.out, B4.out⟩⟩ | exact ⟨true, rfl, (fun _ => hz1), hid ⟨R4.out, B4.out⟩⟩
    case rest =>
      obtain ⟨b, rfl, hb, hh2⟩ := hcut
      go_upto_if 35 with fail
      go_cut [8] (fun s8 wx => ∃ S' : ByteArray, s8 = .string S' ∧ S'.size ≤ 402 ∧ Hid (Rd wx rb (k + 110190) ∧ Beside rb w wx))
      case first =>
        cases b
        · go_wp2_with fail
          go_meet
          exact ⟨S, rfl, by omega, hid ⟨hh2.out.1.mono (by omega), hh2.out.2⟩⟩
        · have hS0 := hb rfl
          go_wp2_with (go_at_call 10; refine (pick_n rb (k + 110181) (S.size : Int) _ hh2.out.1 (by omega) (by omega) (by omega)).mono ?_; rintro e w5 ⟨kk, rfl, hkk, hR5, hB5⟩; have R5 := hid hR5; have B5 := hid (hh2.out.2.trans hB5); clear hR5 hB5)
          have hkk2 : kk < S.size := by omega
          have s1 := sl_pre S kk (by omega)
          obtain ⟨P1, hP1⟩ : ∃ P, S.extract 0 kk = P := ⟨_, rfl⟩
          have hp1 : P1.size = kk := by rw [← hP1, ByteArray.size_extract]; omega
          rw [hP1] at s1
          clear hP1
          have R51 : Hid (Rd w5.drew rb (k + 110181 + 1)) := hid (R5.out.drewN 1)
          refine wp_region_any (by kernel_rfl) ?_
          refine wpAny_take (i := 0) (v := .string S) rfl (by kernel_rfl) (by kernel_rfl) (by kernel_rfl) (fun _ _ _ h => h) (Or.inl ⟨by rfl, fun w => by go_simp⟩) ?_
          refine wpAny_take (i := 1) (v := .int .i64 kk) rfl (by kernel_rfl) (by kernel_rfl) (by kernel_rfl) (fun _ _ _ h => h) (Or.inl ⟨by rfl, fun w => by go_simp⟩) ?_
          refine wpAny_take (i := 2) (v := .string P1) rfl (by kernel_rfl) (by kernel_rfl) (by kernel_rfl) (fun _ _ _ h => h) (Or.inl ⟨by rfl, fun w => by go_simp⟩) ?_
          refine wpAny_take (i := 3) (v := .pointer (some ⟨rb, 0, none⟩)) rfl (by kernel_rfl) (by kernel_rfl) (by kernel_rfl) (fun _ _ _ h => h) (Or.inl ⟨by rfl, fun w => by go_simp⟩) ?_
          refine wpAny_take (i := 9) (v := .string S) rfl (by kernel_rfl) (by kernel_rfl) (by kernel_rfl) (fun _ _ _ h => h) (Or.inl ⟨by rfl, fun w => by go_simp⟩) ?_
          refine wpAny_take (i := 10) (v := .int .i64 kk) rfl (by kernel_rfl) (by kernel_rfl) (by kernel_rfl) (fun _ _ _ h => h) (Or.inl ⟨by rfl, fun w => by go_simp⟩) ?_
          refine wpAny_take (i := 11) (v := .pointer (some ⟨rb, 0, none⟩)) rfl (by kernel_rfl) (by kernel_rfl) (by kernel_rfl) (fun _ _ _ h => h) (Or.inl ⟨by rfl, fun w => by go_simp⟩) ?_
          refine wpAny_ready (rs := [4]) (by kernel_rfl) (by simp) ?_
          refine AllReady.cons rfl (fun K hK => ?_) AllReady.nil
          go_simp
          go_wp2_with (go_at_call 10; refine (pick_n rb (k + 110182) 256 _ (by first | with_reducible exact R51.out | with_reducible exact R5.out) (by omega) (by omega) (by omega)).mono ?_; rintro e wA ⟨va, rfl, hva, hRA, hBA⟩; have kv : IntKind.u8.wrap (va : Int) = (va : Int) := IntWalk.u8_in _ (by omega); obtain ⟨X, hXs, kl1, kl2, kl3⟩ := conv1 wA (va : Int); have a1 := fun wz => run_string_add_sum (P := Try.prog) (w := wz) P1 X (by omega); have KL3 := hid kl3; have RA := hid hRA; have RA2 := hid (hRA.alloc (.cells #[.int .u8 (va : Int)] 5)); have BA := hid (B5.out.trans (by first | with_reducible exact hBA | with_reducible exact (Beside.drew (Beside.refl rb w5)).trans hBA)); clear hRA hBA kl3)
          try (refine hK _ _ ?_; clear hK K)
          refine wpAny_take (i := 5) (v := .int .u8 va) rfl (by kernel_rfl) (by kernel_rfl) (by kernel_rfl) (fun _ _ _ h => h) (Or.inl ⟨by rfl, fun w => by go_simp⟩) ?_
          refine wpAny_ready (rs := [6, 12]) (by kernel_rfl) (by simp) ?_
          refine AllReady.cons rfl (fun K hK => ?_) (AllReady.cons rfl (fun K hK => ?_) AllReady.nil)
          · go_simp
            try (refine hK _ _ ?_; clear hK K)
            refine wpAny_ready (rs := [7, 12]) (by kernel_rfl) (by simp) ?_
            refine AllReady.cons rfl (fun K hK => ?_) (AllReady.cons rfl (fun K hK => ?_) AllReady.nil)
            · go_simp
              try (refine hK _ _ ?_; clear hK K)
              refine wpAny_take (i := 8) (v := .string (P1 ++ X)) rfl (by kernel_rfl) (by kernel_rfl) (by kernel_rfl) (fun _ _ _ h => h) (Or.inl ⟨by rfl, fun w => by go_simp⟩) ?_
              refine wpAny_ready (rs := [12]) (by kernel_rfl) (by simp) ?_
              refine AllReady.cons rfl (fun K hK => ?_) AllReady.nil
              go_simp
              go_wp2_with (go_at_call 10; refine (pick_n rb (k + 110183) 2 _ (by first | with_reducible exact RA2.out) (by omega) (by omega) (by omega)).mono ?_; rintro e w7 ⟨vb, rfl, hvb, hR7, hB7⟩; have kw : IntKind.i64.wrap ((kk : Int) + (vb : Int)) = (kk : Int) + (vb : Int) := IntWalk.i64_in _ (by omega); have s2 := sl_suf2 S kk vb (by omega); obtain ⟨P2, hP2⟩ : ∃ P, S.extract (kk + vb) S.size = P := ⟨_, rfl⟩; have hp2 : P2.size ≤ S.size - kk := (by rw [← hP2, ByteArray.size_extract]; omega); rw [hP2] at s2; have a2 := fun wz => run_string_add_sum (P := Try.prog) (w := wz) (P1 ++ X) P2 (by rw [ByteArray.size_append]; omega); have hxc := hB7.cell_some (b := wA.heap.size) (o := 0) (v := .int .u8 (va : Int)) (by simp) (Nat.ne_of_gt RA.out.lt); have kl4 := KL3.out w7 ⟨wA.heap.size, 0, none⟩ 1 hxc; have RZ := hid hR7; have BZ := hid (BA.out.trans (by first | with_reducible exact hB7 | with_reducible exact (Beside.drew (Beside.refl rb wA)).trans hB7 | with_reducible exact ((Beside.refl rb wA).alloc (.cells #[.int .u8 (va : Int)] 5)).trans hB7)); clear hR7 hB7 hP2)
              try (refine hK _ _ ?_; clear hK K)
              refine wpAny_take (i := 13) (v := .int .i64 ((kk : Int) + (vb : Int))) rfl (by kernel_rfl) (by kernel_rfl) (by kernel_rfl) (fun _ _ _ h => h) (Or.inl ⟨by rfl, fun w => by go_simp⟩) ?_
              refine wpAny_take (i := 14) (v := .string P2) rfl (by kernel_rfl) (by kernel_rfl) (by kernel_rfl) (fun _ _ _ h => h) (Or.inl ⟨by rfl, fun w => by go_simp⟩) ?_
              refine wpAny_take (i := 15) (v := .string (P1 ++ X ++ P2)) rfl (by kernel_rfl) (by kernel_rfl) (by kernel_rfl) (fun _ _ _ h => h) (Or.inl ⟨by rfl, fun w => by go_simp⟩) ?_
              refine wpAny_take (i := 16) (v := .string (P1 ++ X ++ P2)) rfl (by kernel_rfl) (by kernel_rfl) (by kernel_rfl) (fun _ _ _ h => h) (Or.inl ⟨by rfl, fun w => by go_simp⟩) ?_
              refine wpAny_done (by kernel_rfl) ?_ _
              go_simp
              all_goals (go_wp2_with fail; go_meet)
              all_goals exact ⟨_, rfl, by rw [ByteArray.size_append, ByteArray.size_append]; omega, hid ⟨by first | with_reducible exact RZ.out.mono (by omega) | with_reducible exact (RZ.out.alloc _).mono (by omega), by first | with_reducible exact BZ.out | with_reducible exact BZ.out.alloc _⟩⟩
            · go_simp
              go_wp2_with (go_at_call 10; refine (pick_n rb (k + 110183) 2 _ (by first | with_reducible exact RA2.out) (by omega) (by omega) (by omega)).mono ?_; rintro e w7 ⟨vb, rfl, hvb, hR7, hB7⟩; have kw : IntKind.i64.wrap ((kk : Int) + (vb : Int)) = (kk : Int) + (vb : Int) := IntWalk.i64_in _ (by omega); have s2 := sl_suf2 S kk vb (by omega); obtain ⟨P2, hP2⟩ : ∃ P, S.extract (kk + vb) S.size = P := ⟨_, rfl⟩; have hp2 : P2.size ≤ S.size - kk := (by rw [← hP2, ByteArray.size_extract]; omega); rw [hP2] at s2; have a2 := fun wz => run_string_add_sum (P := Try.prog) (w := wz) (P1 ++ X) P2 (by rw [ByteArray.size_append]; omega); have hxc := hB7.cell_some (b := wA.heap.size) (o := 0) (v := .int .u8 (va : Int)) (by simp) (Nat.ne_of_gt RA.out.lt); have kl4 := KL3.out w7 ⟨wA.heap.size, 0, none⟩ 1 hxc; have RZ := hid hR7; have BZ := hid (BA.out.trans (by first | with_reducible exact hB7 | with_reducible exact (Beside.drew (Beside.refl rb wA)).trans hB7 | with_reducible exact ((Beside.refl rb wA).alloc (.cells #[.int .u8 (va : Int)] 5)).trans hB7)); clear hR7 hB7 hP2)
              try (refine hK _ _ ?_; clear hK K)
              refine wpAny_take (i := 13) (v := .int .i64 ((kk : Int) + (vb : Int))) rfl (by kernel_rfl) (by kernel_rfl) (by kernel_rfl) (fun _ _ _ h => h) (Or.inl ⟨by rfl, fun w => by go_simp⟩) ?_
              refine wpAny_take (i := 14) (v := .string P2) rfl (by kernel_rfl) (by kernel_rfl) (by kernel_rfl) (fun _ _ _ h => h) (Or.inl ⟨by rfl, fun w => by go_simp⟩) ?_
              refine wpAny_ready (rs := [7]) (by kernel_rfl) (by simp) ?_
              refine AllReady.cons rfl (fun K hK => ?_) AllReady.nil
              go_simp
              try (refine hK _ _ ?_; clear hK K)
              refine wpAny_take (i := 8) (v := .string (P1 ++ X)) rfl (by kernel_rfl) (by kernel_rfl) (by kernel_rfl) (fun _ _ _ h => h) (Or.inl ⟨by rfl, fun w => by go_simp⟩) ?_
              refine wpAny_take (i := 15) (v := .string (P1 ++ X ++ P2)) rfl (by kernel_rfl) (by kernel_rfl) (by kernel_rfl) (fun _ _ _ h => h) (Or.inl ⟨by rfl, fun w => by go_simp⟩) ?_
              refine wpAny_take (i := 16) (v := .string (P1 ++ X ++ P2)) rfl (by kernel_rfl) (by kernel_rfl) (by kernel_rfl) (fun _ _ _ h => h) (Or.inl ⟨by rfl, fun w => by go_simp⟩) ?_
              refine wpAny_done (by kernel_rfl) ?_ _
              go_simp
              all_goals (go_wp2_with fail; go_meet)
              all_goals exact ⟨_, rfl, by rw [ByteArray.size_append, ByteArray.size_append]; omega, hid ⟨by first | with_reducible exact RZ.out.mono (by omega) | with_reducible exact (RZ.out.alloc _).mono (by omega), by first | with_reducible exact BZ.out | with_reducible exact BZ.out.alloc _⟩⟩
          · go_simp
            go_wp2_with (go_at_call 10; refine (pick_n rb (k + 110183) 2 _ (by first | with_reducible exact RA.out) (by omega) (by omega) (by omega)).mono ?_; rintro e w7 ⟨vb, rfl, hvb, hR7, hB7⟩; have kw : IntKind.i64.wrap ((kk : Int) + (vb : Int)) = (kk : Int) + (vb : Int) := IntWalk.i64_in _ (by omega); have s2 := sl_suf2 S kk vb (by omega); obtain ⟨P2, hP2⟩ : ∃ P, S.extract (kk + vb) S.size = P := ⟨_, rfl⟩; have hp2 : P2.size ≤ S.size - kk := (by rw [← hP2, ByteArray.size_extract]; omega); rw [hP2] at s2; have a2 := fun wz => run_string_add_sum (P := Try.prog) (w := wz) (P1 ++ X) P2 (by rw [ByteArray.size_append]; omega); have kl6 : ∀ et : TypeId, (convert 22 9 (.slice (some ⟨w7.heap.size, 0, none⟩) 1 1)).run Try.prog (w7.alloc (.cells #[.int .u8 (va : Int)] et)) = .ok (.string X) (w7.alloc (.cells #[.int .u8 (va : Int)] et)) := (fun et => KL3.out _ _ 1 (by simp)); have RZ := hid hR7; have BZ := hid (BA.out.trans (by first | with_reducible exact hB7 | with_reducible exact (Beside.drew (Beside.refl rb wA)).trans hB7)); clear hR7 hB7 hP2)
            try (refine hK _ _ ?_; clear hK K)
            refine wpAny_take (i := 13) (v := .int .i64 ((kk : Int) + (vb : Int))) rfl (by kernel_rfl) (by kernel_rfl) (by kernel_rfl) (fun _ _ _ h => h) (Or.inl ⟨by rfl, fun w => by go_simp⟩) ?_
            refine wpAny_take (i := 14) (v := .string P2) rfl (by kernel_rfl) (by kernel_rfl) (by kernel_rfl) (fun _ _ _ h => h) (Or.inl ⟨by rfl, fun w => by go_simp⟩) ?_
            refine wpAny_ready (rs := [6]) (by kernel_rfl) (by simp) ?_
            refine AllReady.cons rfl (fun K hK => ?_) AllReady.nil
            go_simp
            try (refine hK _ _ ?_; clear hK K)
            refine wpAny_ready (rs := [7]) (by kernel_rfl) (by simp) ?_
            refine AllReady.cons rfl (fun K hK => ?_) AllReady.nil
            go_simp
            try (refine hK _ _ ?_; clear hK K)
            refine wpAny_take (i := 8) (v := .string (P1 ++ X)) rfl (by kernel_rfl) (by kernel_rfl) (by kernel_rfl) (fun _ _ _ h => h) (Or.inl ⟨by rfl, fun w => by go_simp⟩) ?_
            refine wpAny_take (i := 15) (v := .string (P1 ++ X ++ P2)) rfl (by kernel_rfl) (by kernel_rfl) (by kernel_rfl) (fun _ _ _ h => h) (Or.inl ⟨by rfl, fun w => by go_simp⟩) ?_
            refine wpAny_take (i := 16) (v := .string (P1 ++ X ++ P2)) rfl (by kernel_rfl) (by kernel_rfl) (by kernel_rfl) (fun _ _ _ h => h) (Or.inl ⟨by rfl, fun w => by go_simp⟩) ?_
            refine wpAny_done (by kernel_rfl) ?_ _
            go_simp
            all_goals (go_wp2_with fail; go_meet)
            all_goals exact ⟨_, rfl, by rw [ByteArray.size_append, ByteArray.size_append]; omega, hid ⟨by first | with_reducible exact RZ.out.mono (by omega) | with_reducible exact (RZ.out.alloc _).mono (by omega), by first | with_reducible exact BZ.out | with_reducible exact BZ.out.alloc _⟩⟩
      case rest =>
        obtain ⟨S', rfl, hS', hh3⟩ := hcut
        have HZ2 := hid (last_cases S')
        have kwl : IntKind.i64.wrap ((S'.size : Int) - 1) = (S'.size : Int) - 1 := IntWalk.i64_in _ (by omega)
        go_upto_region 8 with fail
        go_cut [71] (fun s71 wx => ∃ b : Bool, s71 = .bool b ∧ (b = true → 0 < S'.size) ∧ Hid (Rd wx rb (k + 110191) ∧ Beside rb w wx))
        case first =>
          go_wp2_with (go_at_call 10; refine (pick_n rb (k + 110190) 4 _ hh3.out.1 (by omega) (by omega) (by omega)).mono ?_; rintro e w8 ⟨v, rfl, hv, hR8, hB8⟩; have R8 := hid hR8; have B8 := hid (hh3.out.2.trans hB8); clear hR8 hB8; rcases (Bool.eq_false_or_eq_true ((v : Int) == (0 : Int))) with hq | hq <;> (rcases HZ2.out with ⟨hz0, hz2⟩ | ⟨hz1, hz2, cl, hcl, hq2 | hq2⟩))
          all_goals go_meet
          all_goals first | exact ⟨false, rfl, (fun h => by cases h), hid ⟨R8.out, B8.out⟩⟩ | exact ⟨true, rfl, (fun _ => hz1), hid ⟨R8.out, B8.out⟩⟩
        case rest =>
          obtain ⟨b2, rfl, hb2, hh4⟩ := hcut
          cases b2
          · go_wp2_with fail
            exact bodyPost_ret (v := .tuple #[.string s, .string K, .string S']) (by simp [results, Try.results9, go_sem, *]) rfl ⟨_, _, _, rfl, by omega, hh4.out.1.mono (by omega), hh4.out.2⟩
          · have hS1 := hb2 rfl
            have s3 := cut_last S' hS1
            obtain ⟨P3, hP3⟩ : ∃ P, S'.extract 0 (S'.size - 1) = P := ⟨_, rfl⟩
            have hp3 : P3.size ≤ 402 := by rw [← hP3, ByteArray.size_extract]; omega
            rw [hP3] at s3
            clear hP3
            go_wp2_with fail
            go_region_law ((try go_simp); go_at_call 10; refine (pick_n rb (k + 110191) 20 _ (by first | exact hh4.out.1 | exact hh4.out.1.drewN 1) (by omega) (by omega) (by omega)).mono ?_; rintro e w9 ⟨vc, rfl, hvc, hR9, hB9⟩; have kv1 : IntKind.i64.wrap (90 + (vc : Int)) = 90 + (vc : Int) := IntWalk.i64_in _ (by omega); have kv2 : IntKind.u8.wrap (90 + (vc : Int)) = 90 + (vc : Int) := IntWalk.u8_in _ (by omega); obtain ⟨Q, hQs, kc2, kc3⟩ := conv5 w9 (90 + (vc : Int)) (by omega) (by omega); have a3 := fun wz => run_string_add_sum (P := Try.prog) (w := wz) P3 Q (by omega); have R9 := hid hR9; have B9 := hid (hh4.out.2.trans (by first | exact hB9 | exact (Beside.drew (Beside.refl rb _)).trans hB9)); clear hR9 hB9)
            all_goals (go_wp2_with fail)
            all_goals exact bodyPost_ret (v := .tuple #[.string s, .string K, .string (P3 ++ Q)]) (by simp [results, Try.results9, go_sem, *]) rfl ⟨_, _, _, rfl, by rw [ByteArray.size_append]; omega, by first | exact R9.out.mono (by omega) | exact (R9.out.alloc _).mono (by omega) | exact (R9.out.drewN 1).mono (by omega) | exact ((R9.out.alloc _).drewN 1).mono (by omega), by first | exact B9.out | exact B9.out.alloc _ | exact B9.out.drew | exact (B9.out.alloc _).drew⟩
set_option maxRecDepth 20000 in
theorem drawBytesField (w : World) (a : Option Addr) (len cap : Nat) (h : Bytes w w.heap.size a len cap) : Calls Try.prog 4 #[.slice a len cap] w fun e w' => ∃ (B : ByteArray) (g : Int), e = .returned (.tuple #[.string B, .int .i64 g]) ∧ B.size ≤ 420 ∧ 0 ≤ g ∧ g < 7 ∧ Below w.heap.size w w' := by
  have HO := Lib.hid (openRd w a len cap h)
  clear h
  go_enter Try.func4, Try.ntmps4
  go_wp2_with (first | (go_at_call 10; have _u := hR3; refine (pick_n rb 110200 7 _ hR3.out (by omega) (by omega) (by omega)).mono ?_; rintro e w3 ⟨g, rfl, hg, hR5, hBs5⟩; have hB3 := Lib.hid (Beside.below hB2.out hB2.out.size hrb hBs5); clear hBs5 hR5) | (go_at_call 9; refine (l91Bytes rb 0 _ hR.out (by omega)).mono ?_; rintro e w2 ⟨s, K, T, rfl, hT, hR2, hBs⟩; have hB2 := Lib.hid (Beside.below hB.out hB.out.size hrb hBs); have hR3 := Lib.hid (hR2.mono (show 0 + 110200 ≤ 110200 by omega)); clear hBs hR2) | (go_at_call 8; refine HO.out.mono ?_; rintro e w1 ⟨rb, rfl, hrb, hR1, hB1⟩; have hR := hid hR1; have hB := hid hB1; clear hR1 hB1))
  exact bodyPost_ret (v := .tuple #[.string T, .int .i64 g]) (by simp [results, Try.results4, go_sem, *]) rfl ⟨_, _, rfl, hT, by omega, hg, hB3.out⟩
end Go.Proofs.Ytidjpalnmnehmaa
