/- What is drawn for NumGet. -/
import Derived.Test.YteackbhcjolfiaaDraws
namespace Go.Proofs.Yteackbhcjolfiaa
open Go.ChangeShapes Go.WideShapes Go.ChangeAt Go.RowKit
set_option linter.unusedVariables false
theorem convert_three (W : World) (a b c : Int) (et : TypeId) (ha : 0 ≤ a ∧ a < 256) (hb : 0 ≤ b ∧ b < 256) (hc : 0 ≤ c ∧ c < 256) :
    (convert 32 9 (.slice (some ⟨W.heap.size, 0, none⟩) 3 3)).run Try.prog (W.alloc (.cells #[.int .u8 a, .int .u8 b, .int .u8 c] et)) = .ok (.string ⟨[UInt8.ofNat a.toNat, UInt8.ofNat b.toNat, UInt8.ofNat c.toNat].toArray⟩) (W.alloc (.cells #[.int .u8 a, .int .u8 b, .int .u8 c] et)) := by
  have h1 : ∀ m : Int, 0 ≤ m ∧ m < 256 → ((UInt8.ofNat m.toNat).toNat : Int) = m := fun m hm => by rw [UInt8.toNat_ofNat']; omega
  refine run_convert_bytes_back _ 32 9 5 ⟨W.heap.size, 0, none⟩ 3 [UInt8.ofNat a.toNat, UInt8.ofNat b.toNat, UInt8.ofNat c.toNat] Try.underlying32 Try.underlying5 Try.underlying9 fun j hj => ?_
  match j, hj with
  | 0, _ => simp [Addr.add]; omega
  | 1, _ => simp [Addr.add]; omega
  | 2, _ => simp [Addr.add]; omega
theorem str_pick {w1 w2 : World} {rb et : Nat} (hb : Beside rb (w1.alloc (.cells #[.string ⟨#[]⟩, .string ⟨#[120]⟩] et)) w2) (hr : rb < w1.heap.size) (v : Int) (h0 : 0 ≤ v) (h1 : v < 2) : ∃ t : ByteArray, t.size ≤ 1 ∧ w2.cell? ⟨w1.heap.size, v.toNat, none⟩ = some (.string t) := by
  obtain ⟨x, hx, hc⟩ := cell_pick [.string ⟨#[]⟩, .string ⟨#[120]⟩] hb hr v h0 h1
  simp only [List.mem_cons, List.not_mem_nil, or_false] at hx
  rcases hx with rfl | rfl
  · exact ⟨_, by decide, hc⟩
  · exact ⟨_, by decide, hc⟩
theorem zero_or (v : Int) : (True ∧ v = 0) ∨ (True ∧ (v == 0) = false) := by
  rcases Decidable.em (v = 0) with h | h
  · exact .inl ⟨trivial, h⟩
  · exact .inr ⟨trivial, beq_eq_false_iff_ne.2 h⟩
theorem sum_small (s t : ByteArray) (hs : s.size ≤ 3) (ht : t.size ≤ 1) : (s ++ t).size ≤ 4 := by rw [ByteArray.size_append]; omega
theorem add_small (s t : ByteArray) (hs : s.size ≤ 3) (ht : t.size ≤ 1) (W : World) : (Op.stringOp .add s t).run Try.prog W = .ok (.string (s ++ t)) W := run_string_add_sum (P := Try.prog) (w := W) s t (by omega)
set_option maxRecDepth 20000 in
theorem drawNumGet (w : World) (a : Option Addr) (len cap : Nat) (h : Bytes w w.heap.size a len cap) : Calls Try.prog 29 #[.slice a len cap] w fun e w' => ∃ s : ByteArray, e = .returned (.string s) ∧ s.size ≤ 4 ∧ Below w.heap.size w w' := by
  have HO := Lib.hid (openRd w a len cap h)
  clear h
  go_enter Try.func29, Try.ntmps29
  go_wp2_with (first | (go_at_call 35; have := hR8; refine (pick rb 6 2 _ ((hR8.alloc _).alloc _) (by omega) (by omega)).mono ?_; rintro e w9 ⟨v9, rfl, hv9, _, hR9, hBs9⟩; obtain ⟨h90, h91⟩ := hv9 (by omega); obtain ⟨t, ht, htc0⟩ := str_pick hBs9 (hR8.alloc _).lt v9 h90 h91; have htc : w9.cell? ⟨w8.heap.size + 1, v9.toNat, none⟩ = some (.string t) := (by simpa using htc0); clear htc0; have hadd := fun W => add_small ⟨[UInt8.ofNat v6.toNat, UInt8.ofNat v7.toNat, UInt8.ofNat v8.toNat].toArray⟩ t (Nat.le_refl 3) ht W) | (go_at_call 35; refine (pick rb 5 256 _ hR7 (by omega) (by omega)).mono ?_; rintro e w8 ⟨v8, rfl, hv8, _, hR8, hBs8⟩; obtain ⟨h80, h81⟩ := hv8 (by omega); have hcv := convert_three w8 v6 v7 v8 5 ⟨h60, h61⟩ ⟨h70, h71⟩ ⟨h80, h81⟩) | (go_at_call 35; refine (pick rb 4 256 _ hR6 (by omega) (by omega)).mono ?_; rintro e w7 ⟨v7, rfl, hv7, _, hR7, hBs7⟩; obtain ⟨h70, h71⟩ := hv7 (by omega)) | (go_at_call 35; have := hyes; refine (pick rb 3 256 _ hR5 (by omega) (by omega)).mono ?_; rintro e w6 ⟨v6, rfl, hv6, _, hR6, hBs6⟩; obtain ⟨h60, h61⟩ := hv6 (by omega)) | (go_at_call 35; have := hno; refine (pick rb 3 2 _ (hR5.alloc _) (by omega) (by omega)).mono ?_; rintro e w9 ⟨v9, rfl, hv9, _, hR9, hBs9⟩; obtain ⟨h90, h91⟩ := hv9 (by omega); obtain ⟨t, ht, htc⟩ := str_pick hBs9 hR5.lt v9 h90 h91; have hadd := fun W => add_small _ t hp ht W) | (go_at_call 35; refine (pick rb 2 3 _ hR4 (by omega) (by omega)).mono ?_; rintro e w5 ⟨v5, rfl, hv5, _, hR5, hBs5⟩; rcases zero_or v5 with ⟨hyes, rfl⟩ | ⟨hno, ht5⟩) | (go_at_call 17; refine (numPut_spec _ _).mono ?_; rintro e w4 ⟨rfl, hb4⟩; have hR4 := hR3.below hb4 hR3.lt; obtain ⟨p, hpp⟩ : ∃ p : List UInt8, putL (u * u2) = p := ⟨_, rfl⟩; have hp : (⟨p.toArray⟩ : ByteArray).size ≤ 3 := (by have := putL_len (u * u2); rw [hpp] at this; simpa [ByteArray.size] using this); rw [putV, hpp]; clear hpp) | (go_at_call 35; refine (pick rb 1 256 _ hR2 (by omega) (by omega)).mono ?_; rintro e w3 ⟨u2, rfl, hu2, _, hR3, hBs2⟩; obtain ⟨hu20, hu21⟩ := hu2 (by omega); obtain ⟨hm0, hm1⟩ := mul_low hu0 hu1 hu20 hu21) | (go_at_call 35; refine (pick rb 0 256 _ hR (by omega) (by omega)).mono ?_; rintro e w2 ⟨u, rfl, hu, _, hR2, hBs1⟩; obtain ⟨hu0, hu1⟩ := hu (by omega)) | (go_at_call 34; refine HO.out.mono ?_; rintro e w1 ⟨rb, rfl, hrb, hR, hB⟩))
  all_goals go_ret
  · have X1 := Beside.below hB hB.size hrb hBs1
    have X2 := Beside.below X1 X1.size hrb hBs2
    have X3 := X2.trans (hb4.mono X2.size)
    have X5 := Beside.below X3 X3.size hrb hBs5
    have X6 := Beside.below X5 X5.size hrb hBs6
    have X7 := Beside.below X6 X6.size hrb hBs7
    have X8 := Beside.below X7 X7.size hrb hBs8
    have X8a := (X8.alloc X8.size (.cells #[.int .u8 v6, .int .u8 v7, .int .u8 v8] 5))
    exact ⟨_, rfl, sum_small _ t (Nat.le_refl 3) ht, Beside.below (X8a.alloc X8a.size _) (X8a.alloc X8a.size _).size hrb hBs9⟩
  · have X1 := Beside.below hB hB.size hrb hBs1
    have X2 := Beside.below X1 X1.size hrb hBs2
    have X3 := X2.trans (hb4.mono X2.size)
    have X5 := Beside.below X3 X3.size hrb hBs5
    exact ⟨_, rfl, sum_small _ t hp ht, Beside.below (X5.alloc X5.size _) (X5.alloc X5.size _).size hrb hBs9⟩
end Go.Proofs.Yteackbhcjolfiaa
