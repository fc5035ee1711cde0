/- What is drawn for the laws on numbers. -/
import Derived.Test.YteackbhcjolfiaaRd
import Derived.Test.YteackbhcjolfiaaNumPut
namespace Go.Proofs.Yteackbhcjolfiaa
open Go.ChangeShapes Go.WideShapes Go.ChangeAt Go.RowKit
set_option linter.unusedVariables false
/-- a cell of a row that was made before the reader was asked -/
theorem cell_pick (c : List Value) {w1 w2 : World} {rb et : Nat} (hb : Beside rb (w1.alloc (.cells c.toArray et)) w2) (hr : rb < w1.heap.size) (v : Int) (h0 : 0 ≤ v) (h1 : v < c.length) : ∃ x ∈ c, w2.cell? ⟨w1.heap.size, v.toNat, none⟩ = some x := by
  refine ⟨c[v.toNat]'(by omega), List.getElem_mem _, ?_⟩
  refine hb.cell_some ?_ (by omega)
  simp [List.getElem?_eq_getElem (show v.toNat < c.length by omega)]
theorem cell_picki (l : List Int) {w1 w2 : World} {rb et : Nat} (hb : Beside rb (w1.alloc (.cells (l.map (Value.int .i64)).toArray et)) w2) (hr : rb < w1.heap.size) (v : Int) (h0 : 0 ≤ v) (h1 : v < l.length) (lo hi : Int) (hl : (l.all fun n => decide (lo ≤ n) && decide (n ≤ hi)) = true) : ∃ n, lo ≤ n ∧ n ≤ hi ∧ w2.cell? ⟨w1.heap.size, v.toNat, none⟩ = some (.int .i64 n) := by
  obtain ⟨x, hx, hc⟩ := cell_pick _ hb hr v h0 (by simpa using h1)
  obtain ⟨n, hn, rfl⟩ := List.mem_map.1 hx
  have := List.all_eq_true.1 hl n hn
  simp only [Bool.and_eq_true, decide_eq_true_eq] at this
  exact ⟨n, this.1, this.2, hc⟩
set_option maxRecDepth 20000 in
theorem drawNumSize (w : World) (a : Option Addr) (len cap : Nat) (h : Bytes w w.heap.size a len cap) : Calls Try.prog 26 #[.slice a len cap] w fun e w' => ∃ n : Int, e = .returned (.int .i64 n) ∧ (-1000000 ≤ n ∧ n ≤ 1000000) ∧ Below w.heap.size w w' := by
  have HO := Lib.hid (openRd w a len cap h)
  clear h
  go_enter Try.func26, Try.ntmps26
  go_wp2_with (first | (go_at_call 34; refine HO.out.mono ?_; rintro e w1 ⟨rb, rfl, hrb, hR, hB⟩) | (go_at_call 35; refine (pick rb 0 8 _ (hR.alloc _) (by omega) (by omega)).mono ?_; rintro e w2 ⟨v, rfl, hv, _, hR2, hBs⟩; obtain ⟨hv0, hv1⟩ := hv (by omega); obtain ⟨x, hx0, hx1, hxc⟩ := cell_picki [0, 127, 128, 16383, 16384, 999999, 1000000, -1] hBs hR.lt v hv0 hv1 (-1000000) 1000000 (by decide); have hB2 := Lib.hid (Beside.below (hB.alloc hB.size _) (Nat.le_trans hB.size (by simp)) hrb hBs)))
  go_ret
  exact ⟨_, rfl, ⟨hx0, hx1⟩, hB2.out⟩
set_option maxRecDepth 20000 in
theorem drawFoldNum (w : World) (a : Option Addr) (len cap : Nat) (h : Bytes w w.heap.size a len cap) : Calls Try.prog 25 #[.slice a len cap] w fun e w' => ∃ n : Int, e = .returned (.int .i64 n) ∧ (-1000000 ≤ n ∧ n ≤ 1000000) ∧ Below w.heap.size w w' := by
  have HO := Lib.hid (openRd w a len cap h)
  clear h
  go_enter Try.func25, Try.ntmps25
  go_wp2_with (first | (go_at_call 35; refine (pick rb 1 8 _ (hR2.alloc _) (by omega) (by omega)).mono ?_; rintro e w3 ⟨v, rfl, hv, _, hR3, hBs⟩; obtain ⟨hv0, hv1⟩ := hv (by omega); obtain ⟨x, hx0, hx1, hxc⟩ := cell_picki [0, -1, 1, 499999, -499999, 500000, -500000, u - 128] hBs hR2.lt v hv0 hv1 (-1000000) 1000000 (by simp; omega); have hB3 := Lib.hid (Beside.below (hB2.out.alloc hB2.out.size _) (Nat.le_trans hB2.out.size (by simp)) hrb hBs)) | (go_at_call 35; refine (pick rb 0 256 _ hR (by omega) (by omega)).mono ?_; rintro e w2 ⟨u, rfl, hu, _, hR2, hBs1⟩; obtain ⟨hu0, hu1⟩ := hu (by omega); have hB2 := Lib.hid (Beside.below hB hB.size hrb hBs1); clear hBs1) | (go_at_call 34; refine HO.out.mono ?_; rintro e w1 ⟨rb, rfl, hrb, hR, hB⟩))
  go_ret
  exact ⟨_, rfl, ⟨hx0, hx1⟩, hB3.out⟩
set_option maxRecDepth 20000 in
theorem drawOpenNum (w : World) (a : Option Addr) (len cap : Nat) (h : Bytes w w.heap.size a len cap) : Calls Try.prog 27 #[.slice a len cap] w fun e w' => ∃ n : Int, e = .returned (.int .i64 n) ∧ (-1000000 ≤ n ∧ n ≤ 1000000) ∧ Below w.heap.size w w' := by
  have HO := Lib.hid (openRd w a len cap h)
  clear h
  go_enter Try.func27, Try.ntmps27
  go_wp2_with (first | (go_at_call 35; refine (pick rb 1 8 _ (hR2.alloc _) (by omega) (by omega)).mono ?_; rintro e w3 ⟨v, rfl, hv, _, hR3, hBs⟩; obtain ⟨hv0, hv1⟩ := hv (by omega); obtain ⟨x, hx0, hx1, hxc⟩ := cell_picki [0, 1, 2, 999998, 999997, 999999, -1, u] hBs hR2.lt v hv0 hv1 (-1000000) 1000000 (by simp; omega); have hB3 := Lib.hid (Beside.below (hB2.out.alloc hB2.out.size _) (Nat.le_trans hB2.out.size (by simp)) hrb hBs)) | (go_at_call 35; refine (pick rb 0 256 _ hR (by omega) (by omega)).mono ?_; rintro e w2 ⟨u, rfl, hu, _, hR2, hBs1⟩; obtain ⟨hu0, hu1⟩ := hu (by omega); have hB2 := Lib.hid (Beside.below hB hB.size hrb hBs1); clear hBs1) | (go_at_call 34; refine HO.out.mono ?_; rintro e w1 ⟨rb, rfl, hrb, hR, hB⟩))
  go_ret
  exact ⟨_, rfl, ⟨hx0, hx1⟩, hB3.out⟩
theorem mul_low {u v : Int} (h0 : 0 ≤ u) (h1 : u < 256) (h2 : 0 ≤ v) (h3 : v < 256) : 0 ≤ u * v ∧ u * v ≤ 65025 := ⟨Int.mul_nonneg h0 h2, Int.le_trans (Int.mul_le_mul_of_nonneg_left (show v ≤ 255 by omega) h0) (by omega)⟩
set_option maxRecDepth 20000 in
theorem drawNumPut (w : World) (a : Option Addr) (len cap : Nat) (h : Bytes w w.heap.size a len cap) : Calls Try.prog 28 #[.slice a len cap] w fun e w' => ∃ n : Int, e = .returned (.int .i64 n) ∧ (-1000000 ≤ n ∧ n ≤ 1000000) ∧ Below w.heap.size w w' := by
  have HO := Lib.hid (openRd w a len cap h)
  clear h
  go_enter Try.func28, Try.ntmps28
  go_wp2_with (first | (go_at_call 35; refine (pick rb 2 9 _ (hR3.alloc _) (by omega) (by omega)).mono ?_; rintro e w4 ⟨v, rfl, hv, _, hR4, hBs⟩; obtain ⟨hv0, hv1⟩ := hv (by omega); obtain ⟨x, hx0, hx1, hxc⟩ := cell_picki [0, 127, 128, 16383, 16384, 999999, 1000000, -1, u * u2] hBs hR3.lt v hv0 hv1 (-1000000) 1000000 (by simp; omega); have hB4 := Lib.hid (Beside.below (hB3.out.alloc hB3.out.size _) (Nat.le_trans hB3.out.size (by simp)) hrb hBs)) | (go_at_call 35; refine (pick rb 1 256 _ hR2 (by omega) (by omega)).mono ?_; rintro e w3 ⟨u2, rfl, hu2, _, hR3, hBs2⟩; obtain ⟨hu20, hu21⟩ := hu2 (by omega); obtain ⟨hm0, hm1⟩ := mul_low hu0 hu1 hu20 hu21; have hB3 := Lib.hid (Beside.below hB2.out hB2.out.size hrb hBs2); clear hBs2) | (go_at_call 35; refine (pick rb 0 256 _ hR (by omega) (by omega)).mono ?_; rintro e w2 ⟨u, rfl, hu, _, hR2, hBs1⟩; obtain ⟨hu0, hu1⟩ := hu (by omega); have hB2 := Lib.hid (Beside.below hB hB.size hrb hBs1); clear hBs1) | (go_at_call 34; refine HO.out.mono ?_; rintro e w1 ⟨rb, rfl, hrb, hR, hB⟩))
  go_ret
  exact ⟨_, rfl, ⟨hx0, hx1⟩, hB4.out⟩
end Go.Proofs.Yteackbhcjolfiaa
