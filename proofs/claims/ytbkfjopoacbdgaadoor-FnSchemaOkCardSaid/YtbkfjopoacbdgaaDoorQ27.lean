/- What is drawn for the laws on kinds. -/
import Derived.Test.YtbkfjopoacbdgaaDoorQ5
namespace Go.Proofs.YtbkfjopoacbdgaaDoor
open Go.ChangeShapes Go.WideShapes Go.ChangeAt Go.RowKit Go.Lib
set_option linter.unusedVariables false
/-- a cell of a row that was made before the reader was asked -/
theorem cell_pick (c : List Value) {w1 w2 : World} {rb et : Nat} (hb : Beside rb (w1.alloc (.cells c.toArray et)) w2) (hr : rb < w1.heap.size) (v : Int) (h0 : 0 ≤ v) (h1 : v < c.length) : ∃ x ∈ c, w2.cell? ⟨w1.heap.size, v.toNat, none⟩ = some x := by
  refine ⟨c[v.toNat]'(by omega), List.getElem_mem _, ?_⟩
  refine hb.cell_some ?_ (by omega)
  simp [List.getElem?_eq_getElem (show v.toNat < c.length by omega)]
/-- the same, of a row of texts, each of at most so many bytes -/
theorem cell_picks (m : Nat) (l : List (List UInt8)) {w1 w2 : World} {rb et : Nat} (hb : Beside rb (w1.alloc (.cells (l.map tx).toArray et)) w2) (hr : rb < w1.heap.size) (v : Int) (h0 : 0 ≤ v) (h1 : v < l.length) (hl : (l.all fun n => decide (n.length ≤ m)) = true) : ∃ x : ByteArray, x.size ≤ m ∧ x.data.toList ∈ l ∧ w2.cell? ⟨w1.heap.size, v.toNat, none⟩ = some (.string x) := by
  obtain ⟨x, hx, hc⟩ := cell_pick _ hb hr v h0 (by simpa using h1)
  obtain ⟨n, hn, rfl⟩ := List.mem_map.1 hx
  have := List.all_eq_true.1 hl n hn
  exact ⟨⟨n.toArray⟩, by simpa [tx_size] using this, hn, hc⟩
set_option maxRecDepth 20000 in
set_option maxHeartbeats 1000000 in
theorem l91Kind (rb k : Nat) (w : World) (H : Rd w rb k) (hk : k ≤ 900000) :
    Calls Tryd.prog 100 #[.pointer (some ⟨rb, 0, none⟩)] w fun e w' => ∃ s : ByteArray, e = .returned (.string s) ∧ s.size ≤ 100 ∧ Rd w' rb (k + 7) ∧ Beside rb w w' := by
  have R0 := H.lt
  go_enter Tryd.func100, Tryd.ntmps100
  go_wp2_with (first | (go_at_call 72; refine (pick rb (k + 1) 4 _ hR2 (by omega) (by omega)).mono ?_; rintro e w3 ⟨n, rfl, hn, _, hR3, hBs3⟩; obtain ⟨hn0, hn1⟩ := hn (by omega); have B3 := Lib.hid (B2.out.trans hBs3); clear hBs3) | (go_at_call 72; refine (pick rb k 8 _ (H.alloc _) (by omega) (by omega)).mono ?_; rintro e w2 ⟨v, rfl, hv, _, hR2, hBs⟩; obtain ⟨hv0, hv1⟩ := hv (by omega); obtain ⟨x, hx0, hx1, hxc⟩ := cell_picks 3 [[110], [116], [102], [110], [116], [64, 97, 59], [64, 98, 59], [64, 99, 59]] hBs H.lt v hv0 hv1 (by decide); have B2 := Lib.hid (((Beside.refl rb w).alloc _).trans hBs); clear hBs))
  go_loopw [3, 4] (fun v3 v4 wr => ∃ (t : ByteArray) (i : Int) (m : Nat), v3 = .string t ∧ v4 = .int .i64 i ∧ 0 ≤ i ∧ i ≤ 3 ∧ m + i.toNat ≤ 5 ∧ t.size ≤ 10 * m ∧ m ≤ 5 ∧ Rd wr rb (k + m) ∧ Hid (Beside rb w wr)) (fun _ v _ => (RowKit.intOf v).toNat)
  case atStart => exact ⟨x, n, 2, rfl, rfl, hn0, by omega, by omega, by omega, by omega, hR3, B3⟩
  case round =>
    obtain ⟨t, i, m, rfl, rfl, hi0, hi1, hm, ht, hm5, hR, hBB⟩ := hrel
    by_cases hi : 1 < i
    · go_wp2_with (go_at_call 72; refine (pick rb (k + m) 3 _ (hR.alloc _) (by omega) (by omega)).mono ?_; rintro e w4 ⟨u, rfl, hu, _, hR4, hBs4⟩; obtain ⟨hu0, hu1⟩ := hu (by omega); obtain ⟨y, hy0, hy1, hyc⟩ := cell_picks 1 [[91], [63], [91]] hBs4 hR.lt u hu0 hu1 (by decide); have B4 := Lib.hid ((hBB.out.alloc _).trans hBs4); clear hBs4)
      go_roundw
      case rel => exact ⟨_, _, m + 1, rfl, rfl, by omega, by omega, by omega, by simp [ByteArray.size_append]; omega, by omega, hR4, B4⟩
      case measure => simp [RowKit.intOf]; omega
    · go_wp2_with (first | (go_at_call 72; refine (pick rb (k + m + 1) 8 _ (hR5.alloc _) (by omega) (by omega)).mono ?_; rintro e w6 ⟨v6, rfl, hv6, _, hR6, hBs6⟩; obtain ⟨hv60, hv61⟩ := hv6 (by omega); obtain ⟨z, hz0, hz1, hzc⟩ := cell_picks 20 [[], [120], [64, 59], [64, 65, 59], [91], [63, 63, 63, 63, 63, 63, 63, 63, 63, 63, 63, 63, 63, 63, 110], [64, 97], [110, 110]] hBs6 hR5.lt v6 hv60 hv61 (by decide); have B6 := Lib.hid ((B5.out.alloc _).trans hBs6); clear hBs6) | (go_at_call 72; refine (pick rb (k + m) 30 _ hR (by omega) (by omega)).mono ?_; rintro e w5 ⟨v5, rfl, hv5, _, hR5, hBs5⟩; have B5 := Lib.hid (hBB.out.trans hBs5); clear hBs5 hv5))
      all_goals go_ret
      · exact ⟨z, rfl, by omega, hR6.mono (by omega), B6.out⟩
      · exact ⟨t, rfl, by omega, hR5.mono (by omega), B5.out⟩
end Go.Proofs.YtbkfjopoacbdgaaDoor
