/- The program's functions on kinds. -/
import Derived.Test.YtnmdaljieohkiaaDoorRj
import Derived.Test.YtnmdaljieohkiaaDoorKn
namespace Go.Proofs.YtnmdaljieohkiaaDoor
open Go.ChangeShapes Go.WideShapes Go.ChangeAt Go.RowKit Go.Lib
set_option linter.unusedVariables false
theorem parse_text {l : List UInt8} {k : Wf.K} (h : Wf.parseK l = some k) : k.text = l := by
  unfold Wf.parseK at h
  by_cases h1 : l.length ≤ 12
  · rw [if_pos h1] at h; exact Wf.kindIn_text h
  · rw [if_neg h1] at h; cases h
theorem ok_some {l : List UInt8} {k : Wf.K} (h : Wf.parseK l = some k) : okB l = true := by rw [okB, h]; rfl
theorem ok_none {l : List UInt8} (h : Wf.parseK l = none) : okB l = false := by rw [okB, h]; rfl
theorem take_signs (k : Wf.K) : k.text.takeWhile Wf.isSgn = k.signs := by
  induction k with
  | list k ih => rw [Wf.K.text, List.takeWhile_cons_of_pos (by decide), ih]; rfl
  | opt k ih => rw [Wf.K.text, List.takeWhile_cons_of_pos (by decide), ih]; rfl
  | _ => rfl
theorem tx_empty (l : List UInt8) : (⟨l.toArray⟩ : ByteArray).toList.isEmpty = l.isEmpty := by rw [ByteArray.toList_eq]
theorem tx_eq (l m : List UInt8) : ((⟨l.toArray⟩ : ByteArray).toList == m) = (l == m) := by rw [ByteArray.toList_eq]
theorem tx_size (l : List UInt8) : (⟨l.toArray⟩ : ByteArray).size = l.length := rfl
set_option maxRecDepth 20000 in
theorem kindOk_i_no (s : ByteArray) (w : World) (hs : s.size ≤ 9223372036854775807) (h : Wf.parseK s.data.toList = none) : Calls Tryd.prog 14 #[.string s] w fun e w' => e = .returned (.bool false) ∧ Below w.heap.size w w' := by
  have HK := hid fun w => readKind_no s h w hs
  clear h
  go_enter Tryd.func14, Tryd.ntmps14
  go_wp2_with (go_at_call 33; refine (HK.out _).mono ?_; rintro e w1 ⟨⟨a, b, c, rfl⟩, hb⟩)
  go_ret
  exact ⟨rfl, (by repeat (first | exact hb | exact Below.refl _ _ | refine Below.alloc ?_ (by first | exact hb.size | (simp; done) | (simp; omega) | omega) _ | refine Below.setCell ?_ (by first | (simp; done) | (simp; omega) | omega) _ | refine Below.drew ?_))⟩
set_option maxRecDepth 20000 in
theorem kindOk_i_yes (s : ByteArray) (w : World) (hs : s.size ≤ 9223372036854775807) (g b n : ByteArray)  (hk : ∀ w, Calls Tryd.prog 33 #[.string s] w fun e w' => e = .returned (.tuple #[.agg #[.string g, .string b, .string n], .bool true]) ∧ Below w.heap.size w w') : Calls Tryd.prog 14 #[.string s] w fun e w' => e = .returned (.bool true) ∧ Below w.heap.size w w' := by
  have HK := hid hk
  clear hk
  go_enter Tryd.func14, Tryd.ntmps14
  go_wp2_with (go_at_call 33; refine (HK.out _).mono ?_; rintro e w1 ⟨rfl, hb⟩)
  go_ret
  exact ⟨rfl, (by repeat (first | exact hb | exact Below.refl _ _ | refine Below.alloc ?_ (by first | exact hb.size | (simp; done) | (simp; omega) | omega) _ | refine Below.setCell ?_ (by first | (simp; done) | (simp; omega) | omega) _ | refine Below.drew ?_))⟩
set_option maxRecDepth 20000 in
theorem kindPart_i_no (s : ByteArray) (w : World) (hs : s.size ≤ 9223372036854775807) (h : Wf.parseK s.data.toList = none) : Calls Tryd.prog 16 #[.string s] w fun e w' => e = .returned (.tuple #[tx [], .bool false]) ∧ Below w.heap.size w w' := by
  have HK := hid fun w => readKind_no s h w hs
  clear h
  go_enter Tryd.func16, Tryd.ntmps16
  go_wp2_with (go_at_call 33; refine (HK.out _).mono ?_; rintro e w1 ⟨⟨a, b, c, rfl⟩, hb⟩)
  go_ret2
  exact ⟨rfl, (by repeat (first | exact hb | exact Below.refl _ _ | refine Below.alloc ?_ (by first | exact hb.size | (simp; done) | (simp; omega) | omega) _ | refine Below.setCell ?_ (by first | (simp; done) | (simp; omega) | omega) _ | refine Below.drew ?_))⟩
set_option maxRecDepth 20000 in
theorem kindPart_i_yes (s : ByteArray) (w : World) (hs : s.size ≤ 9223372036854775807) (g b n : ByteArray) (hg : g.toList.isEmpty = false) (h1 : 1 ≤ s.size) (hk : ∀ w, Calls Tryd.prog 33 #[.string s] w fun e w' => e = .returned (.tuple #[.agg #[.string g, .string b, .string n], .bool true]) ∧ Below w.heap.size w w') : Calls Tryd.prog 16 #[.string s] w fun e w' => e = .returned (.tuple #[.string (s.extract 1 s.size), .bool true]) ∧ Below w.heap.size w w' := by
  have HK := hid hk
  clear hk
  go_enter Tryd.func16, Tryd.ntmps16
  go_wp2_with (go_at_call 33; refine (HK.out _).mono ?_; rintro e w1 ⟨rfl, hb⟩)
  go_ret2
  exact ⟨rfl, (by repeat (first | exact hb | exact Below.refl _ _ | refine Below.alloc ?_ (by first | exact hb.size | (simp; done) | (simp; omega) | omega) _ | refine Below.setCell ?_ (by first | (simp; done) | (simp; omega) | omega) _ | refine Below.drew ?_))⟩
set_option maxRecDepth 20000 in
theorem kindPart_i_none (s : ByteArray) (w : World) (hs : s.size ≤ 9223372036854775807) (g b n : ByteArray) (hg : g.toList.isEmpty = true) (hk : ∀ w, Calls Tryd.prog 33 #[.string s] w fun e w' => e = .returned (.tuple #[.agg #[.string g, .string b, .string n], .bool true]) ∧ Below w.heap.size w w') : Calls Tryd.prog 16 #[.string s] w fun e w' => e = .returned (.tuple #[tx [], .bool false]) ∧ Below w.heap.size w w' := by
  have HK := hid hk
  clear hk
  go_enter Tryd.func16, Tryd.ntmps16
  go_wp2_with (go_at_call 33; refine (HK.out _).mono ?_; rintro e w1 ⟨rfl, hb⟩)
  go_ret2
  exact ⟨rfl, (by repeat (first | exact hb | exact Below.refl _ _ | refine Below.alloc ?_ (by first | exact hb.size | (simp; done) | (simp; omega) | omega) _ | refine Below.setCell ?_ (by first | (simp; done) | (simp; omega) | omega) _ | refine Below.drew ?_))⟩
set_option maxRecDepth 20000 in
theorem kindName_i_no (s : ByteArray) (w : World) (hs : s.size ≤ 9223372036854775807) (h : Wf.parseK s.data.toList = none) : Calls Tryd.prog 20 #[.string s] w fun e w' => e = .returned (.tuple #[tx [], .bool false]) ∧ Below w.heap.size w w' := by
  have HK := hid fun w => readKind_no s h w hs
  clear h
  go_enter Tryd.func20, Tryd.ntmps20
  go_wp2_with (go_at_call 33; refine (HK.out _).mono ?_; rintro e w1 ⟨⟨a, b, c, rfl⟩, hb⟩)
  go_ret2
  exact ⟨rfl, (by repeat (first | exact hb | exact Below.refl _ _ | refine Below.alloc ?_ (by first | exact hb.size | (simp; done) | (simp; omega) | omega) _ | refine Below.setCell ?_ (by first | (simp; done) | (simp; omega) | omega) _ | refine Below.drew ?_))⟩
set_option maxRecDepth 20000 in
theorem kindName_i_yes (s : ByteArray) (w : World) (hs : s.size ≤ 9223372036854775807) (g b n : ByteArray) (hg : g.toList.isEmpty = true) (h1 : (b.toList == [64]) = true) (hk : ∀ w, Calls Tryd.prog 33 #[.string s] w fun e w' => e = .returned (.tuple #[.agg #[.string g, .string b, .string n], .bool true]) ∧ Below w.heap.size w w') : Calls Tryd.prog 20 #[.string s] w fun e w' => e = .returned (.tuple #[.string n, .bool true]) ∧ Below w.heap.size w w' := by
  have HK := hid hk
  clear hk
  go_enter Tryd.func20, Tryd.ntmps20
  go_wp2_with (go_at_call 33; refine (HK.out _).mono ?_; rintro e w1 ⟨rfl, hb⟩)
  go_ret2
  exact ⟨rfl, (by repeat (first | exact hb | exact Below.refl _ _ | refine Below.alloc ?_ (by first | exact hb.size | (simp; done) | (simp; omega) | omega) _ | refine Below.setCell ?_ (by first | (simp; done) | (simp; omega) | omega) _ | refine Below.drew ?_))⟩
set_option maxRecDepth 20000 in
theorem kindName_i_signs (s : ByteArray) (w : World) (hs : s.size ≤ 9223372036854775807) (g b n : ByteArray) (hg : g.toList.isEmpty = false) (hk : ∀ w, Calls Tryd.prog 33 #[.string s] w fun e w' => e = .returned (.tuple #[.agg #[.string g, .string b, .string n], .bool true]) ∧ Below w.heap.size w w') : Calls Tryd.prog 20 #[.string s] w fun e w' => e = .returned (.tuple #[tx [], .bool false]) ∧ Below w.heap.size w w' := by
  have HK := hid hk
  clear hk
  go_enter Tryd.func20, Tryd.ntmps20
  go_wp2_with (go_at_call 33; refine (HK.out _).mono ?_; rintro e w1 ⟨rfl, hb⟩)
  go_ret2
  exact ⟨rfl, (by repeat (first | exact hb | exact Below.refl _ _ | refine Below.alloc ?_ (by first | exact hb.size | (simp; done) | (simp; omega) | omega) _ | refine Below.setCell ?_ (by first | (simp; done) | (simp; omega) | omega) _ | refine Below.drew ?_))⟩
set_option maxRecDepth 20000 in
theorem kindName_i_plain (s : ByteArray) (w : World) (hs : s.size ≤ 9223372036854775807) (g b n : ByteArray) (hg : g.toList.isEmpty = true) (h1 : (b.toList == [64]) = false) (hk : ∀ w, Calls Tryd.prog 33 #[.string s] w fun e w' => e = .returned (.tuple #[.agg #[.string g, .string b, .string n], .bool true]) ∧ Below w.heap.size w w') : Calls Tryd.prog 20 #[.string s] w fun e w' => e = .returned (.tuple #[tx [], .bool false]) ∧ Below w.heap.size w w' := by
  have HK := hid hk
  clear hk
  go_enter Tryd.func20, Tryd.ntmps20
  go_wp2_with (go_at_call 33; refine (HK.out _).mono ?_; rintro e w1 ⟨rfl, hb⟩)
  go_ret2
  exact ⟨rfl, (by repeat (first | exact hb | exact Below.refl _ _ | refine Below.alloc ?_ (by first | exact hb.size | (simp; done) | (simp; omega) | omega) _ | refine Below.setCell ?_ (by first | (simp; done) | (simp; omega) | omega) _ | refine Below.drew ?_))⟩
set_option maxRecDepth 20000 in
theorem kindDeep_i_no (s : ByteArray) (w : World) (hs : s.size ≤ 9223372036854775807) (h : Wf.parseK s.data.toList = none) : Calls Tryd.prog 18 #[.string s] w fun e w' => e = .returned (.int .i64 (-1)) ∧ Below w.heap.size w w' := by
  have HK := hid fun w => readKind_no s h w hs
  clear h
  go_enter Tryd.func18, Tryd.ntmps18
  go_wp2_with (go_at_call 33; refine (HK.out _).mono ?_; rintro e w1 ⟨⟨a, b, c, rfl⟩, hb⟩)
  go_ret
  exact ⟨rfl, (by repeat (first | exact hb | exact Below.refl _ _ | refine Below.alloc ?_ (by first | exact hb.size | (simp; done) | (simp; omega) | omega) _ | refine Below.setCell ?_ (by first | (simp; done) | (simp; omega) | omega) _ | refine Below.drew ?_))⟩
set_option maxRecDepth 20000 in
theorem kindDeep_i_yes (s : ByteArray) (w : World) (hs : s.size ≤ 9223372036854775807) (g b n : ByteArray)  (hk : ∀ w, Calls Tryd.prog 33 #[.string s] w fun e w' => e = .returned (.tuple #[.agg #[.string g, .string b, .string n], .bool true]) ∧ Below w.heap.size w w') : Calls Tryd.prog 18 #[.string s] w fun e w' => e = .returned (.int .i64 g.size) ∧ Below w.heap.size w w' := by
  have HK := hid hk
  clear hk
  go_enter Tryd.func18, Tryd.ntmps18
  go_wp2_with (go_at_call 33; refine (HK.out _).mono ?_; rintro e w1 ⟨rfl, hb⟩)
  go_ret
  exact ⟨rfl, (by repeat (first | exact hb | exact Below.refl _ _ | refine Below.alloc ?_ (by first | exact hb.size | (simp; done) | (simp; omega) | omega) _ | refine Below.setCell ?_ (by first | (simp; done) | (simp; omega) | omega) _ | refine Below.drew ?_))⟩
end Go.Proofs.YtnmdaljieohkiaaDoor
