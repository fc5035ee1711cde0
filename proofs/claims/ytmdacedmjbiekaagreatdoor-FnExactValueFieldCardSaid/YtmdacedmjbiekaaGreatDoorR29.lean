/- The program's readType: the ways ahead of its fields. -/
import Derived.Test.YtmdacedmjbiekaaGreatDoorR27
namespace Go.Proofs.YtmdacedmjbiekaaGreatDoor
open Go.ChangeShapes Go.WideShapes Go.ChangeAt Go.RowKit Go.Lib
set_option linter.unusedVariables false
set_option linter.unusedSimpArgs false
set_option maxRecDepth 20000 in
theorem it_empty (s : ByteArray) (w : World) (h0 : s.toList.isEmpty = true) : Calls Tryz.prog 91 #[.string s] w fun e w' => (∃ p, e = .returned (.tuple #[.pointer p, .bool false])) ∧ Below w.heap.size w w' := by
  go_enter Tryz.func91, Tryz.ntmps91
  go_wp2_with fail
  go_ret2
  exact ⟨⟨_, rfl⟩, Below.refl _ _⟩
set_option maxRecDepth 20000 in
theorem it_nosort (s : ByteArray) (w : World) (h0 : s.toList.isEmpty = false) (h1 : 1 ≤ s.size) (hk : ∀ wz, Calls Tryz.prog 126 #[.string ⟨#[82, 85, 69]⟩, .string (s.extract 0 1)] wz fun e w' => e = .returned (.bool false) ∧ wz = w') :
    Calls Tryz.prog 91 #[.string s] w fun e w' => (∃ p, e = .returned (.tuple #[.pointer p, .bool false])) ∧ Below w.heap.size w w' := by
  have HK := hid hk
  clear hk
  go_enter Tryz.func91, Tryz.ntmps91
  go_wp2_with (go_at_call 126; refine (HK.out _).mono ?_; rintro e w1 ⟨rfl, rfl⟩)
  go_ret2
  exact ⟨⟨_, rfl⟩, Below.refl _ _⟩
section
variable (s : ByteArray) (w : World) (m : Int) (hm : ML m w) (h0 : s.toList.isEmpty = false) (h1 : 1 ≤ s.size) (hk : ∀ wz, Calls Tryz.prog 126 #[.string ⟨#[82, 85, 69]⟩, .string (s.extract 0 1)] wz fun e w' => e = .returned (.bool true) ∧ wz = w')
  (NM RS : ByteArray) (told : Bool) (hc : ∀ wz, ML m wz → Calls Tryz.prog 90 #[.string (s.extract 1 s.size), .string ⟨#[61]⟩] wz fun e w' => e = .returned (.tuple #[.string NM, .string RS, .bool told]) ∧ ∃ k, w' = wz.drewN k)
include hm h0 h1 hk hc
set_option maxRecDepth 20000 in
theorem it_nocut (ht : told = false) : Calls Tryz.prog 91 #[.string s] w fun e w' => (∃ p, e = .returned (.tuple #[.pointer p, .bool false])) ∧ Below w.heap.size w w' := by
  have HK := hid hk
  have HC := hid (hc _ hm)
  subst ht
  clear hk hc hm
  go_enter Tryz.func91, Tryz.ntmps91
  go_wp2_with (first | (go_at_call 90; refine HC.out.mono ?_; rintro e w1 ⟨rfl, dk, rfl⟩) | (go_at_call 126; refine (HK.out _).mono ?_; rintro e w1 ⟨rfl, rfl⟩))
  go_ret2
  exact ⟨⟨_, rfl⟩, bel_drewN (Below.refl _ _) _⟩
set_option maxRecDepth 20000 in
theorem it_noname (ht : told = true) (hn : ∀ wz, Calls Tryz.prog 108 #[.string NM] wz fun e w' => e = .returned (.bool false) ∧ Below wz.heap.size wz w') : Calls Tryz.prog 91 #[.string s] w fun e w' => (∃ p, e = .returned (.tuple #[.pointer p, .bool false])) ∧ Below w.heap.size w w' := by
  have HK := hid hk
  have HC := hid (hc _ hm)
  have HN := hid hn
  subst ht
  clear hk hc hm hn
  go_enter Tryz.func91, Tryz.ntmps91
  go_wp2_with (first | (go_at_call 108; refine (HN.out _).mono ?_; rintro e w2 ⟨rfl, hb2⟩; have HB2 := hid hb2; clear hb2) | (go_at_call 90; refine HC.out.mono ?_; rintro e w1 ⟨rfl, dk, rfl⟩) | (go_at_call 126; refine (HK.out _).mono ?_; rintro e w1 ⟨rfl, rfl⟩))
  go_ret2
  exact ⟨⟨_, rfl⟩, (bel_drewN (Below.refl _ _) _).trans HB2.out⟩
set_option maxRecDepth 20000 in
set_option maxHeartbeats 1000000 in
theorem it_bare (ht : told = true) (hn : ∀ wz, Calls Tryz.prog 108 #[.string NM] wz fun e w' => e = .returned (.bool true) ∧ Below wz.heap.size wz w') (hr : RS.toList.isEmpty = true) (q : Nat) (e0 : ∀ h, (s[0]'h).toNat = q) :
    Calls Tryz.prog 91 #[.string s] w fun e w' => (∃ b, e = .returned (.tuple #[ptr b, .bool ((q : Int) == 82)]) ∧ w.heap.size ≤ b ∧ b < w'.heap.size ∧ w'.cell? ⟨b, 0, none⟩ = some (.int .u8 q) ∧ w'.cell? ⟨b, 1, none⟩ = some (.string NM) ∧ w'.cell? ⟨b, 2, none⟩ = some (.slice none 0 0) ∧ w'.cell? ⟨b, 3, none⟩ = some (.string s)) ∧ Below w.heap.size w w' := by
  have HK := hid hk
  have HC := hid (hc _ hm)
  have HN := hid hn
  subst ht
  clear hk hc hm hn
  go_enter Tryz.func91, Tryz.ntmps91
  go_wp2_with (first | (go_at_call 108; refine (HN.out _).mono ?_; rintro e w2 ⟨rfl, hb2⟩; have HB2 := hid hb2; clear hb2) | (go_at_call 90; refine HC.out.mono ?_; rintro e w1 ⟨rfl, dk, rfl⟩) | (go_at_call 126; refine (HK.out _).mono ?_; rintro e w1 ⟨rfl, rfl⟩))
  go_region
  all_goals go_wp2_with fail
  all_goals go_ret2
  all_goals exact ⟨⟨_, rfl, HB2.out.size, by simp, by simp, by simp, by simp, by simp⟩, by have B := (bel_drewN (Below.refl w.heap.size w) dk).trans HB2.out; repeat (first | with_reducible exact B | with_reducible refine Below.drew ?_ | with_reducible refine Below.alloc ?_ (by first | exact B.size | (simp; done) | (simp; omega) | omega) _)⟩
end
end Go.Proofs.YtmdacedmjbiekaaGreatDoor
