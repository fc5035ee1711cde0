/- Packed by pack.py: Lt. -/
import Derived.Test.YtidjpalnmnehmaaF11
namespace Go.Proofs.Ytidjpalnmnehmaa
open Go.ChangeShapes Go.WideShapes Go.ChangeAt Go.RowKit Go.Lib
set_option linter.unusedVariables false
structure EqAt (s : ByteArray) (p : Nat) : Prop where
  le : p ≤ s.size
  no : ∀ i,i < p → ∀ h : i < s.size,((((s[i]'h).toNat : Nat) : Int) != 61) = true
  yes : ∀ h : p < s.size,((((s[p]'h).toNat : Nat) : Int) != 61) = false
set_option maxRecDepth 20000 in
set_option maxHeartbeats 1000000 in
theorem rt_none (s : ByteArray) (w : World) (hs : s.size ≤ 1000000) (p : Nat) (he : EqAt s p) (h1 : s.size ≤ p) :
    Calls Try.prog 49 #[.string s] w fun e w' => e = .returned (.tuple #[.agg #[.int .u8 0,tx [], .slice none 0 0], .bool false]) ∧ Below w.heap.size w w':=by
  have hple:=he.le
  have HE:=hid he
  clear he
  go_enter Try.func49,Try.ntmps49
  go_wp2
  go_loop [4] (fun i => ∃ k : Nat,k ≤ p ∧ i = .int .i64 k) (fun i => s.size - (RowKit.intOf i).toNat)
  case atStart => exact ⟨0,Nat.zero_le _,rfl⟩
  case round =>
    obtain ⟨k,hk,rfl⟩:=hrel
    by_cases hlt : k < p
    · have hks : k < s.size:=by omega
      have e1:=HE.out.no k hlt hks
      go_wp2
      go_round
      case rel => exact ⟨k + 1,by omega,by go_num⟩
      case measure => simp [RowKit.intOf];omega
    · have hkp : p = k:=by omega
      subst hkp
      go_wp2
      all_goals exact bodyPost_ret (v:=.tuple #[.agg #[.int .u8 0,tx [], .slice none 0 0], .bool false]) (by simp [results,Try.results49,go_sem, *]) rfl ⟨rfl,(by repeat (first | with_reducible exact Below.refl _ _ | with_reducible refine Below.drew ?_ | with_reducible refine Below.setCell ?_ (by first | (simp;done) | (simp;omega) | omega) _ | with_reducible refine Below.alloc ?_ (by first | exact (Below.refl _ _).size | (simp;done) | (simp;omega) | omega) _))⟩
set_option maxRecDepth 20000 in
set_option maxHeartbeats 1000000 in
theorem rt_first (s : ByteArray) (w : World) (hs : s.size ≤ 1000000) (p : Nat) (he : EqAt s p) (h1 : p < 1) (h2 : p < s.size) :
    Calls Try.prog 49 #[.string s] w fun e w' => e = .returned (.tuple #[.agg #[.int .u8 0,tx [], .slice none 0 0], .bool false]) ∧ Below w.heap.size w w':=by
  have hple:=he.le
  have HE:=hid he
  clear he
  go_enter Try.func49,Try.ntmps49
  go_wp2
  go_loop [4] (fun i => ∃ k : Nat,k ≤ p ∧ i = .int .i64 k) (fun i => s.size - (RowKit.intOf i).toNat)
  case atStart => exact ⟨0,Nat.zero_le _,rfl⟩
  case round =>
    obtain ⟨k,hk,rfl⟩:=hrel
    by_cases hlt : k < p
    · have hks : k < s.size:=by omega
      have e1:=HE.out.no k hlt hks
      go_wp2
      go_round
      case rel => exact ⟨k + 1,by omega,by go_num⟩
      case measure => simp [RowKit.intOf];omega
    · have hkp : p = k:=by omega
      subst hkp
      have e1:=HE.out.yes h2
      go_wp2
      all_goals exact bodyPost_ret (v:=.tuple #[.agg #[.int .u8 0,tx [], .slice none 0 0], .bool false]) (by simp [results,Try.results49,go_sem, *]) rfl ⟨rfl,(by repeat (first | with_reducible exact Below.refl _ _ | with_reducible refine Below.drew ?_ | with_reducible refine Below.setCell ?_ (by first | (simp;done) | (simp;omega) | omega) _ | with_reducible refine Below.alloc ?_ (by first | exact (Below.refl _ _).size | (simp;done) | (simp;omega) | omega) _))⟩
set_option maxRecDepth 20000 in
set_option maxHeartbeats 1000000 in
theorem rt_noname (s : ByteArray) (w : World) (hs : s.size ≤ 1000000) (p : Nat) (he : EqAt s p) (h1 : 1 ≤ p) (h2 : p < s.size) (a : Nat) (e0 : ∀ h,(s[0]'h).toNat = a) (hn : ∀ w,Calls Try.prog 51 #[.string (s.extract 1 p)] w fun e w' => e = .returned (.bool false) ∧ w = w') :
    Calls Try.prog 49 #[.string s] w fun e w' => e = .returned (.tuple #[.agg #[.int .u8 a, .string (s.extract 1 p), .slice none 0 0], .bool false]) ∧ Below w.heap.size w w':=by
  have hple:=he.le
  have HE:=hid he
  clear he
  have HN:=hid hn
  clear hn
  go_enter Try.func49,Try.ntmps49
  go_wp2
  go_loop [4] (fun i => ∃ k : Nat,k ≤ p ∧ i = .int .i64 k) (fun i => s.size - (RowKit.intOf i).toNat)
  case atStart => exact ⟨0,Nat.zero_le _,rfl⟩
  case round =>
    obtain ⟨k,hk,rfl⟩:=hrel
    by_cases hlt : k < p
    · have hks : k < s.size:=by omega
      have e1:=HE.out.no k hlt hks
      go_wp2
      go_round
      case rel => exact ⟨k + 1,by omega,by go_num⟩
      case measure => simp [RowKit.intOf];omega
    · have hkp : p = k:=by omega
      subst hkp
      have e1:=HE.out.yes h2
      go_wp2_with fail
      go_region
      go_wp2_with (go_at_call 51;refine (HN.out _).mono ?_;rintro e w1 ⟨rfl,rfl⟩)
      all_goals exact bodyPost_ret (v:=.tuple #[.agg #[.int .u8 a, .string (s.extract 1 p), .slice none 0 0], .bool false]) (by simp [results,Try.results49,go_sem, *]) rfl ⟨rfl,(by repeat (first | with_reducible exact Below.refl _ _ | with_reducible refine Below.drew ?_ | with_reducible refine Below.setCell ?_ (by first | (simp;done) | (simp;omega) | omega) _ | with_reducible refine Below.alloc ?_ (by first | exact (Below.refl _ _).size | (simp;done) | (simp;omega) | omega) _))⟩
set_option maxRecDepth 20000 in
set_option maxHeartbeats 1000000 in
theorem rt_nosort (s : ByteArray) (w : World) (hs : s.size ≤ 1000000) (p : Nat) (he : EqAt s p) (h1 : 1 ≤ p) (h2 : p < s.size) (a : Nat) (e0 : ∀ h,(s[0]'h).toNat = a) (hn : ∀ w,Calls Try.prog 51 #[.string (s.extract 1 p)] w fun e w' => e = .returned (.bool true) ∧ w = w') (g1 : ((a : Int) != 82) = true) (g2 : ((a : Int) != 85) = true) (g3 : ((a : Int) != 69) = true) :
    Calls Try.prog 49 #[.string s] w fun e w' => e = .returned (.tuple #[.agg #[.int .u8 a, .string (s.extract 1 p), .slice none 0 0], .bool false]) ∧ Below w.heap.size w w':=by
  have hple:=he.le
  have HE:=hid he
  clear he
  have HN:=hid hn
  clear hn
  go_enter Try.func49,Try.ntmps49
  go_wp2
  go_loop [4] (fun i => ∃ k : Nat,k ≤ p ∧ i = .int .i64 k) (fun i => s.size - (RowKit.intOf i).toNat)
  case atStart => exact ⟨0,Nat.zero_le _,rfl⟩
  case round =>
    obtain ⟨k,hk,rfl⟩:=hrel
    by_cases hlt : k < p
    · have hks : k < s.size:=by omega
      have e1:=HE.out.no k hlt hks
      go_wp2
      go_round
      case rel => exact ⟨k + 1,by omega,by go_num⟩
      case measure => simp [RowKit.intOf];omega
    · have hkp : p = k:=by omega
      subst hkp
      have e1:=HE.out.yes h2
      go_wp2_with fail
      go_region
      go_wp2_with (go_at_call 51;refine (HN.out _).mono ?_;rintro e w1 ⟨rfl,rfl⟩)
      all_goals exact bodyPost_ret (v:=.tuple #[.agg #[.int .u8 a, .string (s.extract 1 p), .slice none 0 0], .bool false]) (by simp [results,Try.results49,go_sem, *]) rfl ⟨rfl,(by repeat (first | with_reducible exact Below.refl _ _ | with_reducible refine Below.drew ?_ | with_reducible refine Below.setCell ?_ (by first | (simp;done) | (simp;omega) | omega) _ | with_reducible refine Below.alloc ?_ (by first | exact (Below.refl _ _).size | (simp;done) | (simp;omega) | omega) _))⟩
set_option maxRecDepth 20000 in
set_option maxHeartbeats 1000000 in
theorem rt_empty82 (s : ByteArray) (w : World) (hs : s.size ≤ 1000000) (p : Nat) (he : EqAt s p) (h1 : 1 ≤ p) (h2 : p < s.size) (e0 : ∀ h,(s[0]'h).toNat = 82) (hn : ∀ w,Calls Try.prog 51 #[.string (s.extract 1 p)] w fun e w' => e = .returned (.bool true) ∧ w = w') (hr : (s.extract (p + 1) s.size).toList.isEmpty = true) :
    Calls Try.prog 49 #[.string s] w fun e w' => e = .returned (.tuple #[.agg #[.int .u8 82, .string (s.extract 1 p), .slice none 0 0], .bool true]) ∧ Below w.heap.size w w':=by
  have hple:=he.le
  have HE:=hid he
  clear he
  have HN:=hid hn
  clear hn
  go_enter Try.func49,Try.ntmps49
  go_wp2
  go_loop [4] (fun i => ∃ k : Nat,k ≤ p ∧ i = .int .i64 k) (fun i => s.size - (RowKit.intOf i).toNat)
  case atStart => exact ⟨0,Nat.zero_le _,rfl⟩
  case round =>
    obtain ⟨k,hk,rfl⟩:=hrel
    by_cases hlt : k < p
    · have hks : k < s.size:=by omega
      have e1:=HE.out.no k hlt hks
      go_wp2
      go_round
      case rel => exact ⟨k + 1,by omega,by go_num⟩
      case measure => simp [RowKit.intOf];omega
    · have hkp : p = k:=by omega
      subst hkp
      have e1:=HE.out.yes h2
      go_wp2_with fail
      go_region
      go_wp2_with (go_at_call 51;refine (HN.out _).mono ?_;rintro e w1 ⟨rfl,rfl⟩)
      all_goals go_region
      all_goals go_wp2
      all_goals exact bodyPost_ret (v:=.tuple #[.agg #[.int .u8 82, .string (s.extract 1 p), .slice none 0 0], .bool true]) (by simp [results,Try.results49,go_sem, *]) rfl ⟨rfl,(by repeat (first | with_reducible exact Below.refl _ _ | with_reducible refine Below.drew ?_ | with_reducible refine Below.setCell ?_ (by first | (simp;done) | (simp;omega) | omega) _ | with_reducible refine Below.alloc ?_ (by first | exact (Below.refl _ _).size | (simp;done) | (simp;omega) | omega) _))⟩
set_option maxRecDepth 20000 in
set_option maxHeartbeats 1000000 in
theorem rt_empty85 (s : ByteArray) (w : World) (hs : s.size ≤ 1000000) (p : Nat) (he : EqAt s p) (h1 : 1 ≤ p) (h2 : p < s.size) (e0 : ∀ h,(s[0]'h).toNat = 85) (hn : ∀ w,Calls Try.prog 51 #[.string (s.extract 1 p)] w fun e w' => e = .returned (.bool true) ∧ w = w') (hr : (s.extract (p + 1) s.size).toList.isEmpty = true) :
    Calls Try.prog 49 #[.string s] w fun e w' => e = .returned (.tuple #[.agg #[.int .u8 85, .string (s.extract 1 p), .slice none 0 0], .bool false]) ∧ Below w.heap.size w w':=by
  have hple:=he.le
  have HE:=hid he
  clear he
  have HN:=hid hn
  clear hn
  go_enter Try.func49,Try.ntmps49
  go_wp2
  go_loop [4] (fun i => ∃ k : Nat,k ≤ p ∧ i = .int .i64 k) (fun i => s.size - (RowKit.intOf i).toNat)
  case atStart => exact ⟨0,Nat.zero_le _,rfl⟩
  case round =>
    obtain ⟨k,hk,rfl⟩:=hrel
    by_cases hlt : k < p
    · have hks : k < s.size:=by omega
      have e1:=HE.out.no k hlt hks
      go_wp2
      go_round
      case rel => exact ⟨k + 1,by omega,by go_num⟩
      case measure => simp [RowKit.intOf];omega
    · have hkp : p = k:=by omega
      subst hkp
      have e1:=HE.out.yes h2
      go_wp2_with fail
      go_region
      go_wp2_with (go_at_call 51;refine (HN.out _).mono ?_;rintro e w1 ⟨rfl,rfl⟩)
      all_goals go_region
      all_goals go_wp2
      all_goals exact bodyPost_ret (v:=.tuple #[.agg #[.int .u8 85, .string (s.extract 1 p), .slice none 0 0], .bool false]) (by simp [results,Try.results49,go_sem, *]) rfl ⟨rfl,(by repeat (first | with_reducible exact Below.refl _ _ | with_reducible refine Below.drew ?_ | with_reducible refine Below.setCell ?_ (by first | (simp;done) | (simp;omega) | omega) _ | with_reducible refine Below.alloc ?_ (by first | exact (Below.refl _ _).size | (simp;done) | (simp;omega) | omega) _))⟩
set_option maxRecDepth 20000 in
set_option maxHeartbeats 1000000 in
theorem rt_empty69 (s : ByteArray) (w : World) (hs : s.size ≤ 1000000) (p : Nat) (he : EqAt s p) (h1 : 1 ≤ p) (h2 : p < s.size) (e0 : ∀ h,(s[0]'h).toNat = 69) (hn : ∀ w,Calls Try.prog 51 #[.string (s.extract 1 p)] w fun e w' => e = .returned (.bool true) ∧ w = w') (hr : (s.extract (p + 1) s.size).toList.isEmpty = true) :
    Calls Try.prog 49 #[.string s] w fun e w' => e = .returned (.tuple #[.agg #[.int .u8 69, .string (s.extract 1 p), .slice none 0 0], .bool false]) ∧ Below w.heap.size w w':=by
  have hple:=he.le
  have HE:=hid he
  clear he
  have HN:=hid hn
  clear hn
  go_enter Try.func49,Try.ntmps49
  go_wp2
  go_loop [4] (fun i => ∃ k : Nat,k ≤ p ∧ i = .int .i64 k) (fun i => s.size - (RowKit.intOf i).toNat)
  case atStart => exact ⟨0,Nat.zero_le _,rfl⟩
  case round =>
    obtain ⟨k,hk,rfl⟩:=hrel
    by_cases hlt : k < p
    · have hks : k < s.size:=by omega
      have e1:=HE.out.no k hlt hks
      go_wp2
      go_round
      case rel => exact ⟨k + 1,by omega,by go_num⟩
      case measure => simp [RowKit.intOf];omega
    · have hkp : p = k:=by omega
      subst hkp
      have e1:=HE.out.yes h2
      go_wp2_with fail
      go_region
      go_wp2_with (go_at_call 51;refine (HN.out _).mono ?_;rintro e w1 ⟨rfl,rfl⟩)
      all_goals go_region
      all_goals go_wp2
      all_goals exact bodyPost_ret (v:=.tuple #[.agg #[.int .u8 69, .string (s.extract 1 p), .slice none 0 0], .bool false]) (by simp [results,Try.results49,go_sem, *]) rfl ⟨rfl,(by repeat (first | with_reducible exact Below.refl _ _ | with_reducible refine Below.drew ?_ | with_reducible refine Below.setCell ?_ (by first | (simp;done) | (simp;omega) | omega) _ | with_reducible refine Below.alloc ?_ (by first | exact (Below.refl _ _).size | (simp;done) | (simp;omega) | omega) _))⟩
end Go.Proofs.Ytidjpalnmnehmaa
