/- Packed by pack.py: Hb Ua Gq Gr Ha. -/
import Derived.Shelf.Strings.SlTrimAscii
import Derived.Shelf.Strings.Prefix
import Derived.Shelf.Strings.Cut
import Derived.Shelf.Strings.Search3
import Derived.Shelf.Strings.Split
import Derived.Shelf.Strings.SplitShaped
import Derived.Shelf.Strings.Shaped
import Derived.Shelf.Small.Wraps
import Derived.Shelf.Strings.OnBuilder
import Derived.WalkKit
import Derived.Lib.UnsafeStr
import Derived.Lib.Hide
import Derived.ProofKit
import Derived.OpenShut
import Derived.BigQuiet
import Derived.WalkSpells
import Derived.KernelRfl
import Derived.Below
import Derived.Lib.SlTrimSet
import Derived.Deep.QuietTactic
import Derived.Deep.RegionWith
import Derived.Deep.RegionHeld3
import Derived.IntWalk
import Derived.Deep.DeepCutAuto
import Derived.Lib.Split
import Derived.Lib.IndexMore
import Derived.Lib.CountLaws
import Derived.Lib.SplitLaws
import Derived.Deep.AppendLies
import Derived.Deep.RegionLaw
import Derived.Maps.Own
import Derived.Maps.OwnOps
import Derived.Maps.OwnSet
import Derived.Maps.Views
import Derived.StringKeys
import Derived.Maps.AppendAt
import Derived.Deep.CutRange
import Derived.Deep.RegionHeldLaw
import Derived.WalkSmall
import Derived.Lib.PathFns
import Derived.Deep.WholeRow
import Derived.Test.YtidjpalnmnehmaaRows
import Derived.Test.YtidjpalnmnehmaaF0
import Derived.Test.YtidjpalnmnehmaaF1
import Derived.Test.YtidjpalnmnehmaaF2
import Derived.Test.YtidjpalnmnehmaaF3
import Derived.Test.YtidjpalnmnehmaaF4
import Derived.Test.YtidjpalnmnehmaaF5
import Derived.Test.YtidjpalnmnehmaaF6
import Derived.Test.YtidjpalnmnehmaaF7
import Derived.Test.YtidjpalnmnehmaaF8
import Derived.Test.YtidjpalnmnehmaaF9
import Derived.Test.YtidjpalnmnehmaaF10
import Derived.Test.YtidjpalnmnehmaaF11
import Derived.Test.YtidjpalnmnehmaaF12
import Derived.Test.YtidjpalnmnehmaaF13
import Derived.Test.YtidjpalnmnehmaaF14
import Derived.Test.YtidjpalnmnehmaaF15
import Derived.Test.YtidjpalnmnehmaaF16
import Derived.Test.YtidjpalnmnehmaaF17
import Derived.Test.YtidjpalnmnehmaaF18
import Derived.Test.YtidjpalnmnehmaaF19
import Derived.Test.YtidjpalnmnehmaaF20
import Derived.Test.YtidjpalnmnehmaaF21
import Derived.Test.YtidjpalnmnehmaaF22
import Derived.Test.YtidjpalnmnehmaaF23
import Derived.Test.YtidjpalnmnehmaaF24
import Derived.Test.YtidjpalnmnehmaaF26
namespace Go.Proofs.Ytidjpalnmnehmaa
open Go.ChangeShapes Go.WideShapes Go.ChangeAt Go.RowKit Go.Lib Go.Lib.Pa
set_option linter.unusedSimpArgs false
set_option maxRecDepth 20000 in
theorem ngi_e0 (s : ByteArray) (w : World) (_hl : s.size ≤ 9223372036854775807) (h0 : s.size = 0) :
    Calls Try.prog 17 #[.string s] w fun e w' => e = .returned (.tuple #[.int .i64 0, .string ⟨#[]⟩, .bool false]) ∧ ∃ n,w' = w.drewN n:=by
  go_enter Try.func17,Try.ntmps17
  go_wp2
  refine wp_loop_rounds 4 ?_
  rw [rounds_succ]
  go_wp2
  all_goals go_ret3
  all_goals exact ⟨rfl,0,rfl⟩
set_option maxRecDepth 20000 in
theorem ngi_y0 (s : ByteArray) (w : World) (_hl : s.size ≤ 9223372036854775807) (h1 : 1 ≤ s.size) (a : Nat) (e0 : ∀ h,(s[0]'h).toNat = a) (ha : a < 128) :
    Calls Try.prog 17 #[.string s] w fun e w' => e = .returned (.tuple #[.int .i64 ((a : Int) % 128), .string (s.extract 1 s.size), .bool true]) ∧ ∃ n,w' = w.drewN n:=by
  go_enter Try.func17,Try.ntmps17
  go_wp2
  refine wp_loop_rounds 4 ?_
  rw [rounds_succ]
  go_wp2
  go_region
  go_wp2
  all_goals go_ret3
  all_goals exact ⟨rfl,1,rfl⟩
set_option maxRecDepth 20000 in
theorem ngi_e1 (s : ByteArray) (w : World) (_hl : s.size ≤ 9223372036854775807) (h1 : s.size = 1) (a : Nat) (e0 : ∀ h,(s[0]'h).toNat = a) (ha : 128 ≤ a) (ha2 : a < 256) :
    Calls Try.prog 17 #[.string s] w fun e w' => e = .returned (.tuple #[.int .i64 0, .string ⟨#[]⟩, .bool false]) ∧ ∃ n,w' = w.drewN n:=by
  go_enter Try.func17,Try.ntmps17
  go_wp2
  refine wp_loop_rounds 4 ?_
  rw [rounds_succ]
  go_wp2
  rw [rounds_succ]
  go_wp2
  all_goals go_ret3
  all_goals exact ⟨rfl,0,rfl⟩
set_option maxRecDepth 20000 in
theorem ngi_z1 (s : ByteArray) (w : World) (_hl : s.size ≤ 9223372036854775807) (h2 : 2 ≤ s.size) (a : Nat) (e0 : ∀ h,(s[0]'h).toNat = a) (ha : 128 ≤ a) (ha2 : a < 256) (e1 : ∀ h,(s[1]'h).toNat = 0) :
    Calls Try.prog 17 #[.string s] w fun e w' => e = .returned (.tuple #[.int .i64 0, .string ⟨#[]⟩, .bool false]) ∧ ∃ n,w' = w.drewN n:=by
  go_enter Try.func17,Try.ntmps17
  go_wp2
  refine wp_loop_rounds 4 ?_
  rw [rounds_succ]
  go_wp2
  rw [rounds_succ]
  go_wp2
  all_goals go_ret3
  all_goals exact ⟨rfl,0,rfl⟩
set_option maxRecDepth 20000 in
theorem ngi_y1 (s : ByteArray) (w : World) (_hl : s.size ≤ 9223372036854775807) (h2 : 2 ≤ s.size) (a : Nat) (e0 : ∀ h,(s[0]'h).toNat = a) (ha : 128 ≤ a) (ha2 : a < 256) (b : Nat) (e1 : ∀ h,(s[1]'h).toNat = b) (hb : b < 128) (hb0 : 0 < b) :
    Calls Try.prog 17 #[.string s] w fun e w' => e = .returned (.tuple #[.int .i64 ((a : Int) % 128 + (b : Int) % 128 * 128), .string (s.extract 2 s.size), .bool true]) ∧ ∃ n,w' = w.drewN n:=by
  have hq : ((b : Int) == 0) = false:=by rw [beq_eq_false_iff_ne];omega
  go_enter Try.func17,Try.ntmps17
  go_wp2
  refine wp_loop_rounds 4 ?_
  rw [rounds_succ]
  go_wp2
  rw [rounds_succ]
  go_wp2
  go_region
  go_wp2
  all_goals go_ret3
  all_goals exact ⟨rfl,1,rfl⟩
set_option maxRecDepth 20000 in
theorem ngi_e2 (s : ByteArray) (w : World) (_hl : s.size ≤ 9223372036854775807) (h2 : s.size = 2) (a : Nat) (e0 : ∀ h,(s[0]'h).toNat = a) (ha : 128 ≤ a) (ha2 : a < 256) (b : Nat) (e1 : ∀ h,(s[1]'h).toNat = b) (hb : 128 ≤ b) (hb2 : b < 256) :
    Calls Try.prog 17 #[.string s] w fun e w' => e = .returned (.tuple #[.int .i64 0, .string ⟨#[]⟩, .bool false]) ∧ ∃ n,w' = w.drewN n:=by
  go_enter Try.func17,Try.ntmps17
  go_wp2
  refine wp_loop_rounds 4 ?_
  rw [rounds_succ]
  go_wp2
  rw [rounds_succ]
  go_wp2
  rw [rounds_succ]
  go_wp2
  all_goals go_ret3
  all_goals exact ⟨rfl,0,rfl⟩
set_option maxRecDepth 20000 in
theorem ngi_z2 (s : ByteArray) (w : World) (_hl : s.size ≤ 9223372036854775807) (h2 : 3 ≤ s.size) (a : Nat) (e0 : ∀ h,(s[0]'h).toNat = a) (ha : 128 ≤ a) (ha2 : a < 256) (b : Nat) (e1 : ∀ h,(s[1]'h).toNat = b) (hb : 128 ≤ b) (hb2 : b < 256) (e2 : ∀ h,(s[2]'h).toNat = 0) :
    Calls Try.prog 17 #[.string s] w fun e w' => e = .returned (.tuple #[.int .i64 0, .string ⟨#[]⟩, .bool false]) ∧ ∃ n,w' = w.drewN n:=by
  go_enter Try.func17,Try.ntmps17
  go_wp2
  refine wp_loop_rounds 4 ?_
  rw [rounds_succ]
  go_wp2
  rw [rounds_succ]
  go_wp2
  rw [rounds_succ]
  go_wp2
  all_goals go_ret3
  all_goals exact ⟨rfl,0,rfl⟩
set_option maxRecDepth 20000 in
theorem ngi_b2 (s : ByteArray) (w : World) (_hl : s.size ≤ 9223372036854775807) (h2 : 3 ≤ s.size) (a : Nat) (e0 : ∀ h,(s[0]'h).toNat = a) (ha : 128 ≤ a) (ha2 : a < 256) (b : Nat) (e1 : ∀ h,(s[1]'h).toNat = b) (hb : 128 ≤ b) (hb2 : b < 256) (c : Nat) (e2 : ∀ h,(s[2]'h).toNat = c) (hc : c < 128) (hc0 : 0 < c) (hbig : 999999 < (a : Int) % 128 + (b : Int) % 128 * 128 + (c : Int) % 128 * 16384) :
    Calls Try.prog 17 #[.string s] w fun e w' => e = .returned (.tuple #[.int .i64 0, .string ⟨#[]⟩, .bool false]) ∧ ∃ n,w' = w.drewN n:=by
  have hq : ((c : Int) == 0) = false:=by rw [beq_eq_false_iff_ne];omega
  go_enter Try.func17,Try.ntmps17
  go_wp2
  refine wp_loop_rounds 4 ?_
  rw [rounds_succ]
  go_wp2
  rw [rounds_succ]
  go_wp2
  rw [rounds_succ]
  go_wp2
  all_goals go_ret3
  all_goals exact ⟨rfl,0,rfl⟩
set_option maxRecDepth 20000 in
theorem ngi_y2 (s : ByteArray) (w : World) (_hl : s.size ≤ 9223372036854775807) (h2 : 3 ≤ s.size) (a : Nat) (e0 : ∀ h,(s[0]'h).toNat = a) (ha : 128 ≤ a) (ha2 : a < 256) (b : Nat) (e1 : ∀ h,(s[1]'h).toNat = b) (hb : 128 ≤ b) (hb2 : b < 256) (c : Nat) (e2 : ∀ h,(s[2]'h).toNat = c) (hc : c < 128) (hc0 : 0 < c) (hbig : (a : Int) % 128 + (b : Int) % 128 * 128 + (c : Int) % 128 * 16384 ≤ 999999) :
    Calls Try.prog 17 #[.string s] w fun e w' => e = .returned (.tuple #[.int .i64 ((a : Int) % 128 + (b : Int) % 128 * 128 + (c : Int) % 128 * 16384), .string (s.extract 3 s.size), .bool true]) ∧ ∃ n,w' = w.drewN n:=by
  have hq : ((c : Int) == 0) = false:=by rw [beq_eq_false_iff_ne];omega
  go_enter Try.func17,Try.ntmps17
  go_wp2
  refine wp_loop_rounds 4 ?_
  rw [rounds_succ]
  go_wp2
  rw [rounds_succ]
  go_wp2
  rw [rounds_succ]
  go_wp2
  go_region
  go_wp2
  all_goals go_ret3
  all_goals exact ⟨rfl,1,rfl⟩
set_option maxRecDepth 20000 in
theorem ngi_e3 (s : ByteArray) (w : World) (_hl : s.size ≤ 9223372036854775807) (h2 : 3 ≤ s.size) (a : Nat) (e0 : ∀ h,(s[0]'h).toNat = a) (ha : 128 ≤ a) (ha2 : a < 256) (b : Nat) (e1 : ∀ h,(s[1]'h).toNat = b) (hb : 128 ≤ b) (hb2 : b < 256) (c : Nat) (e2 : ∀ h,(s[2]'h).toNat = c) (hc : 128 ≤ c) (hc2 : c < 256) :
    Calls Try.prog 17 #[.string s] w fun e w' => e = .returned (.tuple #[.int .i64 0, .string ⟨#[]⟩, .bool false]) ∧ ∃ n,w' = w.drewN n:=by
  go_enter Try.func17,Try.ntmps17
  go_wp2
  refine wp_loop_rounds 4 ?_
  rw [rounds_succ]
  go_wp2
  rw [rounds_succ]
  go_wp2
  rw [rounds_succ]
  go_wp2
  rw [rounds_succ]
  go_wp2
  all_goals go_ret3
  all_goals exact ⟨rfl,0,rfl⟩
set_option maxRecDepth 20000 in
theorem ngs_e0 (s : ByteArray) (w : World) (_hl : s.size ≤ 9223372036854775807) (h0 : s.size = 0) :
    Calls Try.prog 18 #[.string s] w fun e w' => e = .returned (.tuple #[.int .i64 0, .string ⟨#[]⟩, .bool false]) ∧ ∃ n,w' = w.drewN n:=by
  go_enter Try.func18,Try.ntmps18
  go_wp2
  refine wp_loop_rounds 4 ?_
  rw [rounds_succ]
  go_wp2
  all_goals go_ret3
  all_goals exact ⟨rfl,0,rfl⟩
set_option maxRecDepth 20000 in
theorem ngs_y0 (s : ByteArray) (w : World) (_hl : s.size ≤ 9223372036854775807) (h1 : 1 ≤ s.size) (a : Nat) (e0 : ∀ h,(s[0]'h).toNat = a) (ha : a < 128) :
    Calls Try.prog 18 #[.string s] w fun e w' => e = .returned (.tuple #[.int .i64 ((a : Int) % 128), .string (s.extract 1 s.size), .bool true]) ∧ ∃ n,w' = w.drewN n:=by
  go_enter Try.func18,Try.ntmps18
  go_wp2
  refine wp_loop_rounds 4 ?_
  rw [rounds_succ]
  go_wp2
  go_region
  go_wp2
  all_goals go_ret3
  all_goals exact ⟨rfl,1,rfl⟩
set_option maxRecDepth 20000 in
theorem ngs_e1 (s : ByteArray) (w : World) (_hl : s.size ≤ 9223372036854775807) (h1 : s.size = 1) (a : Nat) (e0 : ∀ h,(s[0]'h).toNat = a) (ha : 128 ≤ a) (ha2 : a < 256) :
    Calls Try.prog 18 #[.string s] w fun e w' => e = .returned (.tuple #[.int .i64 0, .string ⟨#[]⟩, .bool false]) ∧ ∃ n,w' = w.drewN n:=by
  go_enter Try.func18,Try.ntmps18
  go_wp2
  refine wp_loop_rounds 4 ?_
  rw [rounds_succ]
  go_wp2
  rw [rounds_succ]
  go_wp2
  all_goals go_ret3
  all_goals exact ⟨rfl,0,rfl⟩
set_option maxRecDepth 20000 in
theorem ngs_z1 (s : ByteArray) (w : World) (_hl : s.size ≤ 9223372036854775807) (h2 : 2 ≤ s.size) (a : Nat) (e0 : ∀ h,(s[0]'h).toNat = a) (ha : 128 ≤ a) (ha2 : a < 256) (e1 : ∀ h,(s[1]'h).toNat = 0) :
    Calls Try.prog 18 #[.string s] w fun e w' => e = .returned (.tuple #[.int .i64 0, .string ⟨#[]⟩, .bool false]) ∧ ∃ n,w' = w.drewN n:=by
  go_enter Try.func18,Try.ntmps18
  go_wp2
  refine wp_loop_rounds 4 ?_
  rw [rounds_succ]
  go_wp2
  rw [rounds_succ]
  go_wp2
  all_goals go_ret3
  all_goals exact ⟨rfl,0,rfl⟩
set_option maxRecDepth 20000 in
theorem ngs_y1 (s : ByteArray) (w : World) (_hl : s.size ≤ 9223372036854775807) (h2 : 2 ≤ s.size) (a : Nat) (e0 : ∀ h,(s[0]'h).toNat = a) (ha : 128 ≤ a) (ha2 : a < 256) (b : Nat) (e1 : ∀ h,(s[1]'h).toNat = b) (hb : b < 128) (hb0 : 0 < b) :
    Calls Try.prog 18 #[.string s] w fun e w' => e = .returned (.tuple #[.int .i64 ((a : Int) % 128 + (b : Int) % 128 * 128), .string (s.extract 2 s.size), .bool true]) ∧ ∃ n,w' = w.drewN n:=by
  have hq : ((b : Int) == 0) = false:=by rw [beq_eq_false_iff_ne];omega
  go_enter Try.func18,Try.ntmps18
  go_wp2
  refine wp_loop_rounds 4 ?_
  rw [rounds_succ]
  go_wp2
  rw [rounds_succ]
  go_wp2
  go_region
  go_wp2
  all_goals go_ret3
  all_goals exact ⟨rfl,1,rfl⟩
set_option maxRecDepth 20000 in
theorem ngs_e2 (s : ByteArray) (w : World) (_hl : s.size ≤ 9223372036854775807) (h2 : s.size = 2) (a : Nat) (e0 : ∀ h,(s[0]'h).toNat = a) (ha : 128 ≤ a) (ha2 : a < 256) (b : Nat) (e1 : ∀ h,(s[1]'h).toNat = b) (hb : 128 ≤ b) (hb2 : b < 256) :
    Calls Try.prog 18 #[.string s] w fun e w' => e = .returned (.tuple #[.int .i64 0, .string ⟨#[]⟩, .bool false]) ∧ ∃ n,w' = w.drewN n:=by
  go_enter Try.func18,Try.ntmps18
  go_wp2
  refine wp_loop_rounds 4 ?_
  rw [rounds_succ]
  go_wp2
  rw [rounds_succ]
  go_wp2
  rw [rounds_succ]
  go_wp2
  all_goals go_ret3
  all_goals exact ⟨rfl,0,rfl⟩
set_option maxRecDepth 20000 in
theorem ngs_z2 (s : ByteArray) (w : World) (_hl : s.size ≤ 9223372036854775807) (h2 : 3 ≤ s.size) (a : Nat) (e0 : ∀ h,(s[0]'h).toNat = a) (ha : 128 ≤ a) (ha2 : a < 256) (b : Nat) (e1 : ∀ h,(s[1]'h).toNat = b) (hb : 128 ≤ b) (hb2 : b < 256) (e2 : ∀ h,(s[2]'h).toNat = 0) :
    Calls Try.prog 18 #[.string s] w fun e w' => e = .returned (.tuple #[.int .i64 0, .string ⟨#[]⟩, .bool false]) ∧ ∃ n,w' = w.drewN n:=by
  go_enter Try.func18,Try.ntmps18
  go_wp2
  refine wp_loop_rounds 4 ?_
  rw [rounds_succ]
  go_wp2
  rw [rounds_succ]
  go_wp2
  rw [rounds_succ]
  go_wp2
  all_goals go_ret3
  all_goals exact ⟨rfl,0,rfl⟩
set_option maxRecDepth 20000 in
theorem ngs_b2 (s : ByteArray) (w : World) (_hl : s.size ≤ 9223372036854775807) (h2 : 3 ≤ s.size) (a : Nat) (e0 : ∀ h,(s[0]'h).toNat = a) (ha : 128 ≤ a) (ha2 : a < 256) (b : Nat) (e1 : ∀ h,(s[1]'h).toNat = b) (hb : 128 ≤ b) (hb2 : b < 256) (c : Nat) (e2 : ∀ h,(s[2]'h).toNat = c) (hc : c < 128) (hc0 : 0 < c) (hbig : 999999 < (a : Int) % 128 + (b : Int) % 128 * 128 + (c : Int) % 128 * 16384) :
    Calls Try.prog 18 #[.string s] w fun e w' => e = .returned (.tuple #[.int .i64 0, .string ⟨#[]⟩, .bool false]) ∧ ∃ n,w' = w.drewN n:=by
  have hq : ((c : Int) == 0) = false:=by rw [beq_eq_false_iff_ne];omega
  go_enter Try.func18,Try.ntmps18
  go_wp2
  refine wp_loop_rounds 4 ?_
  rw [rounds_succ]
  go_wp2
  rw [rounds_succ]
  go_wp2
  rw [rounds_succ]
  go_wp2
  all_goals go_ret3
  all_goals exact ⟨rfl,0,rfl⟩
set_option maxRecDepth 20000 in
theorem ngs_y2 (s : ByteArray) (w : World) (_hl : s.size ≤ 9223372036854775807) (h2 : 3 ≤ s.size) (a : Nat) (e0 : ∀ h,(s[0]'h).toNat = a) (ha : 128 ≤ a) (ha2 : a < 256) (b : Nat) (e1 : ∀ h,(s[1]'h).toNat = b) (hb : 128 ≤ b) (hb2 : b < 256) (c : Nat) (e2 : ∀ h,(s[2]'h).toNat = c) (hc : c < 128) (hc0 : 0 < c) (hbig : (a : Int) % 128 + (b : Int) % 128 * 128 + (c : Int) % 128 * 16384 ≤ 999999) :
    Calls Try.prog 18 #[.string s] w fun e w' => e = .returned (.tuple #[.int .i64 ((a : Int) % 128 + (b : Int) % 128 * 128 + (c : Int) % 128 * 16384), .string (s.extract 3 s.size), .bool true]) ∧ ∃ n,w' = w.drewN n:=by
  have hq : ((c : Int) == 0) = false:=by rw [beq_eq_false_iff_ne];omega
  go_enter Try.func18,Try.ntmps18
  go_wp2
  refine wp_loop_rounds 4 ?_
  rw [rounds_succ]
  go_wp2
  rw [rounds_succ]
  go_wp2
  rw [rounds_succ]
  go_wp2
  go_region
  go_wp2
  all_goals go_ret3
  all_goals exact ⟨rfl,1,rfl⟩
set_option maxRecDepth 20000 in
theorem ngs_e3 (s : ByteArray) (w : World) (_hl : s.size ≤ 9223372036854775807) (h2 : 3 ≤ s.size) (a : Nat) (e0 : ∀ h,(s[0]'h).toNat = a) (ha : 128 ≤ a) (ha2 : a < 256) (b : Nat) (e1 : ∀ h,(s[1]'h).toNat = b) (hb : 128 ≤ b) (hb2 : b < 256) (c : Nat) (e2 : ∀ h,(s[2]'h).toNat = c) (hc : 128 ≤ c) (hc2 : c < 256) :
    Calls Try.prog 18 #[.string s] w fun e w' => e = .returned (.tuple #[.int .i64 0, .string ⟨#[]⟩, .bool false]) ∧ ∃ n,w' = w.drewN n:=by
  go_enter Try.func18,Try.ntmps18
  go_wp2
  refine wp_loop_rounds 4 ?_
  rw [rounds_succ]
  go_wp2
  rw [rounds_succ]
  go_wp2
  rw [rounds_succ]
  go_wp2
  rw [rounds_succ]
  go_wp2
  all_goals go_ret3
  all_goals exact ⟨rfl,0,rfl⟩
def getNV (o : Option (Nat × Wf.Bs)) : Value :=
  match o with
  | none => .tuple #[.int .i64 0, .string ⟨#[]⟩, .bool false]
  | some (n,r) => .tuple #[.int .i64 (n : Int), .string ⟨r.toArray⟩, .bool true]
theorem ret3 {a b : Int} {s t : ByteArray} {x y : Bool} (h1 : a = b) (h2 : s = t) (h3 : x = y) : Ending.returned (.tuple #[.int .i64 a, .string s, .bool x]) = .returned (.tuple #[.int .i64 b, .string t, .bool y]):=by rw [h1,h2,h3]
theorem byte_fact {s : ByteArray} {l : List UInt8} (hs : s.data.toList = l) {i : Nat} {c : UInt8} (hc : l[i]? = some c) : ∀ h : i < s.size,(s[i]'h).toNat = c.toNat:=by
  intro h
  subst hs
  have : s.data.toList[i]? = some (s[i]'h):=by
    rw [Array.getElem?_toList,Array.getElem?_eq_getElem (by exact h)];rfl
  rw [this] at hc
  simp only [Option.some.injEq] at hc
  rw [hc]
theorem numGet_impl (s : ByteArray) (w : World) (hl : s.size ≤ 9223372036854775807) :
    Calls Try.prog 17 #[.string s] w fun e w' => e = .returned (getNV (Wf.getN s.data.toList)) ∧ ∃ n,w' = w.drewN n:=by
  obtain ⟨l,hs⟩ : ∃ l,s.data.toList = l:=⟨_,rfl⟩
  have hsz : s.size = l.length:=by rw [← hs];exact Array.length_toList.symm
  rw [hs]
  match l with
  | [] => exact ngi_e0 s w hl (by simpa using hsz)
  | a :: r =>
    simp only [List.length_cons] at hsz
    have e0:=byte_fact hs (i:=0) (c:=a) rfl
    have ha:=a.toNat_lt
    by_cases h1 : a.toNat < 128
    · have hg : Wf.getN (a :: r) = some (a.toNat,r):=by simp [Wf.getN,h1]
      rw [hg]
      refine (ngi_y0 s w hl (by omega) _ e0 h1).mono fun e w' ⟨he,hw⟩ => ⟨?_,hw⟩
      rw [he,Go.Lib.Pa.extract_from,hs]
      exact ret3 (by omega) rfl rfl
    · match r with
      | [] =>
        have hg : Wf.getN [a] = none:=by simp [Wf.getN,h1]
        rw [hg]
        exact ngi_e1 s w hl (by simpa using hsz) _ e0 (by omega) ha
      | b :: r2 =>
        simp only [List.length_cons] at hsz
        have e1:=byte_fact hs (i:=1) (c:=b) rfl
        have hb:=b.toNat_lt
        by_cases h2 : b.toNat < 128
        · by_cases h3 : b.toNat = 0
          · have hg : Wf.getN (a :: b :: r2) = none:=by simp [Wf.getN,h1,h3]
            rw [hg]
            rw [h3] at e1
            exact ngi_z1 s w hl (by omega) _ e0 (by omega) ha e1
          · have hg : Wf.getN (a :: b :: r2) = some (a.toNat % 128 + b.toNat * 128,r2):=by simp [Wf.getN,h1,h2,h3]
            rw [hg]
            refine (ngi_y1 s w hl (by omega) _ e0 (by omega) ha _ e1 h2 (by omega)).mono fun e w' ⟨he,hw⟩ => ⟨?_,hw⟩
            rw [he,Go.Lib.Pa.extract_from,hs]
            exact ret3 (by omega) rfl rfl
        · match r2 with
          | [] =>
            have hg : Wf.getN [a,b] = none:=by simp [Wf.getN,h1,h2]
            rw [hg]
            exact ngi_e2 s w hl (by simpa using hsz) _ e0 (by omega) ha _ e1 (by omega) hb
          | c :: r3 =>
            simp only [List.length_cons] at hsz
            have e2:=byte_fact hs (i:=2) (c:=c) rfl
            have hc:=c.toNat_lt
            by_cases h4 : c.toNat < 128
            · by_cases h5 : c.toNat = 0
              · have hg : Wf.getN (a :: b :: c :: r3) = none:=by simp [Wf.getN,h1,h2,h4,h5]
                rw [hg]
                rw [h5] at e2
                exact ngi_z2 s w hl (by omega) _ e0 (by omega) ha _ e1 (by omega) hb e2
              · by_cases h6 : 999999 < a.toNat % 128 + b.toNat % 128 * 128 + c.toNat * 16384
                · have hg : Wf.getN (a :: b :: c :: r3) = none:=by simp only [Wf.getN,if_neg h1,if_neg h2,if_pos h4];rw [if_pos (.inr h6)]
                  rw [hg]
                  exact ngi_b2 s w hl (by omega) _ e0 (by omega) ha _ e1 (by omega) hb _ e2 h4 (by omega) (by omega)
                · have hg : Wf.getN (a :: b :: c :: r3) = some (a.toNat % 128 + b.toNat % 128 * 128 + c.toNat * 16384,r3):=by simp only [Wf.getN,if_neg h1,if_neg h2,if_pos h4];rw [if_neg (by omega)]
                  rw [hg]
                  refine (ngi_y2 s w hl (by omega) _ e0 (by omega) ha _ e1 (by omega) hb _ e2 h4 (by omega) (by omega)).mono fun e w' ⟨he,hw⟩ => ⟨?_,hw⟩
                  rw [he,Go.Lib.Pa.extract_from,hs]
                  exact ret3 (by omega) rfl rfl
            · have hg : Wf.getN (a :: b :: c :: r3) = none:=by simp [Wf.getN,h1,h2,h4]
              rw [hg]
              exact ngi_e3 s w hl (by omega) _ e0 (by omega) ha _ e1 (by omega) hb _ e2 (by omega) hc
theorem numGet_spec (s : ByteArray) (w : World) (hl : s.size ≤ 9223372036854775807) :
    Calls Try.prog 18 #[.string s] w fun e w' => e = .returned (getNV (Wf.getN s.data.toList)) ∧ ∃ n,w' = w.drewN n:=by
  obtain ⟨l,hs⟩ : ∃ l,s.data.toList = l:=⟨_,rfl⟩
  have hsz : s.size = l.length:=by rw [← hs];exact Array.length_toList.symm
  rw [hs]
  match l with
  | [] => exact ngs_e0 s w hl (by simpa using hsz)
  | a :: r =>
    simp only [List.length_cons] at hsz
    have e0:=byte_fact hs (i:=0) (c:=a) rfl
    have ha:=a.toNat_lt
    by_cases h1 : a.toNat < 128
    · have hg : Wf.getN (a :: r) = some (a.toNat,r):=by simp [Wf.getN,h1]
      rw [hg]
      refine (ngs_y0 s w hl (by omega) _ e0 h1).mono fun e w' ⟨he,hw⟩ => ⟨?_,hw⟩
      rw [he,Go.Lib.Pa.extract_from,hs]
      exact ret3 (by omega) rfl rfl
    · match r with
      | [] =>
        have hg : Wf.getN [a] = none:=by simp [Wf.getN,h1]
        rw [hg]
        exact ngs_e1 s w hl (by simpa using hsz) _ e0 (by omega) ha
      | b :: r2 =>
        simp only [List.length_cons] at hsz
        have e1:=byte_fact hs (i:=1) (c:=b) rfl
        have hb:=b.toNat_lt
        by_cases h2 : b.toNat < 128
        · by_cases h3 : b.toNat = 0
          · have hg : Wf.getN (a :: b :: r2) = none:=by simp [Wf.getN,h1,h3]
            rw [hg]
            rw [h3] at e1
            exact ngs_z1 s w hl (by omega) _ e0 (by omega) ha e1
          · have hg : Wf.getN (a :: b :: r2) = some (a.toNat % 128 + b.toNat * 128,r2):=by simp [Wf.getN,h1,h2,h3]
            rw [hg]
            refine (ngs_y1 s w hl (by omega) _ e0 (by omega) ha _ e1 h2 (by omega)).mono fun e w' ⟨he,hw⟩ => ⟨?_,hw⟩
            rw [he,Go.Lib.Pa.extract_from,hs]
            exact ret3 (by omega) rfl rfl
        · match r2 with
          | [] =>
            have hg : Wf.getN [a,b] = none:=by simp [Wf.getN,h1,h2]
            rw [hg]
            exact ngs_e2 s w hl (by simpa using hsz) _ e0 (by omega) ha _ e1 (by omega) hb
          | c :: r3 =>
            simp only [List.length_cons] at hsz
            have e2:=byte_fact hs (i:=2) (c:=c) rfl
            have hc:=c.toNat_lt
            by_cases h4 : c.toNat < 128
            · by_cases h5 : c.toNat = 0
              · have hg : Wf.getN (a :: b :: c :: r3) = none:=by simp [Wf.getN,h1,h2,h4,h5]
                rw [hg]
                rw [h5] at e2
                exact ngs_z2 s w hl (by omega) _ e0 (by omega) ha _ e1 (by omega) hb e2
              · by_cases h6 : 999999 < a.toNat % 128 + b.toNat % 128 * 128 + c.toNat * 16384
                · have hg : Wf.getN (a :: b :: c :: r3) = none:=by simp only [Wf.getN,if_neg h1,if_neg h2,if_pos h4];rw [if_pos (.inr h6)]
                  rw [hg]
                  exact ngs_b2 s w hl (by omega) _ e0 (by omega) ha _ e1 (by omega) hb _ e2 h4 (by omega) (by omega)
                · have hg : Wf.getN (a :: b :: c :: r3) = some (a.toNat % 128 + b.toNat % 128 * 128 + c.toNat * 16384,r3):=by simp only [Wf.getN,if_neg h1,if_neg h2,if_pos h4];rw [if_neg (by omega)]
                  rw [hg]
                  refine (ngs_y2 s w hl (by omega) _ e0 (by omega) ha _ e1 (by omega) hb _ e2 h4 (by omega) (by omega)).mono fun e w' ⟨he,hw⟩ => ⟨?_,hw⟩
                  rw [he,Go.Lib.Pa.extract_from,hs]
                  exact ret3 (by omega) rfl rfl
            · have hg : Wf.getN (a :: b :: c :: r3) = none:=by simp [Wf.getN,h1,h2,h4]
              rw [hg]
              exact ngs_e3 s w hl (by omega) _ e0 (by omega) ha _ e1 (by omega) hb _ e2 (by omega) hc
end Go.Proofs.Ytidjpalnmnehmaa

namespace Go.Proofs.Ytidjpalnmnehmaa
open Go.ChangeShapes Go.WideShapes Go.ChangeAt Go.RowKit Go.Lib
set_option linter.unusedVariables false
set_option linter.unusedSimpArgs false
def tkV : Option (List UInt8 × List UInt8) → Value
  | some y => .tuple #[tx y.1,tx y.2, .bool true]
  | none => .tuple #[.string ⟨#[]⟩, .string ⟨#[]⟩, .bool false]
theorem below_drewN (w : World) (n : Nat) : Below w.heap.size w (w.drewN n):=⟨rfl,rfl,rfl,Nat.le_refl _,fun _ _ => rfl⟩
theorem getN_spec (S : ByteArray) (w : World) (hS : S.size ≤ 100000) : Calls Try.prog 18 #[.string S] w fun e w' => e = .returned (getNV (Wf.getN S.data.toList)) ∧ Below w.heap.size w w' :=
  (numGet_spec S w (by omega)).mono fun e w' ⟨h1,n,h2⟩ => ⟨h1,by rw [h2];exact below_drewN _ _⟩
set_option maxRecDepth 20000 in
set_option maxHeartbeats 1000000 in
theorem l5take (S : ByteArray) (w : World) (hS : S.size ≤ 100000) : Calls Try.prog 19 #[.string S] w fun e w' => e = .returned (tkV (Wf.takeN S.data.toList)) ∧ Below w.heap.size w w':=by
  have HG:=hid fun wz => getN_spec S wz hS
  cases hn : Wf.getN S.data.toList with
  | none =>
    have HF:=hid (show Wf.takeN S.data.toList = none by unfold Wf.takeN;rw [hn])
    rw [hn] at HG
    have HG2:=hid (show ∀ wz,Calls Try.prog 18 #[.string S] wz fun e w' => e = .returned (.tuple #[.int .i64 0, .string ⟨#[]⟩, .bool false]) ∧ Below wz.heap.size wz w' from HG.out)
    clear hn HG
    go_enter Try.func19,Try.ntmps19
    go_wp2_with (go_at_call 18;refine (HG2.out _).mono ?_;rintro e w2 ⟨rfl,hb2⟩;have HB2:=hid hb2;clear hb2)
    all_goals exact bodyPost_ret (v:=.tuple #[.string ⟨#[]⟩, .string ⟨#[]⟩, .bool false]) (by simp [results,Try.results19,go_sem, *]) rfl ⟨by rw [HF.out];rfl,HB2.out⟩
  | some y =>
    obtain ⟨m,r⟩:=y
    obtain ⟨hm,hr,_⟩:=Wf.getN_len hn
    obtain ⟨R,hR⟩ : ∃ R : ByteArray,(⟨r.toArray⟩ : ByteArray) = R:=⟨_,rfl⟩
    have hRl : R.data.toList = r:=by rw [← hR]
    have hRs : R.size = r.length:=by rw [← hR];rfl
    rw [hn] at HG
    have HG2:=hid (show ∀ wz,Calls Try.prog 18 #[.string S] wz fun e w' => e = .returned (.tuple #[.int .i64 m, .string R, .bool true]) ∧ Below wz.heap.size wz w' by rw [← hR];exact HG.out)
    by_cases h : m ≤ r.length
    · have hmR : m ≤ R.size:=by omega
      have HF:=hid (show Wf.takeN S.data.toList = some (r.take m,r.drop m) by unfold Wf.takeN;rw [hn];dsimp only;rw [if_pos h])
      have k1:=sl_pre R m hmR
      have k2:=sl_suf R m hmR
      have HX:=hid (show R.extract 0 m = ⟨(r.take m).toArray⟩ by rw [eq_list,ext_list,List.drop_zero,Nat.sub_zero,hRl])
      have HY:=hid (show R.extract m R.size = ⟨(r.drop m).toArray⟩ by rw [eq_list,suf_list,hRl])
      obtain ⟨X,hX⟩ : ∃ X,R.extract 0 m = X:=⟨_,rfl⟩
      obtain ⟨Y,hY⟩ : ∃ Y,R.extract m R.size = Y:=⟨_,rfl⟩
      rw [hX] at k1 HX
      rw [hY] at k2 HY
      have hnd : decide ((R.size : Int) < (m : Int)) = false:=decide_eq_false (by omega)
      clear hn HG hR hRl hRs hr h hX hY
      go_enter Try.func19,Try.ntmps19
      go_wp2_with (go_at_call 18;refine (HG2.out _).mono ?_;rintro e w2 ⟨rfl,hb2⟩;have HB2:=hid hb2;clear hb2)
      try go_region
      all_goals (try go_wp2_with fail)
      all_goals exact bodyPost_ret (v:=.tuple #[.string X, .string Y, .bool true]) (by simp [results,Try.results19,go_sem, *]) rfl ⟨by rw [HF.out,HX.out,HY.out];rfl,by have B:=HB2.out;repeat (first | with_reducible exact B | with_reducible refine Below.drew ?_)⟩
    · have HF:=hid (show Wf.takeN S.data.toList = none by unfold Wf.takeN;rw [hn];dsimp only;rw [if_neg h])
      have hnd : (R.size : Int) < (m : Int):=by omega
      clear hn HG hR hRl hRs hr h
      go_enter Try.func19,Try.ntmps19
      go_wp2_with (go_at_call 18;refine (HG2.out _).mono ?_;rintro e w2 ⟨rfl,hb2⟩;have HB2:=hid hb2;clear hb2)
      all_goals exact bodyPost_ret (v:=.tuple #[.string ⟨#[]⟩, .string ⟨#[]⟩, .bool false]) (by simp [results,Try.results19,go_sem, *]) rfl ⟨by rw [HF.out];rfl,HB2.out⟩
def WhOut (o : Option Wf.V) (w : World) (e : Ending) (w' : World) : Prop:=match o with
  | some y => ∃ b,e = .returned (.tuple #[ptr b, .bool true]) ∧ LV w' (fun z => w.heap.size ≤ z) y b
  | none => ∃ (p : Option Addr),e = .returned (.tuple #[.pointer p, .bool false])
theorem WhOut.no {o : Option Wf.V} {w w' : World} {e : Ending} (h : o = none) (he : ∃ (p : Option Addr),e = .returned (.tuple #[.pointer p, .bool false])) : WhOut o w e w':=by
  subst h;exact he
theorem WhOut.yes {o : Option Wf.V} {w w' : World} {e : Ending} {v : Wf.V} (h : o = some v) (he : ∃ b,e = .returned (.tuple #[ptr b, .bool true]) ∧ LV w' (fun z => w.heap.size ≤ z) v b) : WhOut o w e w':=by
  subst h;exact he
section
variable (x : Wf.Sc) (v : Value) (W : World) (n : Nat) (k : Wf.K) (S : ByteArray) (w : World)
end

theorem eq_arr_n (s : ByteArray) (l : List UInt8) (h : s.data.toList = l) : s = ⟨l.toArray⟩:=by rw [← h]
def bytesAt (w : World) (rb : Nat) : Nat:=match w.cell? ⟨rb,1,none⟩ with
  | some (.string s) => s.size
  | _ => 0
structure Bn (W : World) (rb sb : Nat) (s : List UInt8) (bad : Bool) (sk : Value) (d : Nat) : Prop where
  lt : rb < W.heap.size
  c0 : W.cell? ⟨rb,0,none⟩ = some (.pointer none)
  c1 : W.cell? ⟨rb,1,none⟩ = some (tx s)
  c2 : W.cell? ⟨rb,2,none⟩ = some (.bool bad)
  c3 : W.cell? ⟨rb,3,none⟩ = some sk
  c4 : W.cell? ⟨rb,4,none⟩ = some (.int .i64 d)
  f1 : W.frozen? ⟨rb,1,none⟩ = false
  f2 : W.frozen? ⟨rb,2,none⟩ = false
  f3 : W.frozen? ⟨rb,3,none⟩ = false
  f4 : W.frozen? ⟨rb,4,none⟩ = false
section
variable {W W' : World} {rb sb : Nat} {s r : List UInt8} {bad : Bool} {sk : Value} {d : Nat}
theorem Bn.keep (h : Bn W rb sb s bad sk d) (hs : W.heap.size ≤ W'.heap.size) (hb : W'.heap[rb]? = W.heap[rb]?) : Bn W' rb sb s bad sk d:=by
  have cd:=fun o => World.cell?_of_block (w:=W) (w':=W') (a:=⟨rb,o,none⟩) hb
  have cf:=fun o => World.frozen?_of_block (w:=W) (w':=W') (a:=⟨rb,o,none⟩) hb
  exact ⟨Nat.lt_of_lt_of_le h.lt hs,(cd 0).trans h.c0,(cd 1).trans h.c1,(cd 2).trans h.c2,(cd 3).trans h.c3,(cd 4).trans h.c4,(cf 1).trans h.f1,(cf 2).trans h.f2,(cf 3).trans h.f3,(cf 4).trans h.f4⟩
theorem Bn.belowB (h : Bn W rb sb s bad sk d) {B : Nat} (hb : Below B W W') (hB : rb < B) : Bn W' rb sb s bad sk d:=h.keep hb.size (hb.block rb hB)
theorem Bn.below (h : Bn W rb sb s bad sk d) (hb : Below W.heap.size W W') : Bn W' rb sb s bad sk d:=h.belowB hb h.lt
theorem Bn.beside (h : Bn W rb sb s bad sk d) {b : Nat} (hb : Beside b W W') (hn : rb ≠ b) : Bn W' rb sb s bad sk d:=h.keep hb.size (hb.block rb h.lt hn)
theorem Bn.text (h : Bn W rb sb s bad sk d) (r : List UInt8) : Bn (W.setCell ⟨rb,1,none⟩ (tx r)) rb sb r bad sk d :=
  ⟨by simpa using h.lt,(World.cell?_setCell_other W _ _ _ (by simp)).trans h.c0,World.cell?_setCell_same W _ _ h.c1,(World.cell?_setCell_other W _ _ _ (by simp)).trans h.c2,(World.cell?_setCell_other W _ _ _ (by simp)).trans h.c3,(World.cell?_setCell_other W _ _ _ (by simp)).trans h.c4,by simpa using h.f1,by simpa using h.f2,by simpa using h.f3,by simpa using h.f4⟩
theorem Bn.fail (h : Bn W rb sb s bad sk d) : Bn (W.setCell ⟨rb,2,none⟩ (.bool true)) rb sb s true sk d :=
  ⟨by simpa using h.lt,(World.cell?_setCell_other W _ _ _ (by simp)).trans h.c0,(World.cell?_setCell_other W _ _ _ (by simp)).trans h.c1,World.cell?_setCell_same W _ _ h.c2,(World.cell?_setCell_other W _ _ _ (by simp)).trans h.c3,(World.cell?_setCell_other W _ _ _ (by simp)).trans h.c4,by simpa using h.f1,by simpa using h.f2,by simpa using h.f3,by simpa using h.f4⟩
end
section
variable (rb sb : Nat) (sk : Value) (d : Nat) (w : World)
set_option maxRecDepth 20000 in
set_option maxHeartbeats 1000000 in
theorem nnum_yes (s r : List UInt8) (bad : Bool) (n : Nat) (hs : s.length ≤ 1000000) (H : Bn w rb sb s bad sk d) (hn : Wf.getN s = some (n,r)) : Calls Try.prog 11 #[ptr rb] w fun e w' => e = .returned (.int .i64 n) ∧ Bn w' rb sb r bad sk d ∧ Beside rb w w':=by
  have HH:=hid H
  have hc1:=H.c1
  have hlt:=H.lt
  obtain ⟨S,hS⟩ : ∃ S : ByteArray,(⟨s.toArray⟩ : ByteArray) = S:=⟨_,rfl⟩
  have hSl : S.data.toList = s:=by rw [← hS]
  rw [tx,hS] at hc1
  obtain ⟨R,hR⟩ : ∃ R : ByteArray,(⟨r.toArray⟩ : ByteArray) = R:=⟨_,rfl⟩
  have HR:=hid hR
  have HN:=hid fun wz => (numGet_impl S wz (by rw [← size_list,hSl];omega)).mono (R':=fun e w' => e = .returned (.tuple #[.int .i64 n, .string R, .bool true]) ∧ Below wz.heap.size wz w') fun e w' ⟨h1,q,h2⟩ => ⟨by rw [h1,hSl,hn,getNV,hR],by rw [h2];exact ⟨rfl,rfl,rfl,Nat.le_refl _,fun _ _ => rfl⟩⟩
  clear H hS hSl hn hR
  go_enter Try.func11,Try.ntmps11
  go_wp2_with (go_at_call 17;refine (HN.out _).mono ?_;rintro e w1 ⟨rfl,hb⟩;have HS1:=hid (HH.out.below hb);have k1:=HS1.out.c1;have kf:=HS1.out.f1;have kl:=HS1.out.lt;have HB:=hid (Beside.of_below (rb:=rb) hb (Nat.le_refl _));clear hb)
  go_ret
  exact ⟨rfl,by rw [← HR.out];exact HS1.out.text r,HB.out.trans (Beside.set _ _ _ _)⟩
set_option maxRecDepth 20000 in
set_option maxHeartbeats 1000000 in
theorem nnum_no (s : List UInt8) (bad : Bool) (hs : s.length ≤ 1000000) (H : Bn w rb sb s bad sk d) (hn : Wf.getN s = none) : Calls Try.prog 11 #[ptr rb] w fun e w' => e = .returned (.int .i64 0) ∧ Bn w' rb sb [] true sk d ∧ Beside rb w w':=by
  have HH:=hid H
  have hc1:=H.c1
  have hlt:=H.lt
  obtain ⟨S,hS⟩ : ∃ S : ByteArray,(⟨s.toArray⟩ : ByteArray) = S:=⟨_,rfl⟩
  have hSl : S.data.toList = s:=by rw [← hS]
  rw [tx,hS] at hc1
  have HN:=hid fun wz => (numGet_impl S wz (by rw [← size_list,hSl];omega)).mono (R':=fun e w' => e = .returned (.tuple #[.int .i64 0, .string ⟨#[]⟩, .bool false]) ∧ Below wz.heap.size wz w') fun e w' ⟨h1,q,h2⟩ => ⟨by rw [h1,hSl,hn,getNV],by rw [h2];exact ⟨rfl,rfl,rfl,Nat.le_refl _,fun _ _ => rfl⟩⟩
  clear H hS hSl hn
  go_enter Try.func11,Try.ntmps11
  go_wp2_with (go_at_call 17;refine (HN.out _).mono ?_;rintro e w1 ⟨rfl,hb⟩;have HS1:=hid (HH.out.below hb);have k1:=HS1.out.c1;have k2:=HS1.out.c2;have kf:=HS1.out.f1;have kg:=HS1.out.f2;have kl:=HS1.out.lt;have HB:=hid (Beside.of_below (rb:=rb) hb (Nat.le_refl _));clear hb)
  go_ret
  exact ⟨rfl,HS1.out.fail.text [],(HB.out.trans (Beside.set _ _ _ _)).trans (Beside.set _ _ _ _)⟩
set_option maxRecDepth 20000 in
set_option maxHeartbeats 1000000 in
theorem ntake_yes (s : List UInt8) (n : Nat) (hs : s.length ≤ 1000000) (H : Bn w rb sb s false sk d) (hn : n ≤ s.length) : Calls Try.prog 12 #[ptr rb, .int .i64 n] w fun e w' => e = .returned (tx (s.take n)) ∧ Bn w' rb sb (s.drop n) false sk d ∧ Beside rb w w':=by
  have HH:=hid H
  have hc1:=H.c1
  have hc2:=H.c2
  have hlt:=H.lt
  have f1:=H.f1
  obtain ⟨S,hS⟩ : ∃ S : ByteArray,(⟨s.toArray⟩ : ByteArray) = S:=⟨_,rfl⟩
  have hSl : S.data.toList = s:=by rw [← hS]
  have hSs : S.size = s.length:=by rw [← hS];rfl
  rw [tx,hS] at hc1
  have hn2 : n ≤ S.size:=by omega
  have hs2 : S.size ≤ 1000000:=by omega
  have HA:=hid (show S.extract 0 n = ⟨(s.take n).toArray⟩ from eq_arr_n _ _ (by rw [ext_list,List.drop_zero,Nat.sub_zero,hSl]))
  have HD:=hid (show S.extract n S.size = ⟨(s.drop n).toArray⟩ from eq_arr_n _ _ (by rw [ext_list,hSl,hSs,List.take_of_length_le (by rw [List.length_drop];exact Nat.le_refl _)]))
  clear H hS hSl hs hn hSs
  go_enter Try.func12,Try.ntmps12
  go_wp2_with fail
  go_ret
  exact ⟨ret_str HA.out,by have:=HH.out.text (s.drop n);rw [tx,← HD.out] at this;exact this,Beside.set _ _ _ _⟩
set_option maxRecDepth 20000 in
set_option maxHeartbeats 1000000 in
theorem ntake_bad (s : List UInt8) (n : Nat) (H : Bn w rb sb s true sk d) : Calls Try.prog 12 #[ptr rb, .int .i64 n] w fun e w' => e = .returned (tx []) ∧ Bn w' rb sb s true sk d ∧ Beside rb w w':=by
  have HH:=hid H
  have hc2:=H.c2
  have hlt:=H.lt
  have f2:=H.f2
  clear H
  go_enter Try.func12,Try.ntmps12
  go_wp2_with fail
  go_ret
  exact ⟨rfl,HH.out.fail,Beside.set _ _ _ _⟩
set_option maxRecDepth 20000 in
set_option maxHeartbeats 1000000 in
theorem ntake_long (s : List UInt8) (n : Nat) (hs : s.length ≤ 1000000) (H : Bn w rb sb s false sk d) (hn : s.length < n) : Calls Try.prog 12 #[ptr rb, .int .i64 n] w fun e w' => e = .returned (tx []) ∧ Bn w' rb sb s true sk d ∧ Beside rb w w':=by
  have HH:=hid H
  have hc1:=H.c1
  have hc2:=H.c2
  have hlt:=H.lt
  have f2:=H.f2
  obtain ⟨S,hS⟩ : ∃ S : ByteArray,(⟨s.toArray⟩ : ByteArray) = S:=⟨_,rfl⟩
  have hSs : S.size = s.length:=by rw [← hS];rfl
  rw [tx,hS] at hc1
  have hn2 : S.size < n:=by omega
  clear H hS hs hn hSs
  go_enter Try.func12,Try.ntmps12
  go_wp2_with fail
  go_ret
  exact ⟨rfl,HH.out.fail,Beside.set _ _ _ _⟩
theorem ntake_no (s : List UInt8) (bad : Bool) (n : Nat) (hs : s.length ≤ 1000000) (H : Bn w rb sb s bad sk d) (hn : bad = true ∨ s.length < n) : Calls Try.prog 12 #[ptr rb, .int .i64 n] w fun e w' => e = .returned (tx []) ∧ Bn w' rb sb s true sk d ∧ Beside rb w w':=by
  cases bad with
  | true => exact ntake_bad rb sb sk d w s n H
  | false => exact ntake_long rb sb sk d w s n hs H (hn.resolve_left (by simp))
end
theorem nnum_any (s : List UInt8) (hs : s.length ≤ 1000000) : ∃ (m : Nat) (r : List UInt8) (b : Bool),m ≤ 999999 ∧ r.length ≤ s.length ∧ ((b = false ∧ Wf.getN s = some (m,r)) ∨ (b = true ∧ Wf.getN s = none ∧ m = 0 ∧ r = [])) ∧
    ∀ (rb sb : Nat) (bad : Bool) (sk : Value) (d : Nat) (w : World),Bn w rb sb s bad sk d → Calls Try.prog 11 #[ptr rb] w fun e w' => e = .returned (.int .i64 m) ∧ Bn w' rb sb r (bad || b) sk d ∧ Beside rb w w':=by
  cases hn : Wf.getN s with
  | none =>
    refine ⟨0,[],true,by omega,by simp, .inr ⟨rfl,rfl,rfl,rfl⟩,fun rb sb bad sk d w H => ?_⟩
    rw [Bool.or_true]
    exact nnum_no rb sb sk d w s bad hs H hn
  | some y =>
    obtain ⟨m,r⟩:=y
    obtain ⟨h1,h2,_⟩:=Wf.getN_len hn
    refine ⟨m,r,false,h1,by omega, .inl ⟨rfl,rfl⟩,fun rb sb bad sk d w H => ?_⟩
    rw [Bool.or_false]
    exact nnum_yes rb sb sk d w s r bad m hs H hn
theorem ntk (s : List UInt8) (hs : s.length ≤ 1000000) (bad : Bool) : ∃ (m : Nat) (r1 : List UInt8) (b1 : Bool) (t r : List UInt8) (b : Bool),m ≤ 999999 ∧ r1.length ≤ s.length ∧ t.length ≤ s.length ∧ r.length ≤ s.length ∧
    ((b = false ∧ bad = false ∧ Wf.takeN s = some (t,r)) ∨ (b = true ∧ (bad = true ∨ Wf.takeN s = none) ∧ t = [])) ∧
    (∀ (rb sb : Nat) (sk : Value) (d : Nat) (w : World),Bn w rb sb s bad sk d → Calls Try.prog 11 #[ptr rb] w fun e w' => e = .returned (.int .i64 m) ∧ Bn w' rb sb r1 b1 sk d ∧ Beside rb w w') ∧
    (∀ (rb sb : Nat) (sk : Value) (d : Nat) (w : World),Bn w rb sb r1 b1 sk d → Calls Try.prog 12 #[ptr rb, .int .i64 m] w fun e w' => e = .returned (tx t) ∧ Bn w' rb sb r b sk d ∧ Beside rb w w'):=by
  obtain ⟨m,r1,b1,hm,hr1,hc,hN⟩:=nnum_any s hs
  by_cases h : (bad || b1) = false ∧ m ≤ r1.length
  · obtain ⟨hb,hl⟩:=h
    have hb0 : bad = false ∧ b1 = false:=by simpa using hb
    obtain ⟨rfl,rfl⟩:=hb0
    rcases hc with ⟨_,hg⟩ | ⟨h,_⟩
    · refine ⟨m,r1,false,r1.take m,r1.drop m,false,hm,hr1,by rw [List.length_take];omega,by rw [List.length_drop];omega, .inl ⟨rfl,rfl, ?_⟩,fun rb sb sk d w H => hN rb sb false sk d w H,fun rb sb sk d w H => ntake_yes rb sb sk d w r1 m (by omega) H hl⟩
      unfold Wf.takeN
      rw [hg]
      dsimp only
      rw [if_pos hl]
    · cases h
  · refine ⟨m,r1,bad || b1,[],r1,true,hm,hr1,by simp,hr1, .inr ⟨rfl, ?_,rfl⟩,fun rb sb sk d w H => hN rb sb bad sk d w H,fun rb sb sk d w H => ntake_no rb sb sk d w r1 (bad || b1) m (by omega) H ?_⟩
    · cases bad with
      | true => exact .inl rfl
      | false =>
        right
        unfold Wf.takeN
        rcases hc with ⟨rfl,hg⟩ | ⟨_,hg,_⟩
        · rw [hg]
          dsimp only
          rw [if_neg fun hl => h ⟨rfl,hl⟩]
        · rw [hg]
    · cases hb : (bad || b1) with
      | true => exact .inl rfl
      | false => exact .inr (by
        rcases Nat.lt_or_ge r1.length m with h1 | h1
        · exact h1
        · exact absurd ⟨hb,h1⟩ h)
theorem Bn.size {w : World} {rb sb : Nat} {s : List UInt8} {bad : Bool} {sk : Value} {d : Nat} (h : Bn w rb sb s bad sk d) : bytesAt w rb = s.length:=by
  unfold bytesAt;rw [h.c1];rfl

def fbV : Option (List UInt8) → Value
  | some l => .tuple #[tx l, .bool true]
  | none => .tuple #[.string ⟨#[]⟩, .bool false]
theorem start_bn (w : World) (s : List UInt8) (S : ByteArray) (hS : (⟨s.toArray⟩ : ByteArray) = S) (W1 : World) (h : w.alloc (.cells #[.pointer none, .string S, .bool false, .slice none 0 0, .int .i64 0] 38) = W1) : Bn W1 w.heap.size 0 s false (.slice none 0 0) 0 ∧ Below w.heap.size w W1:=by
  subst hS h
  exact ⟨⟨by simp,by simp [go_sem],by simp [go_sem],by simp [go_sem],by simp [go_sem],by simp [go_sem],by simp [go_sem],by simp [go_sem],by simp [go_sem],by simp [go_sem]⟩,(Below.refl _ _).alloc (Nat.le_refl _) _⟩
section
variable (S : ByteArray) (want : Int) (w : World)
set_option maxRecDepth 20000 in
set_option maxHeartbeats 1000000 in
theorem field_long (h : ¬ S.size ≤ 600) : Calls Try.prog 5 #[.string S, .int .i64 want] w fun e w' => e = .returned (fbV (Wf.fieldF S.data.toList want)) ∧ Below w.heap.size w w':=by
  have HF:=hid (show Wf.fieldF S.data.toList want = none by unfold Wf.fieldF;rw [if_neg (by rw [size_list];exact h)])
  go_enter Try.func5,Try.ntmps5
  go_wp2_with fail
  go_loopw [7] (fun v wr => Hid (Below w.heap.size w wr)) (fun v _ => 0)
  case atStart => exact hid ((Below.refl _ _).alloc (Nat.le_refl _) _)
  case round =>
    go_wp2_with fail
    go_ret2
    exact ⟨by rw [HF.out];rfl,hrel.out⟩
set_option maxRecDepth 20000 in
set_option maxHeartbeats 2000000 in
theorem field_short (h : S.size ≤ 600) : Calls Try.prog 5 #[.string S, .int .i64 want] w fun e w' => e = .returned (fbV (Wf.fieldF S.data.toList want)) ∧ Below w.heap.size w w':=by
  have ST:=hid fun W1 h => start_bn w S.data.toList S (by rw [Array.toArray_toList]) W1 h
  obtain ⟨T,hT⟩ : ∃ T,Wf.fieldF S.data.toList want = T:=⟨_,rfl⟩
  have h0 : Wf.fieldW want (S.data.toList.length + 1) 0 S.data.toList = T:=by
    rw [← hT];unfold Wf.fieldF;rw [if_pos (by rw [size_list];exact h)]
  rw [hT]
  have H0:=hid h0
  have HSZ:=hid (size_list S)
  clear hT h0
  go_enter Try.func5,Try.ntmps5
  go_wp2_with fail
  go_loopw [7] (fun v wr => ∃ (last : Nat) (cur : List UInt8),v = .int .i64 last ∧ last ≤ 999999 ∧ Hid (Bn wr w.heap.size 0 cur false (.slice none 0 0) 0 ∧ Below w.heap.size w wr ∧ cur.length ≤ 600 ∧ ∃ m,cur.length < m ∧ Wf.fieldW want m last cur = T)) (fun _ wr => bytesAt wr w.heap.size)
  case atStart => exact ⟨0,S.data.toList,rfl,by omega,hid ⟨(ST.out _ rfl).1,(ST.out _ rfl).2,by rw [HSZ.out];exact h,_,Nat.lt_succ_self _,H0.out⟩⟩
  case round =>
    obtain ⟨last,cur,rfl,hl6,hh⟩:=hrel
    obtain ⟨tag,r1,b1,htag,hr1,hc1,hN⟩:=nnum_any cur (by have:=hh.out.2.2.1;omega)
    have HN:=hid fun (wz : World) (h : Bn wz w.heap.size 0 cur false (.slice none 0 0) 0) => hN _ 0 false _ 0 wz h
    simp only [Bool.false_or] at HN
    obtain ⟨m2,r2,b2,tt,r,b,hm2,hr2,htl,hrl,hc2,hN2,hT2⟩:=ntk r1 (by have:=hh.out.2.2.1;omega) b1
    have HN2:=hid fun (wz : World) (h : Bn wz w.heap.size 0 r1 b1 (.slice none 0 0) 0) => hN2 _ 0 _ 0 wz h
    obtain ⟨TT,hTT⟩ : ∃ TT : ByteArray,(⟨tt.toArray⟩ : ByteArray) = TT:=⟨_,rfl⟩
    have HTT:=hid hTT
    have HT2:=hid fun (wz : World) (h : Bn wz w.heap.size 0 r2 b2 (.slice none 0 0) 0) => hT2 _ 0 _ 0 wz h
    simp only [tx,hTT] at HT2
    have HLEN:=hid (show r.length ≤ cur.length by omega)
    have HCC:=hid (And.intro hc1 hc2)
    have hhe:=hh.out.1.lt
    clear hN hN2 hT2 hTT hc1 hc2 hr1 hr2 htl hrl
    have key : (b = true ∧ T = none) ∨ (b = false ∧ ((tag ≤ last ∧ T = none) ∨ (last < tag ∧ (((tag : Int) = want ∧ T = some tt) ∨ ((tag : Int) ≠ want ∧ r.length < cur.length ∧ ∃ m,r.length < m ∧ Wf.fieldW want m tag r = T))))):=by
      obtain ⟨m,hm,hf⟩:=hh.out.2.2.2
      obtain ⟨m',rfl⟩ : ∃ m',m = m' + 1:=⟨m - 1,by omega⟩
      obtain ⟨hc1,hc2⟩:=HCC.out
      have hL:=HLEN.out
      rcases hc1 with ⟨e1,hg⟩ | ⟨e1,hg,_,_⟩
      · have hgl:=(Wf.getN_len hg).2.1
        rw [Wf.fieldW_step hg] at hf
        rcases hc2 with ⟨e2,_,ht⟩ | ⟨e2,ht,_⟩
        · right
          refine ⟨e2, ?_⟩
          rw [ht] at hf
          dsimp only at hf
          have hrl : r.length ≤ r1.length:=by have:=Wf.takeN_len ht;omega
          by_cases h1 : tag ≤ last
          · rw [if_pos h1] at hf;exact .inl ⟨h1,hf.symm⟩
          · rw [if_neg h1] at hf
            refine .inr ⟨by omega, ?_⟩
            by_cases h2 : (tag : Int) = want
            · rw [if_pos h2] at hf;exact .inl ⟨h2,hf.symm⟩
            · rw [if_neg h2] at hf
              exact .inr ⟨h2,by omega,m',by omega,hf⟩
        · left
          refine ⟨e2, ?_⟩
          rcases ht with h | h
          · rw [e1] at h;cases h
          · rw [h] at hf;exact hf.symm
      · rw [Wf.fieldW_none hg] at hf
        rcases hc2 with ⟨_,e3,_⟩ | ⟨e2,_,_⟩
        · rw [e1] at e3;cases e3
        · exact .inl ⟨e2,hf.symm⟩
    rcases key with ⟨rfl,h1⟩ | ⟨rfl,h2⟩
    · have HV:=hid h1
      clear h1
      go_wp2_with (first | (go_at_call 12;have _u:=S3;refine (HT2.out _ S3.out).mono ?_;rintro e w4 ⟨rfl,hs4,hb4⟩;have S4:=hid hs4;have c4:=hs4.c2;have l4:=hs4.lt;have B4:=hid (B3.out.trans hb4);clear hs4 hb4) | (go_at_call 11;have _u:=S2;refine (HN2.out _ S2.out).mono ?_;rintro e w3 ⟨rfl,hs3,hb3⟩;have S3:=hid hs3;have B3:=hid (B2.out.trans hb3);clear hs3 hb3) | (go_at_call 11;refine (HN.out _ hh.out.1).mono ?_;rintro e w2 ⟨rfl,hs2,hb2⟩;have S2:=hid hs2;have B2:=hid hb2;clear hs2 hb2))
      all_goals go_ret2
      all_goals exact ⟨by rw [HV.out];rfl,Beside.below hh.out.2.1 hh.out.2.1.size (Nat.le_refl _) B4.out⟩
    · rcases h2 with ⟨h1,h2⟩ | ⟨h1,⟨rfl,h2⟩ | ⟨h2,h3,h4⟩⟩
      · have HV:=hid h2
        clear h2
        go_wp2_with (first | (go_at_call 12;have _u:=S3;refine (HT2.out _ S3.out).mono ?_;rintro e w4 ⟨rfl,hs4,hb4⟩;have S4:=hid hs4;have c4:=hs4.c2;have l4:=hs4.lt;have B4:=hid (B3.out.trans hb4);clear hs4 hb4) | (go_at_call 11;have _u:=S2;refine (HN2.out _ S2.out).mono ?_;rintro e w3 ⟨rfl,hs3,hb3⟩;have S3:=hid hs3;have B3:=hid (B2.out.trans hb3);clear hs3 hb3) | (go_at_call 11;refine (HN.out _ hh.out.1).mono ?_;rintro e w2 ⟨rfl,hs2,hb2⟩;have S2:=hid hs2;have B2:=hid hb2;clear hs2 hb2))
        all_goals go_ret2
        all_goals exact ⟨by rw [HV.out];rfl,Beside.below hh.out.2.1 hh.out.2.1.size (Nat.le_refl _) B4.out⟩
      · have HV:=hid (show fbV T = .tuple #[.string TT, .bool true] by rw [h2,← HTT.out];rfl)
        clear h2
        go_wp2_with (first | (go_at_call 12;have _u:=S3;refine (HT2.out _ S3.out).mono ?_;rintro e w4 ⟨rfl,hs4,hb4⟩;have S4:=hid hs4;have c4:=hs4.c2;have l4:=hs4.lt;have B4:=hid (B3.out.trans hb4);clear hs4 hb4) | (go_at_call 11;have _u:=S2;refine (HN2.out _ S2.out).mono ?_;rintro e w3 ⟨rfl,hs3,hb3⟩;have S3:=hid hs3;have B3:=hid (B2.out.trans hb3);clear hs3 hb3) | (go_at_call 11;refine (HN.out _ hh.out.1).mono ?_;rintro e w2 ⟨rfl,hs2,hb2⟩;have S2:=hid hs2;have B2:=hid hb2;clear hs2 hb2))
        all_goals go_ret2
        all_goals exact ⟨by rw [HV.out];rfl,Beside.below hh.out.2.1 hh.out.2.1.size (Nat.le_refl _) B4.out⟩
      · have HV:=hid (And.intro h3 h4)
        clear h3 h4
        go_wp2_with (first | (go_at_call 12;have _u:=S3;refine (HT2.out _ S3.out).mono ?_;rintro e w4 ⟨rfl,hs4,hb4⟩;have S4:=hid hs4;have c4:=hs4.c2;have l4:=hs4.lt;have B4:=hid (B3.out.trans hb4);clear hs4 hb4) | (go_at_call 11;have _u:=S2;refine (HN2.out _ S2.out).mono ?_;rintro e w3 ⟨rfl,hs3,hb3⟩;have S3:=hid hs3;have B3:=hid (B2.out.trans hb3);clear hs3 hb3) | (go_at_call 11;refine (HN.out _ hh.out.1).mono ?_;rintro e w2 ⟨rfl,hs2,hb2⟩;have S2:=hid hs2;have B2:=hid hb2;clear hs2 hb2))
        all_goals go_roundw
        case rel => exact ⟨tag,r,rfl,htag,hid ⟨S4.out,Beside.below hh.out.2.1 hh.out.2.1.size (Nat.le_refl _) B4.out,by have:=hh.out.2.2.1;have:=HLEN.out;omega,HV.out.2⟩⟩
        case measure => rw [S4.out.size,hh.out.1.size];exact HV.out.1
end
theorem bytesField_i (S : ByteArray) (want : Int) (w : World) : Calls Try.prog 5 #[.string S, .int .i64 want] w fun e w' => e = .returned (fbV (Wf.fieldF S.data.toList want)) ∧ Below w.heap.size w w':=by
  by_cases h : S.size ≤ 600
  · exact field_short S want w h
  · exact field_long S want w h
end Go.Proofs.Ytidjpalnmnehmaa

namespace Go.Proofs.Ytidjpalnmnehmaa
open Go.ChangeShapes Go.WideShapes Go.ChangeAt Go.RowKit
set_option maxRecDepth 20000 in
theorem l1Put_any (k : Nat) : ∀ (n : Int) (w : World),n ≤ k → 0 ≤ n → n ≤ 999999 →
    Calls Try.prog 33 #[.int .i64 n] w fun e w' => e = .returned (.string ⟨(Wf.putN n.toNat).toArray⟩) ∧ Below w.heap.size w w':=by
  induction k with
  | zero =>
    intro n w hk h0 _
    obtain rfl : n = 0:=by omega
    have hcv:=run_convert_lit (P:=Try.prog) 22 9 5 Try.underlying22 Try.underlying5 Try.underlying9
    go_enter Try.func33,Try.ntmps33
    go_wp2_with fail
    go_ret
    exact ⟨by rw [Wf.putN_lt (by omega)];rfl,(Below.refl _ _).alloc (Nat.le_refl _) _⟩
  | succ k ih0 =>
    have ih:=Lib.hid ih0
    clear ih0
    intro n w hk h0 hn
    by_cases h : n < 128
    · have hcv:=run_convert_lit (P:=Try.prog) 22 9 5 Try.underlying22 Try.underlying5 Try.underlying9
      have E:=Lib.hid (show (Wf.putN n.toNat).toArray = #[UInt8.ofNat n.toNat] by rw [Wf.putN_lt (by omega)])
      go_enter Try.func33,Try.ntmps33
      go_wp2_with fail
      go_ret
      exact ⟨by rw [E.out];rfl,(Below.refl _ _).alloc (Nat.le_refl _) _⟩
    · have E:=Lib.hid (show Wf.putN n.toNat = [UInt8.ofNat (128 + n % 128).toNat] ++ Wf.putN (n / 128).toNat by
        rw [Wf.putN_ge (by omega),show (128 + n % 128).toNat = 128 + n.toNat % 128 by omega,show (n / 128).toNat = n.toNat / 128 by omega];simp)
      have hc1:=fun W a c => run_convert_one (P:=Try.prog) 22 9 5 Try.underlying22 Try.underlying5 Try.underlying9 W a c (128 + n % 128)
      have hl:=(Wf.putN_len (n / 128).toNat (by omega)).2
      have w0 : n.tdiv 128 = n / 128:=Int.tdiv_eq_ediv_of_nonneg (by omega)
      have w1 : IntKind.i64.wrap (n / 128) = n / 128:=IntWalk.i64_in _ (by omega)
      have w2 : n.tmod 128 = n % 128:=Int.tmod_eq_emod_of_nonneg (by omega)
      have w3 : IntKind.i64.wrap (128 + n % 128) = 128 + n % 128:=IntWalk.i64_in _ (by omega)
      have w4 : IntKind.u8.wrap (128 + n % 128) = 128 + n % 128:=IntWalk.u8_in _ (by omega)
      have w5 : ∀ W : World,(Op.stringOp .add ⟨#[UInt8.ofNat (128 + n % 128).toNat]⟩ ⟨(Wf.putN (n / 128).toNat).toArray⟩).run Try.prog W = .ok (.string ⟨(Wf.putN n.toNat).toArray⟩) W :=
        run_add_bytes [UInt8.ofNat (128 + n % 128).toNat] (Wf.putN (n / 128).toNat) _ (by simp;omega) E.out
      clear E
      go_enter Try.func33,Try.ntmps33
      go_wp2_with fail
      go_region_with (go_at_call 33;refine (ih.out (n / 128) _ (by omega) (by omega) (by omega)).mono ?_;rintro e w' ⟨rfl,hb⟩;have hc:=(bcell hb).1)
      all_goals go_wp2
      all_goals go_ret
      · exact ⟨rfl,(((Below.refl _ _).alloc (Nat.le_refl _) _).drew).trans (hb.mono (by simp))⟩
      · exact ⟨rfl,(((Below.refl _ _).alloc (Nat.le_refl _) _).drew).trans (hb.mono (by simp))⟩
      · exact ⟨rfl,((Below.refl _ _).drew.trans hb).alloc (by have:=hb.size;simpa using this) _⟩
def putL (n : Int) : List UInt8:=if 0 ≤ n ∧ n ≤ 999999 then Wf.putN n.toNat else []
def putB (n : Int) : Bool:=decide (0 ≤ n ∧ n ≤ 999999)
def putV (n : Int) : Value:=.tuple #[.string ⟨(putL n).toArray⟩, .bool (putB n)]
theorem ret_sb {a b : ByteArray} {x y : Bool} (h1 : a = b) (h2 : x = y) : Ending.returned (.tuple #[.string a, .bool x]) = .returned (.tuple #[.string b, .bool y]):=by rw [h1,h2]
theorem put_no {n : Int} (h : ¬ (0 ≤ n ∧ n ≤ 999999)) : Ending.returned (.tuple #[.string ⟨#[]⟩, .bool false]) = .returned (putV n):=ret_sb (by rw [putL,if_neg h]) (by rw [putB,decide_eq_false h])
theorem put_yes {n : Int} {s : ByteArray} (h : 0 ≤ n ∧ n ≤ 999999) (hs : s = ⟨(Wf.putN n.toNat).toArray⟩) : Ending.returned (.tuple #[.string s, .bool true]) = .returned (putV n):=ret_sb (by rw [putL,if_pos h,hs]) (by rw [putB,decide_eq_true h])
theorem info_u8 : (Try.prog.info? 5).map (fun i => (i.zero,i.size,i.bytes)) = some (some (.int .u8 0),1,1):=by kernel_rfl
def Room (k : Nat) (m : Int) : Prop:=(k = 0 ∧ m ≤ 999999) ∨ (k = 1 ∧ m ≤ 7812) ∨ (k = 2 ∧ m ≤ 61)
theorem Room.more {l : List UInt8} {m : Int} {c : UInt8} (h : 128 ≤ m) (hr : Room l.length m) : Room (l ++ [c]).length (m / 128):=by
  have e : (l ++ [c]).length = l.length + 1:=by simp
  rw [e]
  unfold Room at hr ⊢
  omega
theorem Room.le {k : Nat} {m : Int} (hr : Room k m) : k ≤ 2 ∧ m ≤ 999999:=by unfold Room at hr;omega
theorem numPut_impl (n : Int) (w : World) : Calls Try.prog 7 #[.int .i64 n] w fun e w' => e = .returned (putV n) ∧ Below w.heap.size w w':=by
  by_cases h : 0 ≤ n ∧ n ≤ 999999
  · have h1:=h.1
    have h2:=h.2
    have H:=Lib.hid h
    clear h
    have hcv:=fun wx v (l : List UInt8) hl => run_convert_owned (P:=Try.prog) wx 22 9 5 (base:=w.heap.size) (et:=5) (v:=v) (l:=l) Try.underlying22 Try.underlying5 Try.underlying9 hl
    have HCV:=Lib.hid hcv
    clear hcv
    go_enter Try.func7,Try.ntmps7
    go_wp2
    go_loopw [4,0] (fun v i wr => ∃ (l : List UInt8) (m : Int),0 ≤ m ∧ Room l.length m ∧ i = .int .i64 m ∧ Hid (l ++ Wf.putN m.toNat = Wf.putN n.toNat) ∧ wr.ownsRow w.heap.size 5 1 v l.length (Lib.byteCells l) ∧ Below w.heap.size w wr)
      (fun _ i _ => (intOf i).toNat)
    case atStart => exact ⟨[],n,h1, .inl ⟨rfl,h2⟩,rfl,rfl,World.ownsRow_nil _ _ _ _,Below.refl _ _⟩
    case round =>
      obtain ⟨l,m,hm1,hroom,rfl,hput,hown,hbel⟩:=hrel
      have hl:=hroom.le.1
      have hm2:=hroom.le.2
      by_cases hlt : m < 128
      · have hm : IntKind.u8.wrap m = m:=IntWalk.u8_in _ (by omega)
        have hsz:=hbel.size
        have HMC:=Lib.hid (show m = ((UInt8.ofNat m.toNat).toNat : Int) by rw [Wf.toNat_ofNat (by omega)];omega)
        clear hroom
        go_wp2_with (at_builtin;refine wpList_append_byte _ rfl (.tmp 22) (.tmp 25) 22 rfl w.heap.size 5 Try.underlying22 info_u8 _ l rfl (hown.alloc _) ⟨wr.heap.size,0,none⟩ m rfl (by simp) (UInt8.ofNat m.toNat) HMC.out (by omega) (by simp;omega) ?_;intro v1 w1 hown1 hb1;have hc1:=HCV.out w1 v1 _ hown1)
        go_ret2
        exact ⟨put_yes H.out (by rw [← hput.out,Wf.putN_lt (by omega)]),(hbel.alloc hsz _).trans hb1⟩
      · have hm0 : m % 128 + 128 < 256:=by omega
        have hmu : IntKind.u8.wrap (m % 128 + 128) = m % 128 + 128:=IntWalk.u8_in _ (by omega)
        have hsz:=hbel.size
        have HMC:=Lib.hid (show m % 128 + 128 = ((UInt8.ofNat (m % 128 + 128).toNat).toNat : Int) by rw [Wf.toNat_ofNat (by omega)];omega)
        have HL:=Lib.hid (hroom.more (c:=UInt8.ofNat (m % 128 + 128).toNat) (by omega))
        clear hroom
        have HP:=Lib.hid (show (l ++ [UInt8.ofNat (m % 128 + 128).toNat]) ++ Wf.putN (m / 128).toNat = Wf.putN n.toNat by
          rw [← hput.out,Wf.putN_ge (show 128 ≤ m.toNat by omega),show (m % 128 + 128).toNat = 128 + m.toNat % 128 by omega,show (m / 128).toNat = m.toNat / 128 by omega];simp)
        go_wp2_with (at_builtin;refine wpList_append_byte _ rfl (.tmp 13) (.tmp 18) 22 rfl w.heap.size 5 Try.underlying22 info_u8 _ l rfl (hown.alloc _) ⟨wr.heap.size,0,none⟩ (m % 128 + 128) rfl (by simp) (UInt8.ofNat (m % 128 + 128).toNat) HMC.out (by omega) (by simp;omega) ?_;intro v1 w1 hown1 hb1)
        go_roundw
        case rel => exact ⟨_,_,by omega,HL.out,rfl,HP.out,hown1,(hbel.alloc hsz _).trans hb1⟩
        case measure => simp [intOf];omega
  · have H:=Lib.hid h
    have h1 : n < 0 ∨ 999999 < n:=by omega
    clear h
    go_enter Try.func7,Try.ntmps7
    go_wp2
    all_goals go_ret2
    all_goals exact ⟨put_no H.out,Below.refl _ _⟩
end Go.Proofs.Ytidjpalnmnehmaa
