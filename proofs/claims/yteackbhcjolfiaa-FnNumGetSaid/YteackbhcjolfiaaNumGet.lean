/- The reader of numbers, of the program and of the reference: the number at the beginning of bytes. -/
import Derived.Test.YteackbhcjolfiaaRows
import Derived.Test.YteackbhcjolfiaaAid
import Derived.Test.YteackbhcjolfiaaPlainA
import Derived.ProofKit
import Derived.OpenShut
import Derived.BigQuiet
import Derived.WalkSpells
import Derived.WalkSmall
import Derived.Lib.PathFns
namespace Go.Proofs.Yteackbhcjolfiaa
open Go.ChangeShapes Go.WideShapes Go.ChangeAt Go.RowKit Go.Lib Go.Lib.Pa
set_option maxRecDepth 20000 in
theorem ngi_e0 (s : ByteArray) (w : World) (_hl : s.size ≤ 9223372036854775807) (h0 : s.size = 0) :
    Calls Try.prog 20 #[.string s] w fun e w' => e = .returned (.tuple #[.int .i64 0, .string ⟨#[]⟩, .bool false]) ∧ ∃ n, w' = w.drewN n := by
  go_enter Try.func20, Try.ntmps20
  go_wp2
  refine wp_loop_rounds 4 ?_
  rw [rounds_succ]
  go_wp2
  all_goals go_ret3
  all_goals exact ⟨rfl, 0, rfl⟩
set_option maxRecDepth 20000 in
theorem ngi_y0 (s : ByteArray) (w : World) (_hl : s.size ≤ 9223372036854775807) (h1 : 1 ≤ s.size) (a : Nat) (e0 : ∀ h, (s[0]'h).toNat = a) (ha : a < 128) :
    Calls Try.prog 20 #[.string s] w fun e w' => e = .returned (.tuple #[.int .i64 ((a : Int) % 128), .string (s.extract 1 s.size), .bool true]) ∧ ∃ n, w' = w.drewN n := by
  go_enter Try.func20, Try.ntmps20
  go_wp2
  refine wp_loop_rounds 4 ?_
  rw [rounds_succ]
  go_wp2
  go_region
  go_wp2
  all_goals go_ret3
  all_goals exact ⟨rfl, 1, rfl⟩
set_option maxRecDepth 20000 in
theorem ngi_e1 (s : ByteArray) (w : World) (_hl : s.size ≤ 9223372036854775807) (h1 : s.size = 1) (a : Nat) (e0 : ∀ h, (s[0]'h).toNat = a) (ha : 128 ≤ a) (ha2 : a < 256) :
    Calls Try.prog 20 #[.string s] w fun e w' => e = .returned (.tuple #[.int .i64 0, .string ⟨#[]⟩, .bool false]) ∧ ∃ n, w' = w.drewN n := by
  go_enter Try.func20, Try.ntmps20
  go_wp2
  refine wp_loop_rounds 4 ?_
  rw [rounds_succ]
  go_wp2
  rw [rounds_succ]
  go_wp2
  all_goals go_ret3
  all_goals exact ⟨rfl, 0, rfl⟩
set_option maxRecDepth 20000 in
theorem ngi_z1 (s : ByteArray) (w : World) (_hl : s.size ≤ 9223372036854775807) (h2 : 2 ≤ s.size) (a : Nat) (e0 : ∀ h, (s[0]'h).toNat = a) (ha : 128 ≤ a) (ha2 : a < 256) (e1 : ∀ h, (s[1]'h).toNat = 0) :
    Calls Try.prog 20 #[.string s] w fun e w' => e = .returned (.tuple #[.int .i64 0, .string ⟨#[]⟩, .bool false]) ∧ ∃ n, w' = w.drewN n := by
  go_enter Try.func20, Try.ntmps20
  go_wp2
  refine wp_loop_rounds 4 ?_
  rw [rounds_succ]
  go_wp2
  rw [rounds_succ]
  go_wp2
  all_goals go_ret3
  all_goals exact ⟨rfl, 0, rfl⟩
set_option maxRecDepth 20000 in
theorem ngi_y1 (s : ByteArray) (w : World) (_hl : s.size ≤ 9223372036854775807) (h2 : 2 ≤ s.size) (a : Nat) (e0 : ∀ h, (s[0]'h).toNat = a) (ha : 128 ≤ a) (ha2 : a < 256) (b : Nat) (e1 : ∀ h, (s[1]'h).toNat = b) (hb : b < 128) (hb0 : 0 < b) :
    Calls Try.prog 20 #[.string s] w fun e w' => e = .returned (.tuple #[.int .i64 ((a : Int) % 128 + (b : Int) % 128 * 128), .string (s.extract 2 s.size), .bool true]) ∧ ∃ n, w' = w.drewN n := by
  have hq : ((b : Int) == 0) = false := by rw [beq_eq_false_iff_ne]; omega
  go_enter Try.func20, Try.ntmps20
  go_wp2
  refine wp_loop_rounds 4 ?_
  rw [rounds_succ]
  go_wp2
  rw [rounds_succ]
  go_wp2
  go_region
  go_wp2
  all_goals go_ret3
  all_goals exact ⟨rfl, 1, rfl⟩
set_option maxRecDepth 20000 in
theorem ngi_e2 (s : ByteArray) (w : World) (_hl : s.size ≤ 9223372036854775807) (h2 : s.size = 2) (a : Nat) (e0 : ∀ h, (s[0]'h).toNat = a) (ha : 128 ≤ a) (ha2 : a < 256) (b : Nat) (e1 : ∀ h, (s[1]'h).toNat = b) (hb : 128 ≤ b) (hb2 : b < 256) :
    Calls Try.prog 20 #[.string s] w fun e w' => e = .returned (.tuple #[.int .i64 0, .string ⟨#[]⟩, .bool false]) ∧ ∃ n, w' = w.drewN n := by
  go_enter Try.func20, Try.ntmps20
  go_wp2
  refine wp_loop_rounds 4 ?_
  rw [rounds_succ]
  go_wp2
  rw [rounds_succ]
  go_wp2
  rw [rounds_succ]
  go_wp2
  all_goals go_ret3
  all_goals exact ⟨rfl, 0, rfl⟩
set_option maxRecDepth 20000 in
theorem ngi_z2 (s : ByteArray) (w : World) (_hl : s.size ≤ 9223372036854775807) (h2 : 3 ≤ s.size) (a : Nat) (e0 : ∀ h, (s[0]'h).toNat = a) (ha : 128 ≤ a) (ha2 : a < 256) (b : Nat) (e1 : ∀ h, (s[1]'h).toNat = b) (hb : 128 ≤ b) (hb2 : b < 256) (e2 : ∀ h, (s[2]'h).toNat = 0) :
    Calls Try.prog 20 #[.string s] w fun e w' => e = .returned (.tuple #[.int .i64 0, .string ⟨#[]⟩, .bool false]) ∧ ∃ n, w' = w.drewN n := by
  go_enter Try.func20, Try.ntmps20
  go_wp2
  refine wp_loop_rounds 4 ?_
  rw [rounds_succ]
  go_wp2
  rw [rounds_succ]
  go_wp2
  rw [rounds_succ]
  go_wp2
  all_goals go_ret3
  all_goals exact ⟨rfl, 0, rfl⟩
set_option maxRecDepth 20000 in
theorem ngi_b2 (s : ByteArray) (w : World) (_hl : s.size ≤ 9223372036854775807) (h2 : 3 ≤ s.size) (a : Nat) (e0 : ∀ h, (s[0]'h).toNat = a) (ha : 128 ≤ a) (ha2 : a < 256) (b : Nat) (e1 : ∀ h, (s[1]'h).toNat = b) (hb : 128 ≤ b) (hb2 : b < 256) (c : Nat) (e2 : ∀ h, (s[2]'h).toNat = c) (hc : c < 128) (hc0 : 0 < c) (hbig : 999999 < (a : Int) % 128 + (b : Int) % 128 * 128 + (c : Int) % 128 * 16384) :
    Calls Try.prog 20 #[.string s] w fun e w' => e = .returned (.tuple #[.int .i64 0, .string ⟨#[]⟩, .bool false]) ∧ ∃ n, w' = w.drewN n := by
  have hq : ((c : Int) == 0) = false := by rw [beq_eq_false_iff_ne]; omega
  go_enter Try.func20, Try.ntmps20
  go_wp2
  refine wp_loop_rounds 4 ?_
  rw [rounds_succ]
  go_wp2
  rw [rounds_succ]
  go_wp2
  rw [rounds_succ]
  go_wp2
  all_goals go_ret3
  all_goals exact ⟨rfl, 0, rfl⟩
set_option maxRecDepth 20000 in
theorem ngi_y2 (s : ByteArray) (w : World) (_hl : s.size ≤ 9223372036854775807) (h2 : 3 ≤ s.size) (a : Nat) (e0 : ∀ h, (s[0]'h).toNat = a) (ha : 128 ≤ a) (ha2 : a < 256) (b : Nat) (e1 : ∀ h, (s[1]'h).toNat = b) (hb : 128 ≤ b) (hb2 : b < 256) (c : Nat) (e2 : ∀ h, (s[2]'h).toNat = c) (hc : c < 128) (hc0 : 0 < c) (hbig : (a : Int) % 128 + (b : Int) % 128 * 128 + (c : Int) % 128 * 16384 ≤ 999999) :
    Calls Try.prog 20 #[.string s] w fun e w' => e = .returned (.tuple #[.int .i64 ((a : Int) % 128 + (b : Int) % 128 * 128 + (c : Int) % 128 * 16384), .string (s.extract 3 s.size), .bool true]) ∧ ∃ n, w' = w.drewN n := by
  have hq : ((c : Int) == 0) = false := by rw [beq_eq_false_iff_ne]; omega
  go_enter Try.func20, Try.ntmps20
  go_wp2
  refine wp_loop_rounds 4 ?_
  rw [rounds_succ]
  go_wp2
  rw [rounds_succ]
  go_wp2
  rw [rounds_succ]
  go_wp2
  go_region
  go_wp2
  all_goals go_ret3
  all_goals exact ⟨rfl, 1, rfl⟩
set_option maxRecDepth 20000 in
theorem ngi_e3 (s : ByteArray) (w : World) (_hl : s.size ≤ 9223372036854775807) (h2 : 3 ≤ s.size) (a : Nat) (e0 : ∀ h, (s[0]'h).toNat = a) (ha : 128 ≤ a) (ha2 : a < 256) (b : Nat) (e1 : ∀ h, (s[1]'h).toNat = b) (hb : 128 ≤ b) (hb2 : b < 256) (c : Nat) (e2 : ∀ h, (s[2]'h).toNat = c) (hc : 128 ≤ c) (hc2 : c < 256) :
    Calls Try.prog 20 #[.string s] w fun e w' => e = .returned (.tuple #[.int .i64 0, .string ⟨#[]⟩, .bool false]) ∧ ∃ n, w' = w.drewN n := by
  go_enter Try.func20, Try.ntmps20
  go_wp2
  refine wp_loop_rounds 4 ?_
  rw [rounds_succ]
  go_wp2
  rw [rounds_succ]
  go_wp2
  rw [rounds_succ]
  go_wp2
  rw [rounds_succ]
  go_wp2
  all_goals go_ret3
  all_goals exact ⟨rfl, 0, rfl⟩
set_option maxRecDepth 20000 in
theorem ngs_e0 (s : ByteArray) (w : World) (_hl : s.size ≤ 9223372036854775807) (h0 : s.size = 0) :
    Calls Try.prog 19 #[.string s] w fun e w' => e = .returned (.tuple #[.int .i64 0, .string ⟨#[]⟩, .bool false]) ∧ ∃ n, w' = w.drewN n := by
  go_enter Try.func19, Try.ntmps19
  go_wp2
  refine wp_loop_rounds 4 ?_
  rw [rounds_succ]
  go_wp2
  all_goals go_ret3
  all_goals exact ⟨rfl, 0, rfl⟩
set_option maxRecDepth 20000 in
theorem ngs_y0 (s : ByteArray) (w : World) (_hl : s.size ≤ 9223372036854775807) (h1 : 1 ≤ s.size) (a : Nat) (e0 : ∀ h, (s[0]'h).toNat = a) (ha : a < 128) :
    Calls Try.prog 19 #[.string s] w fun e w' => e = .returned (.tuple #[.int .i64 ((a : Int) % 128), .string (s.extract 1 s.size), .bool true]) ∧ ∃ n, w' = w.drewN n := by
  go_enter Try.func19, Try.ntmps19
  go_wp2
  refine wp_loop_rounds 4 ?_
  rw [rounds_succ]
  go_wp2
  go_region
  go_wp2
  all_goals go_ret3
  all_goals exact ⟨rfl, 1, rfl⟩
set_option maxRecDepth 20000 in
theorem ngs_e1 (s : ByteArray) (w : World) (_hl : s.size ≤ 9223372036854775807) (h1 : s.size = 1) (a : Nat) (e0 : ∀ h, (s[0]'h).toNat = a) (ha : 128 ≤ a) (ha2 : a < 256) :
    Calls Try.prog 19 #[.string s] w fun e w' => e = .returned (.tuple #[.int .i64 0, .string ⟨#[]⟩, .bool false]) ∧ ∃ n, w' = w.drewN n := by
  go_enter Try.func19, Try.ntmps19
  go_wp2
  refine wp_loop_rounds 4 ?_
  rw [rounds_succ]
  go_wp2
  rw [rounds_succ]
  go_wp2
  all_goals go_ret3
  all_goals exact ⟨rfl, 0, rfl⟩
set_option maxRecDepth 20000 in
theorem ngs_z1 (s : ByteArray) (w : World) (_hl : s.size ≤ 9223372036854775807) (h2 : 2 ≤ s.size) (a : Nat) (e0 : ∀ h, (s[0]'h).toNat = a) (ha : 128 ≤ a) (ha2 : a < 256) (e1 : ∀ h, (s[1]'h).toNat = 0) :
    Calls Try.prog 19 #[.string s] w fun e w' => e = .returned (.tuple #[.int .i64 0, .string ⟨#[]⟩, .bool false]) ∧ ∃ n, w' = w.drewN n := by
  go_enter Try.func19, Try.ntmps19
  go_wp2
  refine wp_loop_rounds 4 ?_
  rw [rounds_succ]
  go_wp2
  rw [rounds_succ]
  go_wp2
  all_goals go_ret3
  all_goals exact ⟨rfl, 0, rfl⟩
set_option maxRecDepth 20000 in
theorem ngs_y1 (s : ByteArray) (w : World) (_hl : s.size ≤ 9223372036854775807) (h2 : 2 ≤ s.size) (a : Nat) (e0 : ∀ h, (s[0]'h).toNat = a) (ha : 128 ≤ a) (ha2 : a < 256) (b : Nat) (e1 : ∀ h, (s[1]'h).toNat = b) (hb : b < 128) (hb0 : 0 < b) :
    Calls Try.prog 19 #[.string s] w fun e w' => e = .returned (.tuple #[.int .i64 ((a : Int) % 128 + (b : Int) % 128 * 128), .string (s.extract 2 s.size), .bool true]) ∧ ∃ n, w' = w.drewN n := by
  have hq : ((b : Int) == 0) = false := by rw [beq_eq_false_iff_ne]; omega
  go_enter Try.func19, Try.ntmps19
  go_wp2
  refine wp_loop_rounds 4 ?_
  rw [rounds_succ]
  go_wp2
  rw [rounds_succ]
  go_wp2
  go_region
  go_wp2
  all_goals go_ret3
  all_goals exact ⟨rfl, 1, rfl⟩
set_option maxRecDepth 20000 in
theorem ngs_e2 (s : ByteArray) (w : World) (_hl : s.size ≤ 9223372036854775807) (h2 : s.size = 2) (a : Nat) (e0 : ∀ h, (s[0]'h).toNat = a) (ha : 128 ≤ a) (ha2 : a < 256) (b : Nat) (e1 : ∀ h, (s[1]'h).toNat = b) (hb : 128 ≤ b) (hb2 : b < 256) :
    Calls Try.prog 19 #[.string s] w fun e w' => e = .returned (.tuple #[.int .i64 0, .string ⟨#[]⟩, .bool false]) ∧ ∃ n, w' = w.drewN n := by
  go_enter Try.func19, Try.ntmps19
  go_wp2
  refine wp_loop_rounds 4 ?_
  rw [rounds_succ]
  go_wp2
  rw [rounds_succ]
  go_wp2
  rw [rounds_succ]
  go_wp2
  all_goals go_ret3
  all_goals exact ⟨rfl, 0, rfl⟩
set_option maxRecDepth 20000 in
theorem ngs_z2 (s : ByteArray) (w : World) (_hl : s.size ≤ 9223372036854775807) (h2 : 3 ≤ s.size) (a : Nat) (e0 : ∀ h, (s[0]'h).toNat = a) (ha : 128 ≤ a) (ha2 : a < 256) (b : Nat) (e1 : ∀ h, (s[1]'h).toNat = b) (hb : 128 ≤ b) (hb2 : b < 256) (e2 : ∀ h, (s[2]'h).toNat = 0) :
    Calls Try.prog 19 #[.string s] w fun e w' => e = .returned (.tuple #[.int .i64 0, .string ⟨#[]⟩, .bool false]) ∧ ∃ n, w' = w.drewN n := by
  go_enter Try.func19, Try.ntmps19
  go_wp2
  refine wp_loop_rounds 4 ?_
  rw [rounds_succ]
  go_wp2
  rw [rounds_succ]
  go_wp2
  rw [rounds_succ]
  go_wp2
  all_goals go_ret3
  all_goals exact ⟨rfl, 0, rfl⟩
set_option maxRecDepth 20000 in
theorem ngs_b2 (s : ByteArray) (w : World) (_hl : s.size ≤ 9223372036854775807) (h2 : 3 ≤ s.size) (a : Nat) (e0 : ∀ h, (s[0]'h).toNat = a) (ha : 128 ≤ a) (ha2 : a < 256) (b : Nat) (e1 : ∀ h, (s[1]'h).toNat = b) (hb : 128 ≤ b) (hb2 : b < 256) (c : Nat) (e2 : ∀ h, (s[2]'h).toNat = c) (hc : c < 128) (hc0 : 0 < c) (hbig : 999999 < (a : Int) % 128 + (b : Int) % 128 * 128 + (c : Int) % 128 * 16384) :
    Calls Try.prog 19 #[.string s] w fun e w' => e = .returned (.tuple #[.int .i64 0, .string ⟨#[]⟩, .bool false]) ∧ ∃ n, w' = w.drewN n := by
  have hq : ((c : Int) == 0) = false := by rw [beq_eq_false_iff_ne]; omega
  go_enter Try.func19, Try.ntmps19
  go_wp2
  refine wp_loop_rounds 4 ?_
  rw [rounds_succ]
  go_wp2
  rw [rounds_succ]
  go_wp2
  rw [rounds_succ]
  go_wp2
  all_goals go_ret3
  all_goals exact ⟨rfl, 0, rfl⟩
set_option maxRecDepth 20000 in
theorem ngs_y2 (s : ByteArray) (w : World) (_hl : s.size ≤ 9223372036854775807) (h2 : 3 ≤ s.size) (a : Nat) (e0 : ∀ h, (s[0]'h).toNat = a) (ha : 128 ≤ a) (ha2 : a < 256) (b : Nat) (e1 : ∀ h, (s[1]'h).toNat = b) (hb : 128 ≤ b) (hb2 : b < 256) (c : Nat) (e2 : ∀ h, (s[2]'h).toNat = c) (hc : c < 128) (hc0 : 0 < c) (hbig : (a : Int) % 128 + (b : Int) % 128 * 128 + (c : Int) % 128 * 16384 ≤ 999999) :
    Calls Try.prog 19 #[.string s] w fun e w' => e = .returned (.tuple #[.int .i64 ((a : Int) % 128 + (b : Int) % 128 * 128 + (c : Int) % 128 * 16384), .string (s.extract 3 s.size), .bool true]) ∧ ∃ n, w' = w.drewN n := by
  have hq : ((c : Int) == 0) = false := by rw [beq_eq_false_iff_ne]; omega
  go_enter Try.func19, Try.ntmps19
  go_wp2
  refine wp_loop_rounds 4 ?_
  rw [rounds_succ]
  go_wp2
  rw [rounds_succ]
  go_wp2
  rw [rounds_succ]
  go_wp2
  go_region
  go_wp2
  all_goals go_ret3
  all_goals exact ⟨rfl, 1, rfl⟩
set_option maxRecDepth 20000 in
theorem ngs_e3 (s : ByteArray) (w : World) (_hl : s.size ≤ 9223372036854775807) (h2 : 3 ≤ s.size) (a : Nat) (e0 : ∀ h, (s[0]'h).toNat = a) (ha : 128 ≤ a) (ha2 : a < 256) (b : Nat) (e1 : ∀ h, (s[1]'h).toNat = b) (hb : 128 ≤ b) (hb2 : b < 256) (c : Nat) (e2 : ∀ h, (s[2]'h).toNat = c) (hc : 128 ≤ c) (hc2 : c < 256) :
    Calls Try.prog 19 #[.string s] w fun e w' => e = .returned (.tuple #[.int .i64 0, .string ⟨#[]⟩, .bool false]) ∧ ∃ n, w' = w.drewN n := by
  go_enter Try.func19, Try.ntmps19
  go_wp2
  refine wp_loop_rounds 4 ?_
  rw [rounds_succ]
  go_wp2
  rw [rounds_succ]
  go_wp2
  rw [rounds_succ]
  go_wp2
  rw [rounds_succ]
  go_wp2
  all_goals go_ret3
  all_goals exact ⟨rfl, 0, rfl⟩
/-- the value of a number at the beginning of bytes -/
def getNV (o : Option (Nat × Wf.Bs)) : Value :=
  match o with
  | none => .tuple #[.int .i64 0, .string ⟨#[]⟩, .bool false]
  | some (n, r) => .tuple #[.int .i64 (n : Int), .string ⟨r.toArray⟩, .bool true]
theorem ret3 {a b : Int} {s t : ByteArray} {x y : Bool} (h1 : a = b) (h2 : s = t) (h3 : x = y) : Ending.returned (.tuple #[.int .i64 a, .string s, .bool x]) = .returned (.tuple #[.int .i64 b, .string t, .bool y]) := by rw [h1, h2, h3]
theorem byte_fact {s : ByteArray} {l : List UInt8} (hs : s.data.toList = l) {i : Nat} {c : UInt8} (hc : l[i]? = some c) : ∀ h : i < s.size, (s[i]'h).toNat = c.toNat := by
  intro h
  subst hs
  have : s.data.toList[i]? = some (s[i]'h) := by
    rw [Array.getElem?_toList, Array.getElem?_eq_getElem (by exact h)]; rfl
  rw [this] at hc
  simp only [Option.some.injEq] at hc
  rw [hc]
theorem numGet_impl (s : ByteArray) (w : World) (hl : s.size ≤ 9223372036854775807) :
    Calls Try.prog 20 #[.string s] w fun e w' => e = .returned (getNV (Wf.getN s.data.toList)) ∧ ∃ n, w' = w.drewN n := by
  obtain ⟨l, hs⟩ : ∃ l, s.data.toList = l := ⟨_, rfl⟩
  have hsz : s.size = l.length := by rw [← hs]; exact Array.length_toList.symm
  rw [hs]
  match l with
  | [] => exact ngi_e0 s w hl (by simpa using hsz)
  | a :: r =>
    simp only [List.length_cons] at hsz
    have e0 := byte_fact hs (i := 0) (c := a) rfl
    have ha := a.toNat_lt
    by_cases h1 : a.toNat < 128
    · have hg : Wf.getN (a :: r) = some (a.toNat, r) := by simp [Wf.getN, h1]
      rw [hg]
      refine (ngi_y0 s w hl (by omega) _ e0 h1).mono fun e w' ⟨he, hw⟩ => ⟨?_, hw⟩
      rw [he, extract_from, hs]
      exact ret3 (by omega) rfl rfl
    · match r with
      | [] =>
        have hg : Wf.getN [a] = none := by simp [Wf.getN, h1]
        rw [hg]
        exact ngi_e1 s w hl (by simpa using hsz) _ e0 (by omega) ha
      | b :: r2 =>
        simp only [List.length_cons] at hsz
        have e1 := byte_fact hs (i := 1) (c := b) rfl
        have hb := b.toNat_lt
        by_cases h2 : b.toNat < 128
        · by_cases h3 : b.toNat = 0
          · have hg : Wf.getN (a :: b :: r2) = none := by simp [Wf.getN, h1, h3]
            rw [hg]
            rw [h3] at e1
            exact ngi_z1 s w hl (by omega) _ e0 (by omega) ha e1
          · have hg : Wf.getN (a :: b :: r2) = some (a.toNat % 128 + b.toNat * 128, r2) := by simp [Wf.getN, h1, h2, h3]
            rw [hg]
            refine (ngi_y1 s w hl (by omega) _ e0 (by omega) ha _ e1 h2 (by omega)).mono fun e w' ⟨he, hw⟩ => ⟨?_, hw⟩
            rw [he, extract_from, hs]
            exact ret3 (by omega) rfl rfl
        · match r2 with
          | [] =>
            have hg : Wf.getN [a, b] = none := by simp [Wf.getN, h1, h2]
            rw [hg]
            exact ngi_e2 s w hl (by simpa using hsz) _ e0 (by omega) ha _ e1 (by omega) hb
          | c :: r3 =>
            simp only [List.length_cons] at hsz
            have e2 := byte_fact hs (i := 2) (c := c) rfl
            have hc := c.toNat_lt
            by_cases h4 : c.toNat < 128
            · by_cases h5 : c.toNat = 0
              · have hg : Wf.getN (a :: b :: c :: r3) = none := by simp [Wf.getN, h1, h2, h4, h5]
                rw [hg]
                rw [h5] at e2
                exact ngi_z2 s w hl (by omega) _ e0 (by omega) ha _ e1 (by omega) hb e2
              · by_cases h6 : 999999 < a.toNat % 128 + b.toNat % 128 * 128 + c.toNat * 16384
                · have hg : Wf.getN (a :: b :: c :: r3) = none := by simp only [Wf.getN, if_neg h1, if_neg h2, if_pos h4]; rw [if_pos (.inr h6)]
                  rw [hg]
                  exact ngi_b2 s w hl (by omega) _ e0 (by omega) ha _ e1 (by omega) hb _ e2 h4 (by omega) (by omega)
                · have hg : Wf.getN (a :: b :: c :: r3) = some (a.toNat % 128 + b.toNat % 128 * 128 + c.toNat * 16384, r3) := by simp only [Wf.getN, if_neg h1, if_neg h2, if_pos h4]; rw [if_neg (by omega)]
                  rw [hg]
                  refine (ngi_y2 s w hl (by omega) _ e0 (by omega) ha _ e1 (by omega) hb _ e2 h4 (by omega) (by omega)).mono fun e w' ⟨he, hw⟩ => ⟨?_, hw⟩
                  rw [he, extract_from, hs]
                  exact ret3 (by omega) rfl rfl
            · have hg : Wf.getN (a :: b :: c :: r3) = none := by simp [Wf.getN, h1, h2, h4]
              rw [hg]
              exact ngi_e3 s w hl (by omega) _ e0 (by omega) ha _ e1 (by omega) hb _ e2 (by omega) hc

theorem numGet_spec (s : ByteArray) (w : World) (hl : s.size ≤ 9223372036854775807) :
    Calls Try.prog 19 #[.string s] w fun e w' => e = .returned (getNV (Wf.getN s.data.toList)) ∧ ∃ n, w' = w.drewN n := by
  obtain ⟨l, hs⟩ : ∃ l, s.data.toList = l := ⟨_, rfl⟩
  have hsz : s.size = l.length := by rw [← hs]; exact Array.length_toList.symm
  rw [hs]
  match l with
  | [] => exact ngs_e0 s w hl (by simpa using hsz)
  | a :: r =>
    simp only [List.length_cons] at hsz
    have e0 := byte_fact hs (i := 0) (c := a) rfl
    have ha := a.toNat_lt
    by_cases h1 : a.toNat < 128
    · have hg : Wf.getN (a :: r) = some (a.toNat, r) := by simp [Wf.getN, h1]
      rw [hg]
      refine (ngs_y0 s w hl (by omega) _ e0 h1).mono fun e w' ⟨he, hw⟩ => ⟨?_, hw⟩
      rw [he, extract_from, hs]
      exact ret3 (by omega) rfl rfl
    · match r with
      | [] =>
        have hg : Wf.getN [a] = none := by simp [Wf.getN, h1]
        rw [hg]
        exact ngs_e1 s w hl (by simpa using hsz) _ e0 (by omega) ha
      | b :: r2 =>
        simp only [List.length_cons] at hsz
        have e1 := byte_fact hs (i := 1) (c := b) rfl
        have hb := b.toNat_lt
        by_cases h2 : b.toNat < 128
        · by_cases h3 : b.toNat = 0
          · have hg : Wf.getN (a :: b :: r2) = none := by simp [Wf.getN, h1, h3]
            rw [hg]
            rw [h3] at e1
            exact ngs_z1 s w hl (by omega) _ e0 (by omega) ha e1
          · have hg : Wf.getN (a :: b :: r2) = some (a.toNat % 128 + b.toNat * 128, r2) := by simp [Wf.getN, h1, h2, h3]
            rw [hg]
            refine (ngs_y1 s w hl (by omega) _ e0 (by omega) ha _ e1 h2 (by omega)).mono fun e w' ⟨he, hw⟩ => ⟨?_, hw⟩
            rw [he, extract_from, hs]
            exact ret3 (by omega) rfl rfl
        · match r2 with
          | [] =>
            have hg : Wf.getN [a, b] = none := by simp [Wf.getN, h1, h2]
            rw [hg]
            exact ngs_e2 s w hl (by simpa using hsz) _ e0 (by omega) ha _ e1 (by omega) hb
          | c :: r3 =>
            simp only [List.length_cons] at hsz
            have e2 := byte_fact hs (i := 2) (c := c) rfl
            have hc := c.toNat_lt
            by_cases h4 : c.toNat < 128
            · by_cases h5 : c.toNat = 0
              · have hg : Wf.getN (a :: b :: c :: r3) = none := by simp [Wf.getN, h1, h2, h4, h5]
                rw [hg]
                rw [h5] at e2
                exact ngs_z2 s w hl (by omega) _ e0 (by omega) ha _ e1 (by omega) hb e2
              · by_cases h6 : 999999 < a.toNat % 128 + b.toNat % 128 * 128 + c.toNat * 16384
                · have hg : Wf.getN (a :: b :: c :: r3) = none := by simp only [Wf.getN, if_neg h1, if_neg h2, if_pos h4]; rw [if_pos (.inr h6)]
                  rw [hg]
                  exact ngs_b2 s w hl (by omega) _ e0 (by omega) ha _ e1 (by omega) hb _ e2 h4 (by omega) (by omega)
                · have hg : Wf.getN (a :: b :: c :: r3) = some (a.toNat % 128 + b.toNat % 128 * 128 + c.toNat * 16384, r3) := by simp only [Wf.getN, if_neg h1, if_neg h2, if_pos h4]; rw [if_neg (by omega)]
                  rw [hg]
                  refine (ngs_y2 s w hl (by omega) _ e0 (by omega) ha _ e1 (by omega) hb _ e2 h4 (by omega) (by omega)).mono fun e w' ⟨he, hw⟩ => ⟨?_, hw⟩
                  rw [he, extract_from, hs]
                  exact ret3 (by omega) rfl rfl
            · have hg : Wf.getN (a :: b :: c :: r3) = none := by simp [Wf.getN, h1, h2, h4]
              rw [hg]
              exact ngs_e3 s w hl (by omega) _ e0 (by omega) ha _ e1 (by omega) hb _ e2 (by omega) hc

end Go.Proofs.Yteackbhcjolfiaa
