/- Plain laws on texts, kinds, schemas and values; no program in sight. Numbers in decimal, of the program and of the reference. -/
import Derived.Test.YtbkfjopoacbdgaaDoorQ0
import Derived.Test.YtbkfjopoacbdgaaDoorQ1
import Derived.Deep.RegionWith
import Derived.IntWalk
namespace Wf
set_option linter.unusedVariables false
def dec (n : Nat) : Bs := if n < 10 then [UInt8.ofNat (48 + n)] else dec (n / 10) ++ [UInt8.ofNat (48 + n % 10)]
termination_by n
decreasing_by omega
def isDig (c : UInt8) : Bool := decide (48 ≤ c.toNat) && decide (c.toNat ≤ 57)
def val (s : Bs) : Nat := s.foldl (fun n c => 10 * n + (c.toNat - 48)) 0
def plainN (s : Bs) (most : Nat) : Option Nat :=
  if s ≠ [] ∧ s.length ≤ 6 ∧ s.all isDig = true ∧ (s.head? = some 48 → s.length = 1) ∧ val s ≤ most then some (val s) else none

theorem u8 {n : Nat} (h : n < 256) : (UInt8.ofNat n).toNat = n := by simp [UInt8.toNat_ofNat']; omega
theorem snoc_ind {P : Bs → Prop} (h0 : P []) (h1 : ∀ s c, P s → P (s ++ [c])) (s : Bs) : P s := by
  have h : ∀ t : Bs, P t.reverse := by
    intro t
    induction t with
    | nil => exact h0
    | cons c t ih => rw [List.reverse_cons]; exact h1 _ _ ih
  have := h s.reverse
  rwa [List.reverse_reverse] at this
theorem head_app {s t : Bs} (h : s ≠ []) : (s ++ t).head? = s.head? := by cases s with | nil => exact absurd rfl h | cons a s => rfl
theorem dec_lt {n : Nat} (h : n < 10) : dec n = [UInt8.ofNat (48 + n)] := by rw [dec, if_pos h]
theorem dec_ge {n : Nat} (h : 10 ≤ n) : dec n = dec (n / 10) ++ [UInt8.ofNat (48 + n % 10)] := by rw [dec, if_neg (by omega)]

theorem dec_ind {P : Nat → Prop} (h0 : ∀ n, n < 10 → P n) (h1 : ∀ n, 10 ≤ n → P (n / 10) → P n) (n : Nat) : P n := by
  induction n using Nat.strongRecOn with
  | ind n ih =>
    by_cases h : n < 10
    · exact h0 n h
    · exact h1 n (by omega) (ih (n / 10) (by omega))

theorem isDig_ofNat {n : Nat} (h : n < 10) : isDig (UInt8.ofNat (48 + n)) = true := by
  have := u8 (show 48 + n < 256 by omega)
  simp only [isDig, this, Bool.and_eq_true, decide_eq_true_eq]; omega
theorem dec_all (n : Nat) : (dec n).all isDig = true := by
  induction n using dec_ind with
  | h0 n h => rw [dec_lt h]; simp only [List.all_cons, List.all_nil, Bool.and_true]; exact isDig_ofNat h
  | h1 n h ih =>
    rw [dec_ge h, List.all_append, ih]
    simp only [List.all_cons, List.all_nil, Bool.and_true, Bool.true_and]; exact isDig_ofNat (by omega)
theorem dec_ne (n : Nat) : dec n ≠ [] := by
  by_cases h : n < 10
  · rw [dec_lt h]; simp
  · rw [dec_ge (by omega)]; simp
theorem val_snoc (s : Bs) (c : UInt8) : val (s ++ [c]) = 10 * val s + (c.toNat - 48) := by simp [val, List.foldl_append]
theorem val_dec (n : Nat) : val (dec n) = n := by
  induction n using dec_ind with
  | h0 n h =>
    rw [dec_lt h]
    have := u8 (show 48 + n < 256 by omega)
    simp only [val, List.foldl_cons, List.foldl_nil, this]; omega
  | h1 n h ih =>
    rw [dec_ge h, val_snoc, ih, u8 (by omega)]; omega
theorem dec_head (n : Nat) (h : (dec n).head? = some 48) : n = 0 := by
  induction n using dec_ind with
  | h0 n h' =>
    rw [dec_lt h'] at h
    simp only [List.head?_cons, Option.some.injEq] at h
    have := congrArg UInt8.toNat h
    rw [u8 (by omega)] at this
    simp at this; exact this
  | h1 n h' ih =>
    rw [dec_ge h'] at h
    have hn := dec_ne (n / 10)
    rw [head_app hn] at h
    have := ih h
    omega
theorem dec_inj {a b : Nat} (h : dec a = dec b) : a = b := by rw [← val_dec a, h, val_dec]
theorem dec_len (n k : Nat) (h : n < 10 ^ (k + 1)) : (dec n).length ≤ k + 1 := by
  induction k generalizing n with
  | zero => rw [dec_lt (by simpa using h)]; simp
  | succ k ih =>
    by_cases h1 : n < 10
    · rw [dec_lt h1]; simp
    · rw [dec_ge (by omega)]
      have := ih (n / 10) (by have : (10:Nat) ^ (k + 1 + 1) = 10 ^ (k+1) * 10 := rfl; omega)
      simp; omega
theorem dec_len6 {n : Nat} (h : n ≤ 999999) : (dec n).length ≤ 6 := dec_len n 5 (by have : (10:Nat)^6 = 1000000 := rfl; omega)
theorem dec_len_lo (n k : Nat) (h : 10 ^ k ≤ n) : k + 1 ≤ (dec n).length := by
  induction k generalizing n with
  | zero => have := List.length_pos_iff.2 (dec_ne n); omega
  | succ k ih =>
    have e : (10:Nat) ^ (k + 1) = 10 ^ k * 10 := rfl
    have hp : 0 < (10:Nat)^k := Nat.pow_pos (by omega)
    rw [dec_ge (by omega)]
    have := ih (n / 10) (by omega)
    simp; omega

theorem plainN_dec {n most : Nat} (h : n ≤ most) (h6 : n ≤ 999999) : plainN (dec n) most = some n := by
  rw [plainN, if_pos, val_dec]
  refine ⟨dec_ne n, dec_len6 h6, dec_all n, fun h0 => ?_, by rw [val_dec]; exact h⟩
  rw [dec_head n h0, dec_lt (by omega)]; rfl

/-- figures without a needless zero are the decimal of their number -/
theorem dec_val {s : Bs} (hs : s ≠ []) (hd : s.all isDig = true) (h0 : s.head? = some 48 → s.length = 1) : dec (val s) = s := by
  induction s using snoc_ind with
  | h0 => exact absurd rfl hs
  | h1 s c ih =>
    simp only [List.all_append, List.all_cons, List.all_nil, Bool.and_true, Bool.and_eq_true, isDig, decide_eq_true_eq] at hd
    obtain ⟨hd1, hc1, hc2⟩ := hd
    have hcc : UInt8.ofNat (48 + (c.toNat - 48)) = c := by
      rw [show 48 + (c.toNat - 48) = c.toNat by omega]; simp
    by_cases hn : s = []
    · subst hn
      simp only [List.nil_append, val, List.foldl_cons, List.foldl_nil]
      rw [dec_lt (by omega)]; simp only [Nat.mul_zero, Nat.zero_add]; rw [hcc]
    · have h0' : s.head? = some 48 → s.length = 1 := by
        intro hh
        rw [head_app hn] at h0
        have := h0 hh
        simp at this; exact absurd this hn
      have ih' := ih hn hd1 h0'
      have hz : val s ≠ 0 := by
        intro hz
        rw [hz, dec_lt (by omega)] at ih'
        rw [head_app hn, ← ih'] at h0
        have := h0 (by decide)
        simp at this
      rw [val_snoc, dec_ge (by omega)]
      rw [show (10 * val s + (c.toNat - 48)) / 10 = val s by omega, show (10 * val s + (c.toNat - 48)) % 10 = c.toNat - 48 by omega, ih', hcc]
theorem plainN_some {s : Bs} {most n : Nat} (h : plainN s most = some n) : s = dec n ∧ n ≤ most ∧ n ≤ 999999 := by
  rw [plainN] at h
  split at h
  · rename_i hx
    obtain ⟨h1, h2, h3, h4, h5⟩ := hx
    simp only [Option.some.injEq] at h
    subst h
    refine ⟨(dec_val h1 h3 h4).symm, h5, ?_⟩
    have e := dec_val h1 h3 h4
    by_cases hb : val s ≤ 999999
    · exact hb
    · have := dec_len_lo (val s) 6 (by have : (10:Nat)^6 = 1000000 := rfl; omega)
      rw [e] at this; omega
  · simp at h
end Wf

namespace Go.Proofs.YtbkfjopoacbdgaaDoor
open Go.ChangeShapes Go.WideShapes Go.ChangeAt Go.RowKit Go.Lib
set_option linter.unusedVariables false
theorem val_lt {s : List UInt8} (h : s.all Wf.isDig = true) : Wf.val s < 10 ^ s.length := by
  revert h
  induction s using Wf.snoc_ind with
  | h0 => intro _; decide
  | h1 s c ih =>
    intro h
    rw [List.all_append, Bool.and_eq_true] at h
    have h1 := ih h.1
    have h2 : c.toNat ≤ 57 := by
      have := h.2
      simp [Wf.isDig] at this
      exact this.2
    rw [Wf.val_snoc, List.length_append, List.length_singleton, Nat.pow_succ]
    omega
theorem dec_step {n : Nat} (h : 10 ≤ n) : Wf.dec n = Wf.dec (n / 10) ++ Wf.dec (n % 10) := by
  rw [Wf.dec_ge h, Wf.dec_lt (show n % 10 < 10 by omega)]
theorem tx_app (a b : List UInt8) : (⟨a.toArray⟩ : ByteArray) ++ ⟨b.toArray⟩ = ⟨(a ++ b).toArray⟩ := by rw [eq_list]; simp
theorem ret_str {a b : ByteArray} (h : a = b) : Ending.returned (.string a) = .returned (.string b) := by rw [h]
theorem ret_ib {a b : Int} {x y : Bool} (h1 : a = b) (h2 : x = y) : Ending.returned (.tuple #[.int .i64 a, .bool x]) = .returned (.tuple #[.int .i64 b, .bool y]) := by rw [h1, h2]
set_option maxRecDepth 20000 in
theorem decimal (m : Nat) : ∀ (n : Nat) (w : World), n ≤ m → n ≤ 999999 → Calls Tryd.prog 70 #[.int .i64 n] w fun e w' => e = .returned (tx (Wf.dec n)) ∧ Below w.heap.size w w' := by
  have kc := run_convert_lit (P := Tryd.prog) 36 9 5 Tryd.underlying36 Tryd.underlying5 Tryd.underlying9
  induction m with
  | zero =>
    intro n w hm hn
    have : n = 0 := by omega
    subst this
    go_enter Tryd.func70, Tryd.ntmps70
    go_wp2_with fail
    go_ret
    exact ⟨by rw [Wf.dec_lt (by omega)]; rfl, (Below.refl _ _).alloc (Nat.le_refl _) _⟩
  | succ m ih =>
    intro n w hm hn
    by_cases h : n < 10
    · have HD := hid (Wf.dec_lt h)
      go_enter Tryd.func70, Tryd.ntmps70
      go_wp2_with fail
      go_ret
      exact ⟨by rw [HD.out]; simp [UInt8.ofNat_add], (Below.refl _ _).alloc (Nat.le_refl _) _⟩
    · have HD := hid (dec_step (n := n) (by omega))
      have H1 := hid fun w => ih (n / 10) w (by omega) (by omega)
      have H2 := hid fun w => ih (n % 10) w (by omega) (by omega)
      obtain ⟨a, ha⟩ : ∃ a, Wf.dec (n / 10) = a := ⟨_, rfl⟩
      obtain ⟨b, hb⟩ : ∃ b, Wf.dec (n % 10) = b := ⟨_, rfl⟩
      have la : (⟨a.toArray⟩ : ByteArray).size ≤ 6 := by rw [← ha]; exact Wf.dec_len6 (by omega)
      have lb : (⟨b.toArray⟩ : ByteArray).size ≤ 6 := by rw [← hb]; exact Wf.dec_len6 (by omega)
      rw [ha] at H1
      rw [hb] at H2
      rw [ha, hb] at HD
      have HA := hid (tx_app a b)
      obtain ⟨A, hA⟩ : ∃ A : ByteArray, (⟨a.toArray⟩ : ByteArray) = A := ⟨_, rfl⟩
      obtain ⟨B, hB⟩ : ∃ B : ByteArray, (⟨b.toArray⟩ : ByteArray) = B := ⟨_, rfl⟩
      rw [tx, hA] at H1
      rw [tx, hB] at H2
      rw [hA, hB] at HA
      rw [hA] at la
      rw [hB] at lb
      clear ih ha hb hA hB
      go_enter Tryd.func70, Tryd.ntmps70
      go_wp2_with (first | (go_at_call 70; have _u := hb1; refine (H2.out _).mono ?_; rintro e w2 ⟨rfl, hb2⟩) | (go_at_call 70; refine (H1.out _).mono ?_; rintro e w1 ⟨rfl, hb1⟩))
      go_ret
      exact ⟨by rw [HD.out, tx, ← HA.out]; rfl, hb1.trans (hb2.mono hb1.size)⟩
set_option maxRecDepth 20000 in
set_option maxHeartbeats 1000000 in
theorem l6Dec (m : Nat) : ∀ (n : Nat) (w : World), n ≤ m → n ≤ 1000000000 → Calls Tryd.prog 67 #[.int .i64 n] w fun e w' => e = .returned (tx (Wf.dec n)) ∧ Below w.heap.size w w' := by
  have kc := run_convert_lit (P := Tryd.prog) 36 9 5 Tryd.underlying36 Tryd.underlying5 Tryd.underlying9
  induction m with
  | zero =>
    intro n w hm hn
    have : n = 0 := by omega
    subst this
    go_enter Tryd.func67, Tryd.ntmps67
    go_wp2_with fail
    go_ret
    exact ⟨by rw [Wf.dec_lt (by omega)]; rfl, (Below.refl _ _).alloc (Nat.le_refl _) _⟩
  | succ m ih =>
    intro n w hm hn
    by_cases h : n < 10
    · have HD := hid (Wf.dec_lt h)
      go_enter Tryd.func67, Tryd.ntmps67
      go_wp2_with fail
      go_ret
      exact ⟨by rw [HD.out]; simp [UInt8.ofNat_add], (Below.refl _ _).alloc (Nat.le_refl _) _⟩
    · obtain ⟨q, hq⟩ : ∃ q, n / 10 = q := ⟨_, rfl⟩
      obtain ⟨r, hr⟩ : ∃ r, n % 10 = r := ⟨_, rfl⟩
      have hr9 : r < 10 := by omega
      have HD := Wf.dec_ge (n := n) (by omega)
      have H1 := hid fun w => ih q w (by omega) (by omega)
      rw [hq, hr] at HD
      obtain ⟨a, ha⟩ : ∃ a, Wf.dec q = a := ⟨_, rfl⟩
      have la : (⟨a.toArray⟩ : ByteArray).size ≤ 10 := by rw [← ha]; exact Wf.dec_len q 9 (by have : (10:Nat)^10 = 10000000000 := rfl; omega)
      rw [ha] at H1 HD
      obtain ⟨A, hA⟩ : ∃ A : ByteArray, (⟨a.toArray⟩ : ByteArray) = A := ⟨_, rfl⟩
      have HA : A ++ (⟨#[48 + UInt8.ofNat r]⟩ : ByteArray) = ⟨(Wf.dec n).toArray⟩ := by
        rw [HD, ← hA, ← tx_app, UInt8.ofNat_add]; rfl
      rw [tx, hA] at H1
      rw [hA] at la
      have kc1 := fun W a c h => run_convert_one (P := Tryd.prog) 36 9 5 Tryd.underlying36 Tryd.underlying5 Tryd.underlying9 W a c (48 + (r : Int)) h
      have e1 : IntKind.i64.wrap ((n : Int) / 10) = (q : Int) := by rw [IntWalk.i64_in _ (by omega)]; omega
      have e2 : (n : Int).tmod 10 = (r : Int) := by rw [Int.tmod_eq_emod_of_nonneg (by omega)]; omega
      have e3 : IntKind.i64.wrap (48 + (r : Int)) = 48 + (r : Int) := IntWalk.i64_in _ (by omega)
      have e4 : IntKind.u8.wrap (48 + (r : Int)) = 48 + (r : Int) := by simp [IntKind.wrap, IntKind.bits, IntKind.signed]; omega
      have HAA := hid HA
      clear ih ha hA hq hr HD HA
      go_enter Tryd.func67, Tryd.ntmps67
      go_wp2_with fail
      go_region_with (go_at_call 67; refine (H1.out _).mono ?_; rintro e w1 ⟨rfl, hb1⟩; obtain ⟨hc1, hc2⟩ := bcell hb1; have hz : w.heap.size < w1.heap.size + 1 := (by have := hb1.size; simp at this; omega); have B1 : Below w.heap.size w w1 := (by first | exact below_join ((Below.refl _ _).drew) hb1 | exact below_join (((Below.refl _ _).alloc (Nat.le_refl _) _).drew) hb1))
      all_goals go_wp2
      all_goals go_ret
      all_goals exact ⟨ret_str HAA.out, by first | exact B1 | exact B1.alloc B1.size _⟩
end Go.Proofs.YtbkfjopoacbdgaaDoor
