/- FoldNum and OpenNum, of the program and of the reference. -/
import Derived.Test.YteackbhcjolfiaaRows
import Derived.Test.YteackbhcjolfiaaAid
import Derived.ProofKit
import Derived.OpenShut
namespace Go.Proofs.Yteackbhcjolfiaa
open Go.ChangeShapes Go.WideShapes Go.ChangeAt Go.RowKit
/-- what FoldNum gives -/
def foldI (n : Int) : Int := if -499999 ≤ n ∧ n ≤ 499999 then (if n < 0 then -2 * n - 1 else 2 * n) else 0
def foldB (n : Int) : Bool := decide (-499999 ≤ n ∧ n ≤ 499999)
def foldV (n : Int) : Value := .tuple #[.int .i64 (foldI n), .bool (foldB n)]
theorem ret_ib {a b : Int} {x y : Bool} (h1 : a = b) (h2 : x = y) : Ending.returned (.tuple #[.int .i64 a, .bool x]) = .returned (.tuple #[.int .i64 b, .bool y]) := by rw [h1, h2]
theorem fold_no {n : Int} (h : ¬ (-499999 ≤ n ∧ n ≤ 499999)) : Ending.returned (.tuple #[.int .i64 0, .bool false]) = .returned (foldV n) := ret_ib (by rw [foldI, if_neg h]) (by rw [foldB, decide_eq_false h])
theorem fold_pos {n : Int} (h : 0 ≤ n ∧ n ≤ 499999) : Ending.returned (.tuple #[.int .i64 (2 * n), .bool true]) = .returned (foldV n) := ret_ib (by rw [foldI, if_pos (by omega), if_neg (by omega)]) (by rw [foldB, decide_eq_true (by omega)])
theorem fold_neg {n : Int} (h : -499999 ≤ n ∧ n < 0) : Ending.returned (.tuple #[.int .i64 (-2 * n - 1), .bool true]) = .returned (foldV n) := ret_ib (by rw [foldI, if_pos (by omega), if_pos (by omega)]) (by rw [foldB, decide_eq_true (by omega)])
theorem fold_impl (n : Int) (w : World) (_b1 : -9223372036854775808 ≤ n) (_b2 : n ≤ 9223372036854775807) : Calls Try.prog 16 #[.int .i64 n] w fun e w' => e = .returned (foldV n) ∧ w = w' := by
  by_cases h1 : -499999 ≤ n
  · by_cases h2 : n ≤ 499999
    · by_cases h3 : 0 ≤ n
      · go_enter Try.func16, Try.ntmps16
        go_wp2
        go_ret2
        exact ⟨fold_pos ⟨h3, h2⟩, rfl⟩
      · have h3' : n < 0 := by omega
        go_enter Try.func16, Try.ntmps16
        go_wp2
        go_ret2
        exact ⟨fold_neg ⟨h1, h3'⟩, rfl⟩
    · have h2' : 499999 < n := by omega
      go_enter Try.func16, Try.ntmps16
      go_wp2
      go_ret2
      exact ⟨fold_no (by omega), rfl⟩
  · have h1' : n < -499999 := by omega
    go_enter Try.func16, Try.ntmps16
    go_wp2
    go_ret2
    exact ⟨fold_no (by omega), rfl⟩
theorem fold_spec (n : Int) (w : World) (_b1 : -9223372036854775808 ≤ n) (_b2 : n ≤ 9223372036854775807) : Calls Try.prog 15 #[.int .i64 n] w fun e w' => e = .returned (foldV n) ∧ w = w' := by
  by_cases h1 : -499999 ≤ n
  · by_cases h2 : n ≤ 499999
    · by_cases h3 : 0 ≤ n
      · go_enter Try.func15, Try.ntmps15
        go_wp2
        go_ret2
        exact ⟨fold_pos ⟨h3, h2⟩, rfl⟩
      · have h3' : n < 0 := by omega
        go_enter Try.func15, Try.ntmps15
        go_wp2
        go_ret2
        exact ⟨fold_neg ⟨h1, h3'⟩, rfl⟩
    · have h2' : 499999 < n := by omega
      go_enter Try.func15, Try.ntmps15
      go_wp2
      go_ret2
      exact ⟨fold_no (by omega), rfl⟩
  · have h1' : n < -499999 := by omega
    go_enter Try.func15, Try.ntmps15
    go_wp2
    go_ret2
    exact ⟨fold_no (by omega), rfl⟩
theorem l6In_yes (n a b : Int) (w : World) (h1 : a ≤ n) (h2 : n ≤ b) : Calls Try.prog 32 #[.int .i64 n, .int .i64 a, .int .i64 b] w fun e w' => e = .returned (.bool true) ∧ w = w' := by
  go_enter Try.func32, Try.ntmps32
  go_wp2
  go_ret
  exact ⟨rfl, rfl⟩
theorem ret_b {x y : Bool} (h2 : x = y) : Ending.returned (.bool x) = .returned (.bool y) := by rw [h2]
theorem l6In_no (n a b : Int) (w : World) (h : n < a ∨ b < n) : Calls Try.prog 32 #[.int .i64 n, .int .i64 a, .int .i64 b] w fun e w' => e = .returned (.bool false) ∧ w = w' := by
  by_cases h1 : a ≤ n
  · have h2 : b < n := by omega
    clear h
    go_enter Try.func32, Try.ntmps32
    go_wp2
    go_ret
    exact ⟨ret_b (decide_eq_false (by omega)), rfl⟩
  · have h2 : n < a := by omega
    clear h
    go_enter Try.func32, Try.ntmps32
    go_wp2
    go_ret
    exact ⟨ret_b rfl, rfl⟩
/-- what OpenNum gives -/
def openI (n : Int) : Int := if 0 ≤ n ∧ n ≤ 999998 then (if n % 2 = 0 then n / 2 else -((n + 1) / 2)) else 0
def openB (n : Int) : Bool := decide (0 ≤ n ∧ n ≤ 999998)
def openV (n : Int) : Value := .tuple #[.int .i64 (openI n), .bool (openB n)]
theorem openV_no {n : Int} (h : ¬ (0 ≤ n ∧ n ≤ 999998)) : Ending.returned (.tuple #[.int .i64 0, .bool false]) = .returned (openV n) := ret_ib (by rw [openI, if_neg h]) (by rw [openB, decide_eq_false h])
theorem openV_yes {n m : Int} (h : 0 ≤ n ∧ n ≤ 999998) (hm : m = (if n % 2 = 0 then n / 2 else -((n + 1) / 2))) : Ending.returned (.tuple #[.int .i64 m, .bool true]) = .returned (openV n) := ret_ib (by rw [openI, if_pos h, hm]) (by rw [openB, decide_eq_true h])
theorem w64_range (n : Int) : -9223372036854775808 ≤ wrap64 n ∧ wrap64 n ≤ 9223372036854775807 := by unfold wrap64; omega
theorem half {n : Int} (h1 : 0 ≤ n) (h2 : n ≤ 999999) : wrap64 (-(n + 1).tdiv 2) = -((n + 1) / 2) := by
  rw [Int.tdiv_eq_ediv_of_nonneg (by omega)]
  exact IntWalk.wrap64_in _ ⟨by omega, by omega⟩
theorem open_impl (n : Int) (w : World) (_b1 : -9223372036854775808 ≤ n) (_b2 : n ≤ 9223372036854775807) : Calls Try.prog 22 #[.int .i64 n] w fun e w' => e = .returned (openV n) ∧ w = w' := by
  by_cases h1 : 0 ≤ n
  · by_cases h2 : n ≤ 999998
    · by_cases h3 : n % 2 = 0
      · have H := Lib.hid h3
        have h4 : (n % 2 == 0) = true := by rw [h3]; rfl
        clear h3
        go_enter Try.func22, Try.ntmps22
        go_wp2
        go_ret2
        exact ⟨openV_yes ⟨h1, h2⟩ (by rw [if_pos H.out]), rfl⟩
      · have H := Lib.hid h3
        have h4 : (n % 2 == 0) = false := by rw [beq_eq_false_iff_ne]; exact h3
        clear h3
        go_enter Try.func22, Try.ntmps22
        go_wp2
        go_ret2
        exact ⟨openV_yes ⟨h1, h2⟩ (by rw [if_neg H.out]; exact half h1 (by omega)), rfl⟩
    · have h2' : 999998 < n := by omega
      go_enter Try.func22, Try.ntmps22
      go_wp2
      go_ret2
      exact ⟨openV_no (by omega), rfl⟩
  · have h1' : n < 0 := by omega
    go_enter Try.func22, Try.ntmps22
    go_wp2
    go_ret2
    exact ⟨openV_no (by omega), rfl⟩
theorem foldI_eq {n m : Int} (h : -499999 ≤ n ∧ n ≤ 499999) (hm : (if n < 0 then -2 * n - 1 else 2 * n) = m) : foldV n = .tuple #[.int .i64 m, .bool true] := by rw [foldV, foldI, foldB, if_pos h, hm, decide_eq_true h]
theorem foldV_no {n : Int} (h : ¬ (-499999 ≤ n ∧ n ≤ 499999)) : foldV n = .tuple #[.int .i64 0, .bool false] := by rw [foldV, foldI, foldB, if_neg h, decide_eq_false h]
set_option maxRecDepth 20000 in
theorem open_spec (n : Int) (w : World) (b1 : -9223372036854775808 ≤ n) (b2 : n ≤ 9223372036854775807) : Calls Try.prog 21 #[.int .i64 n] w fun e w' => e = .returned (openV n) ∧ w = w' := by
  by_cases h1 : 0 ≤ n
  · by_cases h2 : n ≤ 999998
    · by_cases h3 : n % 2 = 0
      · have H := Lib.hid h3
        have h4 : (n % 2 == 1) = false := by rw [h3]; rfl
        have hf := Lib.hid (foldI_eq (n := n / 2) (m := n) (by omega) (by rw [if_neg (by omega)]; omega))
        clear h3
        go_enter Try.func21, Try.ntmps21
        go_wp2_with (first | (go_at_call 15; refine (fold_spec (n / 2) _ (by omega) (by omega)).mono ?_; rintro e w' ⟨rfl, rfl⟩; rw [hf.out]) | (go_at_call 32; refine (l6In_yes _ _ _ _ (by omega) (by omega)).mono ?_; rintro e w' ⟨rfl, rfl⟩))
        go_ret2
        exact ⟨openV_yes ⟨h1, h2⟩ (by rw [if_pos H.out]), rfl⟩
      · have H := Lib.hid h3
        have h4 : (n % 2 == 1) = true := by rw [beq_iff_eq]; omega
        have hf := Lib.hid (foldI_eq (n := -((n + 1) / 2)) (m := n) (by omega) (by rw [if_pos (by omega)]; omega))
        have hh := Lib.hid (half h1 (show n ≤ 999999 by omega))
        clear h3
        go_enter Try.func21, Try.ntmps21
        go_wp2_with (first | (go_at_call 15; rw [hh.out]; refine (fold_spec _ _ (by omega) (by omega)).mono ?_; rintro e w' ⟨rfl, rfl⟩; rw [hf.out]) | (go_at_call 32; refine (l6In_yes _ _ _ _ (by omega) (by omega)).mono ?_; rintro e w' ⟨rfl, rfl⟩))
        go_ret2
        exact ⟨openV_yes ⟨h1, h2⟩ (by rw [if_neg H.out]), rfl⟩
    · by_cases h3 : n = 999999
      · subst h3
        have hf := Lib.hid (foldV_no (n := -500000) (by omega))
        go_enter Try.func21, Try.ntmps21
        go_wp2_with (first | (go_at_call 15; refine (fold_spec (-500000) _ (by omega) (by omega)).mono ?_; rintro e w' ⟨rfl, rfl⟩; rw [hf.out]) | (go_at_call 32; refine (l6In_yes _ _ _ _ (by omega) (by omega)).mono ?_; rintro e w' ⟨rfl, rfl⟩))
        go_ret2
        exact ⟨openV_no (by omega), rfl⟩
      · have h5 : 999999 < n := by omega
        clear h2 h3
        by_cases h4 : (n % 2 == 1) = true
        · go_enter Try.func21, Try.ntmps21
          go_wp2_with (first | (go_at_call 15; refine (fold_spec _ _ (w64_range _).1 (w64_range _).2).mono ?_; rintro e w' ⟨rfl, rfl⟩; rw [foldV]) | (go_at_call 32; refine (l6In_no _ _ _ _ (by omega)).mono ?_; rintro e w' ⟨rfl, rfl⟩))
          go_ret2
          exact ⟨openV_no (by omega), rfl⟩
        · simp only [Bool.not_eq_true] at h4
          go_enter Try.func21, Try.ntmps21
          go_wp2_with (first | (go_at_call 15; refine (fold_spec _ _ (by omega) (by omega)).mono ?_; rintro e w' ⟨rfl, rfl⟩; rw [foldV]) | (go_at_call 32; refine (l6In_no _ _ _ _ (by omega)).mono ?_; rintro e w' ⟨rfl, rfl⟩))
          go_ret2
          exact ⟨openV_no (by omega), rfl⟩
  · have h5 : n < 0 := by omega
    clear h1
    have h4 : (n.tmod 2 == 1) = false := by
      rw [beq_eq_false_iff_ne]
      intro h
      have : n.tmod 2 ≤ 0 := by
        have := Int.neg_tmod (a := -n) (b := 2)
        rw [Int.neg_neg] at this
        rw [this, Int.tmod_eq_emod_of_nonneg (by omega)]
        omega
      omega
    have td : n.tdiv 2 = -((-n) / 2) := by
      have := Int.neg_tdiv (a := -n) (b := 2)
      rw [Int.neg_neg] at this
      rw [this, Int.tdiv_eq_ediv_of_nonneg (by omega)]
    have t1 := Lib.hid (show -9223372036854775808 ≤ n.tdiv 2 by omega)
    have t2 := Lib.hid (show n.tdiv 2 ≤ 9223372036854775807 by omega)
    clear td
    go_enter Try.func21, Try.ntmps21
    go_wp2_with (first | (go_at_call 15; refine (fold_spec _ _ t1.out t2.out).mono ?_; rintro e w' ⟨rfl, rfl⟩; rw [foldV]) | (go_at_call 32; refine (l6In_no _ _ _ _ (by omega)).mono ?_; rintro e w' ⟨rfl, rfl⟩))
    go_ret2
    exact ⟨openV_no (by omega), rfl⟩
end Go.Proofs.Yteackbhcjolfiaa
