import Derived.Test.YteackbhcjolfiaaPlain0
namespace Wf

/-- the bytes of a number -/
def putN (n : Nat) : Bs := if n < 128 then [UInt8.ofNat n] else UInt8.ofNat (128 + n % 128) :: putN (n / 128)
termination_by n
decreasing_by omega

def getN : Bs → Option (Nat × Bs)
  | [] => none
  | a :: r => if a.toNat < 128 then some (a.toNat, r) else
    match r with
    | [] => none
    | b :: r2 => if b.toNat < 128 then (if b.toNat = 0 then none else some (a.toNat % 128 + b.toNat * 128, r2)) else
      match r2 with
      | [] => none
      | c :: r3 => if c.toNat < 128 then
          (if c.toNat = 0 ∨ 999999 < a.toNat % 128 + b.toNat % 128 * 128 + c.toNat * 16384 then none
           else some (a.toNat % 128 + b.toNat % 128 * 128 + c.toNat * 16384, r3)) else none

theorem putN_lt {n : Nat} (h : n < 128) : putN n = [UInt8.ofNat n] := by rw [putN, if_pos h]
theorem putN_ge {n : Nat} (h : 128 ≤ n) : putN n = UInt8.ofNat (128 + n % 128) :: putN (n / 128) := by rw [putN, if_neg (by omega)]

theorem toNat_ofNat {n : Nat} (h : n < 256) : (UInt8.ofNat n).toNat = n := by simp [UInt8.toNat_ofNat']; omega

theorem getN_putN (n : Nat) (h : n ≤ 999999) (r : Bs) : getN (putN n ++ r) = some (n, r) := by
  by_cases h1 : n < 128
  · rw [putN_lt h1]
    have t1 := toNat_ofNat (show n < 256 by omega)
    simp only [getN, List.cons_append, List.nil_append, t1, h1, if_true]
  · rw [putN_ge (by omega)]
    have t1 := toNat_ofNat (show 128 + n % 128 < 256 by omega)
    by_cases h2 : n / 128 < 128
    · rw [putN_lt h2]
      have t2 := toNat_ofNat (show n / 128 < 256 by omega)
      simp only [getN, List.cons_append, List.nil_append, t1, t2, h2, if_true]
      rw [if_neg (by omega), if_neg (by omega)]
      simp only [Option.some.injEq, Prod.mk.injEq, and_true]; omega
    · rw [putN_ge (by omega), putN_lt (by omega)]
      have t2 := toNat_ofNat (show 128 + n / 128 % 128 < 256 by omega)
      have t3 := toNat_ofNat (show n / 128 / 128 < 256 by omega)
      simp only [getN, List.cons_append, List.nil_append, t1, t2, t3]
      rw [if_neg (by omega), if_neg (by omega), if_pos (by omega), if_neg (by omega)]
      simp only [Option.some.injEq, Prod.mk.injEq, and_true]; omega

theorem getN_inv {s r : Bs} {n : Nat} (h : getN s = some (n, r)) : n ≤ 999999 ∧ s = putN n ++ r := by
  match s with
  | [] => simp [getN] at h
  | a :: r1 =>
    have ha := a.toNat_lt
    by_cases h1 : a.toNat < 128
    · simp [getN, h1] at h
      obtain ⟨rfl, rfl⟩ := h
      rw [putN_lt h1]; simp; omega
    · match r1 with
      | [] => simp [getN, h1] at h
      | b :: r2 =>
        have hb := b.toNat_lt
        by_cases h2 : b.toNat < 128
        · simp [getN, h1, h2] at h
          obtain ⟨h0, hn, rfl⟩ := h
          have e1 : n / 128 = b.toNat := by omega
          have e2 : 128 + n % 128 = a.toNat := by omega
          refine ⟨by omega, ?_⟩
          rw [putN_ge (by omega), e1, putN_lt h2, e2]; simp
        · match r2 with
          | [] => simp [getN, h1, h2] at h
          | c :: r3 =>
            have hc := c.toNat_lt
            by_cases h3 : c.toNat < 128
            · simp only [getN, h1, h2, h3, if_true, if_false] at h
              by_cases h4 : c.toNat = 0 ∨ 999999 < a.toNat % 128 + b.toNat % 128 * 128 + c.toNat * 16384
              · rw [if_pos h4] at h; simp at h
              · rw [if_neg h4] at h
                simp at h
                obtain ⟨hn, rfl⟩ := h
                have e1 : n / 128 / 128 = c.toNat := by omega
                have e2 : 128 + n / 128 % 128 = b.toNat := by omega
                have e3 : 128 + n % 128 = a.toNat := by omega
                refine ⟨by omega, ?_⟩
                rw [putN_ge (by omega), putN_ge (n := n / 128) (by omega), e1, putN_lt h3, e2, e3]; simp
            · simp [getN, h1, h2, h3] at h

theorem putN_len (n : Nat) (h : n ≤ 999999) : 1 ≤ (putN n).length ∧ (putN n).length ≤ 3 := by
  by_cases h1 : n < 128
  · rw [putN_lt h1]; simp
  · rw [putN_ge (by omega)]
    by_cases h2 : n / 128 < 128
    · rw [putN_lt h2]; simp
    · rw [putN_ge (by omega), putN_lt (by omega)]; simp
end Wf
