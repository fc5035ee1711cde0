/- The reference's kinds: what stands behind the signs ahead. -/
import Derived.Test.YtnmdaljieohkiaaDoorKs
namespace Go.Proofs.YtnmdaljieohkiaaDoor
open Go.ChangeShapes Go.WideShapes Go.ChangeAt Go.RowKit Go.Lib
set_option linter.unusedVariables false
theorem sgn_of {c : UInt8} (h : c.toNat = 91 ∨ c.toNat = 63) : Wf.isSgn c = true := by
  rcases h with h | h
  · have : c = 91 := UInt8.toNat_inj.1 (by rw [h]; rfl)
    rw [this]; rfl
  · have : c = 63 := UInt8.toNat_inj.1 (by rw [h]; rfl)
    rw [this]; rfl
theorem sgn_not {c : UInt8} (h : ¬ (c.toNat = 91 ∨ c.toNat = 63)) : Wf.isSgn c = false := by
  cases hc : Wf.isSgn c with
  | false => rfl
  | true =>
    simp only [Wf.isSgn, Bool.or_eq_true, beq_iff_eq] at hc
    rcases hc with rfl | rfl
    · exact absurd (.inl rfl) h
    · exact absurd (.inr rfl) h
theorem core_drop {t : ByteArray} {c : UInt8} (hc : t.data.toList[0]? = some c) (h : c.toNat = 91 ∨ c.toNat = 63) : (t.extract 1 t.size).data.toList.dropWhile Wf.isSgn = t.data.toList.dropWhile Wf.isSgn := by
  have hl := size_list t
  rw [ext_list]
  cases hd : t.data.toList with
  | nil => rw [hd] at hc; simp at hc
  | cons x r =>
    rw [hd] at hc hl
    have hx : x = c := by simpa using hc
    subst hx
    rw [List.drop_one, List.tail_cons, List.take_of_length_le (by simp at hl; omega), List.dropWhile_cons_of_pos (sgn_of h)]
theorem core_end {t : ByteArray} {c : UInt8} (hc : t.data.toList[0]? = some c) (h : ¬ (c.toNat = 91 ∨ c.toNat = 63)) : t = ⟨(t.data.toList.dropWhile Wf.isSgn).toArray⟩ := by
  rw [eq_list]
  cases hd : t.data.toList with
  | nil => rfl
  | cons x r =>
    rw [hd] at hc
    have hx : x = c := by simpa using hc
    subst hx
    rw [List.dropWhile_cons_of_neg (by rw [sgn_not h]; decide)]
set_option maxRecDepth 20000 in
theorem core_spec (s : ByteArray) (w : World) (hs : s.size ≤ 1048576) (hd : s.data.toList.dropWhile Wf.isSgn ≠ []) : Calls Tryd.prog 34 #[.string s] w fun e w' => e = .returned (.string ⟨(s.data.toList.dropWhile Wf.isSgn).toArray⟩) ∧ w = w' := by
  have HD := hid hd
  clear hd
  go_enter Tryd.func34, Tryd.ntmps34
  go_wp2
  go_loopw [0] (fun v wr => ∃ t : ByteArray, v = .string t ∧ t.size ≤ 1048576 ∧ Hid (t.data.toList.dropWhile Wf.isSgn = s.data.toList.dropWhile Wf.isSgn) ∧ w = wr)
    (fun v _ => match v with | .string t => t.size | _ => 0)
  case atStart => exact ⟨s, rfl, hs, hid (show _ = _ from rfl), rfl⟩
  case round =>
    obtain ⟨t, rfl, ht, hx, rfl⟩ := hrel
    have h1 : 1 ≤ t.size := by
      rcases Nat.eq_zero_or_pos t.size with h | h
      · have hl := size_list t
        have h0 : t.data.toList = [] := List.eq_nil_of_length_eq_zero (by omega)
        have := hx.out
        rw [h0] at this
        exact absurd this.symm HD.out
      · exact h
    obtain ⟨c, hc, e0⟩ := byte_at t 0 (by omega)
    have HC := hid hc
    clear hc
    obtain ⟨a, ha⟩ : ∃ a, c.toNat = a := ⟨_, rfl⟩
    have HA := hid ha
    rw [ha] at e0
    clear ha
    by_cases h91 : a = 91 ∨ a = 63
    · have HN := hid (show (t.extract 1 t.size).data.toList.dropWhile Wf.isSgn = s.data.toList.dropWhile Wf.isSgn by rw [← hx.out]; exact core_drop HC.out (by rw [HA.out]; exact h91))
      have hsz : (t.extract 1 t.size).size = t.size - 1 := by rw [ByteArray.size_extract]; omega
      rcases h91 with h | h
      · subst h
        go_wp2
        go_roundw
        case rel => exact ⟨_, rfl, by omega, HN.out, trivial⟩
        case measure => show (t.extract 1 t.size).size < t.size; omega
      · subst h
        go_wp2
        go_roundw
        case rel => exact ⟨_, rfl, by omega, HN.out, trivial⟩
        case measure => show (t.extract 1 t.size).size < t.size; omega
    · have t1 : ((a : Int) == 91) = false := by rw [beq_eq_false_iff_ne]; omega
      have t2 : ((a : Int) == 63) = false := by rw [beq_eq_false_iff_ne]; omega
      have HE := hid (show t = ⟨(s.data.toList.dropWhile Wf.isSgn).toArray⟩ by rw [← hx.out]; exact core_end HC.out (by rw [HA.out]; exact h91))
      clear h91
      go_wp2
      go_ret
      exact ⟨by rw [← HE.out]; rfl, rfl⟩
end Go.Proofs.YtnmdaljieohkiaaDoor
