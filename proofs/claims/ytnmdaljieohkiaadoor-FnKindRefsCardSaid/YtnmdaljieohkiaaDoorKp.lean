/- The reference's KindPart. -/
import Derived.Test.YtnmdaljieohkiaaDoorKd
namespace Go.Proofs.YtnmdaljieohkiaaDoor
open Go.ChangeShapes Go.WideShapes Go.ChangeAt Go.RowKit Go.Lib
set_option linter.unusedVariables false
/-- what KindPart gives -/
def partV (l : List UInt8) : Value :=
  match l with
  | [] => .tuple #[.string ⟨#[]⟩, .bool false]
  | c :: r => if okB (c :: r) = true ∧ Wf.isSgn c = true then .tuple #[.string ⟨r.toArray⟩, .bool true] else .tuple #[.string ⟨#[]⟩, .bool false]
theorem ret_v {a b : Value} (h1 : a = b) : Ending.returned a = .returned b := by rw [h1]
theorem ok_ne {l : List UInt8} (h : okB l = true) : l ≠ [] := by
  intro h0; exact ok_core h (by rw [h0]; rfl)
theorem partV_no {l : List UInt8} (h : okB l = false) : partV l = .tuple #[.string ⟨#[]⟩, .bool false] := by
  cases l with
  | nil => rfl
  | cons c r => rw [partV, if_neg (by rw [h]; simp)]
set_option maxRecDepth 20000 in
theorem part_spec (s : ByteArray) (w : World) : Calls Tryd.prog 15 #[.string s] w fun e w' => e = .returned (partV s.data.toList) ∧ w = w' := by
  have HK := hid (kindOk_spec s.size s w (Nat.le_refl _))
  cases ho : okB s.data.toList with
  | false =>
    rw [ho] at HK
    have HV := hid (partV_no ho)
    clear ho
    go_enter Tryd.func15, Tryd.ntmps15
    go_wp2_with (go_at_call 13; refine HK.out.mono ?_; rintro e w1 ⟨rfl, rfl⟩)
    go_ret2
    exact ⟨ret_v HV.out.symm, rfl⟩
  | true =>
    rw [ho] at HK
    have hl := size_list s
    have hol := ok_len ho
    have h12 : s.size ≤ 12 := by omega
    have h1 : 1 ≤ s.size := by
      rcases Nat.eq_zero_or_pos s.size with h | h
      · exact absurd (List.eq_nil_of_length_eq_zero (by omega)) (ok_ne ho)
      · exact h
    obtain ⟨c, hc, e0⟩ := byte_at s 0 (by omega)
    obtain ⟨a, ha⟩ : ∃ a, c.toNat = a := ⟨_, rfl⟩
    rw [ha] at e0
    by_cases h91 : a = 91 ∨ a = 63
    · have HV := hid (show partV s.data.toList = .tuple #[.string (s.extract 1 s.size), .bool true] by
        cases hd : s.data.toList with
        | nil => exact absurd hd (ok_ne ho)
        | cons x r =>
          rw [hd] at hc hl
          have hx : x = c := by simpa using hc
          subst hx
          rw [partV, if_pos ⟨by rw [← hd]; exact ho, sgn_of (by rw [ha]; exact h91)⟩]
          have he : s.extract 1 s.size = ⟨r.toArray⟩ := by
            rw [eq_list, ext_list, hd, List.drop_one, List.tail_cons, List.take_of_length_le (by simp at hl; omega)]
          rw [he])
      clear ho hc ha hl hol
      rcases h91 with h | h
      · subst h
        go_enter Tryd.func15, Tryd.ntmps15
        go_wp2_with (go_at_call 13; refine HK.out.mono ?_; rintro e w1 ⟨rfl, rfl⟩)
        go_ret2
        exact ⟨ret_v HV.out.symm, rfl⟩
      · subst h
        go_enter Tryd.func15, Tryd.ntmps15
        go_wp2_with (go_at_call 13; refine HK.out.mono ?_; rintro e w1 ⟨rfl, rfl⟩)
        go_ret2
        exact ⟨ret_v HV.out.symm, rfl⟩
    · have HV := hid (show partV s.data.toList = .tuple #[.string ⟨#[]⟩, .bool false] by
        cases hd : s.data.toList with
        | nil => rfl
        | cons x r =>
          rw [hd] at hc
          have hx : x = c := by simpa using hc
          subst hx
          rw [partV, if_neg (by rw [sgn_not (by rw [ha]; exact h91)]; simp)])
      have t1 : ((a : Int) == 91) = false := by rw [beq_eq_false_iff_ne]; omega
      have t2 : ((a : Int) == 63) = false := by rw [beq_eq_false_iff_ne]; omega
      have t3 : ((a : Int) != 91) = true := by unfold bne; rw [t1]; rfl
      have t4 : ((a : Int) != 63) = true := by unfold bne; rw [t2]; rfl
      clear ho hc ha hl hol h91
      go_enter Tryd.func15, Tryd.ntmps15
      go_wp2_with (go_at_call 13; refine HK.out.mono ?_; rintro e w1 ⟨rfl, rfl⟩)
      go_ret2
      exact ⟨ret_v HV.out.symm, rfl⟩
end Go.Proofs.YtnmdaljieohkiaaDoor
