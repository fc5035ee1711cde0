/- The reference's KindName. -/
import Derived.Test.YtnmdaljieohkiaaDoorKr
namespace Go.Proofs.YtnmdaljieohkiaaDoor
open Go.ChangeShapes Go.WideShapes Go.ChangeAt Go.RowKit Go.Lib
set_option linter.unusedVariables false
/-- what KindName gives -/
def nameV (l : List UInt8) : Value := if okB l = true then refV l else .tuple #[.string ⟨#[]⟩, .bool false]
theorem refV_two (l : List UInt8) : ∃ (t : ByteArray) (b : Bool), refV l = .tuple #[.string t, .bool b] := by
  cases l with
  | nil => exact ⟨_, _, rfl⟩
  | cons c r => by_cases h : c = 64 <;> simp [refV, h]
theorem ok_at_two {l : List UInt8} (h : okB l = true) (h2 : l.head? = some 64) : 2 ≤ l.length := by
  cases l with
  | nil => cases h2
  | cons c r =>
    cases r with
    | nil =>
      have hc : c = 64 := by simpa using h2
      subst hc
      exact absurd h (by decide)
    | cons d q => simp
set_option maxRecDepth 20000 in
theorem name_spec (s : ByteArray) (w : World) : Calls Tryd.prog 19 #[.string s] w fun e w' => e = .returned (nameV s.data.toList) ∧ w = w' := by
  have HK := hid (kindOk_spec s.size s w (Nat.le_refl _))
  cases ho : okB s.data.toList with
  | false =>
    rw [ho] at HK
    have HV := hid (show nameV s.data.toList = _ by rw [nameV, if_neg (by rw [ho]; simp)])
    clear ho
    go_enter Tryd.func19, Tryd.ntmps19
    go_wp2_with (go_at_call 13; refine HK.out.mono ?_; rintro e w1 ⟨rfl, rfl⟩)
    go_ret2
    exact ⟨ret_v HV.out.symm, rfl⟩
  | true =>
    rw [ho] at HK
    have hl := size_list s
    have hol := ok_len ho
    have h1 : 1 ≤ s.size := by
      rcases Nat.eq_zero_or_pos s.size with h | h
      · exact absurd (List.eq_nil_of_length_eq_zero (by omega)) (ok_ne ho)
      · exact h
    have HR := hid (ref_spec s w (by omega) h1 (fun h => by have := ok_at_two ho h; omega))
    obtain ⟨t, b, hv⟩ := refV_two s.data.toList
    have HV := hid (show nameV s.data.toList = .tuple #[.string t, .bool b] by rw [nameV, if_pos ho, hv])
    rw [hv] at HR
    clear ho hv hl hol
    go_enter Tryd.func19, Tryd.ntmps19
    go_wp2_with (first | (go_at_call 13; refine HK.out.mono ?_; rintro e w1 ⟨rfl, rfl⟩) | (go_at_call 35; refine HR.out.mono ?_; rintro e w1 ⟨rfl, rfl⟩))
    go_ret2
    exact ⟨ret_v HV.out.symm, rfl⟩
end Go.Proofs.YtnmdaljieohkiaaDoor
