import Derived.Test.YtnmdaljieohkiaaDoorTr
import Derived.Test.YtnmdaljieohkiaaDoorTn
import Derived.Test.YtnmdaljieohkiaaDoorKs
namespace Go.Proofs.YtnmdaljieohkiaaDoor
open Go.ChangeShapes Go.WideShapes Go.ChangeAt Go.RowKit Go.Lib
set_option linter.unusedVariables false
theorem name_trim (s : ByteArray) (h1 : 1 ≤ s.size) (h3 : s.size ≤ 3) : (Lib.trimS s.data.toList letters).isEmpty = Wf.isName s.data.toList := by
  have hl := size_list s
  have h := trim_nil s.data.toList
  unfold Wf.isName
  rw [hl, decide_eq_true h1, decide_eq_true h3, Bool.true_and, Bool.true_and, Bool.eq_iff_iff, List.isEmpty_iff]
  exact h
theorem name_off (s : ByteArray) (h : s.size < 1 ∨ 3 < s.size) : false = Wf.isName s.data.toList := by
  have hl := size_list s
  unfold Wf.isName
  rw [hl]
  rcases h with h | h
  · rw [decide_eq_false (by omega), Bool.false_and, Bool.false_and]
  · rw [decide_eq_false (p := s.size ≤ 3) (by omega), Bool.and_false, Bool.false_and]
set_option maxRecDepth 20000 in
theorem isName_impl (s : ByteArray) (w : World) (hs : s.size ≤ 1048576) : Calls Tryd.prog 43 #[.string s] w fun e w' => e = .returned (.bool (Wf.isName s.data.toList)) ∧ Below w.heap.size w w' := by
  have HT := hid (letters_off s w (by omega))
  by_cases h1 : 1 ≤ s.size
  · by_cases h3 : s.size ≤ 3
    · have HN := hid (name_trim s h1 h3)
      go_enter Tryd.func43, Tryd.ntmps43
      go_wp2_with (go_at_call 51; refine HT.out.mono ?_; rintro e w1 ⟨rfl, hb⟩)
      go_ret
      exact ⟨ret_b HN.out, hb⟩
    · have HN := hid (name_off s (by omega))
      go_enter Tryd.func43, Tryd.ntmps43
      go_wp2
      go_ret
      exact ⟨ret_b HN.out, Below.refl _ _⟩
  · have HN := hid (name_off s (by omega))
    go_enter Tryd.func43, Tryd.ntmps43
    go_wp2
    go_ret
    exact ⟨ret_b HN.out, Below.refl _ _⟩
end Go.Proofs.YtnmdaljieohkiaaDoor
