/- The reference's KindDeep. -/
import Derived.Test.YtnmdaljieohkiaaDoorKc
namespace Go.Proofs.YtnmdaljieohkiaaDoor
open Go.ChangeShapes Go.WideShapes Go.ChangeAt Go.RowKit Go.Lib
set_option linter.unusedVariables false
theorem ok_len {l : List UInt8} (h : okB l = true) : l.length ≤ 12 := by
  unfold okB Wf.parseK at h
  by_cases h1 : l.length ≤ 12
  · exact h1
  · rw [if_neg h1] at h; cases h
theorem ok_core {l : List UInt8} (h : okB l = true) : l.dropWhile Wf.isSgn ≠ [] := by
  intro h0
  have h1 := ok_len h
  unfold okB Wf.parseK at h
  rw [if_pos h1, Wf.kindIn_split, h0] at h
  simp [Wf.coreIn] at h
theorem len_core (l : List UInt8) : (l.takeWhile Wf.isSgn).length + (l.dropWhile Wf.isSgn).length = l.length := by
  rw [← List.length_append, List.takeWhile_append_dropWhile]
/-- how many signs a kind has, or -1 -/
def deepI (l : List UInt8) : Int := if okB l = true then ((l.takeWhile Wf.isSgn).length : Int) else -1
theorem ret_i {a b : Int} (h1 : a = b) : Ending.returned (.int .i64 a) = .returned (.int .i64 b) := by rw [h1]
set_option maxRecDepth 20000 in
theorem deep_spec (s : ByteArray) (w : World) : Calls Tryd.prog 17 #[.string s] w fun e w' => e = .returned (.int .i64 (deepI s.data.toList)) ∧ w = w' := by
  have HK := hid (kindOk_spec s.size s w (Nat.le_refl _))
  cases ho : okB s.data.toList with
  | false =>
    rw [ho] at HK
    have HO := hid ho
    clear ho
    go_enter Tryd.func17, Tryd.ntmps17
    go_wp2_with (go_at_call 13; refine HK.out.mono ?_; rintro e w1 ⟨rfl, rfl⟩)
    go_ret
    exact ⟨ret_i (by rw [deepI, HO.out]; rfl), rfl⟩
  | true =>
    rw [ho] at HK
    have HO := hid ho
    have hl := size_list s
    have hlc := len_core s.data.toList
    have hol := ok_len ho
    have HC := hid (core_spec s w (by omega) (ok_core ho))
    obtain ⟨t, ht⟩ : ∃ t : ByteArray, (⟨(s.data.toList.dropWhile Wf.isSgn).toArray⟩ : ByteArray) = t := ⟨_, rfl⟩
    have hts : t.size = (s.data.toList.dropWhile Wf.isSgn).length := by rw [← ht]; rfl
    rw [ht] at HC
    have h12 : s.size ≤ 12 := by omega
    have h13 : t.size ≤ 12 := by omega
    have HT := hid (show ((s.size : Int) - t.size) = deepI s.data.toList by rw [deepI, if_pos HO.out]; omega)
    clear ho ht hts hlc hl hol
    go_enter Tryd.func17, Tryd.ntmps17
    go_wp2_with (first | (go_at_call 13; refine HK.out.mono ?_; rintro e w1 ⟨rfl, rfl⟩) | (go_at_call 34; refine HC.out.mono ?_; rintro e w1 ⟨rfl, rfl⟩))
    go_ret
    exact ⟨ret_i HT.out, rfl⟩
end Go.Proofs.YtnmdaljieohkiaaDoor
