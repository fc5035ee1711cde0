/- Plain laws on what the functions on kinds give. -/
import Derived.Test.YtnmdaljieohkiaaDoorKa
import Derived.Test.YtnmdaljieohkiaaDoorKw
namespace Go.Proofs.YtnmdaljieohkiaaDoor
open Go.ChangeShapes Go.WideShapes Go.ChangeAt Go.RowKit Go.Lib
set_option linter.unusedVariables false
theorem deep_ok (l : List UInt8) : okB l = decide (deepI l ≥ 0) := by
  cases h : Wf.parseK l with
  | none => rw [ok_none h, deep_none h]; rfl
  | some k => rw [ok_some h, deep_some h]; exact (decide_eq_true (by omega)).symm
theorem parse_part {c : UInt8} {q : List UInt8} {k : Wf.K} (h : Wf.parseK (c :: q) = some k) (hc : Wf.isSgn c = true) : ∃ k', Wf.parseK q = some k' ∧ ((c = 91 ∧ k = .list k') ∨ (c = 63 ∧ k = .opt k')) := by
  unfold Wf.parseK at h
  by_cases h1 : (c :: q).length ≤ 12
  · rw [if_pos h1] at h
    have h2 : q.length ≤ 12 := by rw [List.length_cons] at h1; omega
    simp only [Wf.isSgn, Bool.or_eq_true, beq_iff_eq] at hc
    rcases hc with rfl | rfl
    · rw [Wf.kindIn, if_pos rfl] at h
      cases hq : Wf.kindIn q with
      | none => rw [hq] at h; cases h
      | some k' => rw [hq] at h; exact ⟨k', by rw [Wf.parseK, if_pos h2, hq], .inl ⟨rfl, by cases h; rfl⟩⟩
    · rw [Wf.kindIn, if_neg (by decide), if_pos rfl] at h
      cases hq : Wf.kindIn q with
      | none => rw [hq] at h; cases h
      | some k' => rw [hq] at h; exact ⟨k', by rw [Wf.parseK, if_pos h2, hq], .inr ⟨rfl, by cases h; rfl⟩⟩
  · rw [if_neg h1] at h; cases h
theorem deep_le (l : List UInt8) : -1 ≤ deepI l ∧ deepI l ≤ 12 := by
  unfold deepI
  by_cases h : okB l = true
  · rw [if_pos h]
    have h1 := ok_len h
    have h2 := len_core l
    omega
  · rw [if_neg h]; omega
/-- the parts of what KindPart gives -/
theorem part_cases (s : ByteArray) : (∃ t : ByteArray, partV s.data.toList = .tuple #[.string t, .bool false] ∧ deepI s.data.toList ≤ 0) ∨ (1 ≤ s.size ∧ partV s.data.toList = .tuple #[.string (s.extract 1 s.size), .bool true] ∧ deepI (s.extract 1 s.size).data.toList = deepI s.data.toList - 1 ∧ 1 ≤ deepI s.data.toList) := by
  have hl := size_list s
  cases hk : Wf.parseK s.data.toList with
  | none => exact .inl ⟨_, partV_no (ok_none hk), by rw [deep_none hk]; omega⟩
  | some k =>
    have ht := parse_text hk
    rcases signs_or k with ⟨c, r, h1, h2, q, h3, k', h4, h5⟩ | ⟨h1, c, r, h3, h2⟩
    · rw [h3] at ht
      have h6 := ext_tail s c q ht.symm
      obtain ⟨k2, hp, h7⟩ := parse_part (c := c) (q := q) (k := k) (by rw [ht]; exact hk) h2
      have h8 : k2.signs.length + 1 = k.signs.length := by rcases h7 with ⟨_, rfl⟩ | ⟨_, rfl⟩ <;> rfl
      refine .inr ⟨by rw [← hl, ← ht]; simp, ?_, ?_, ?_⟩
      · rw [h6, ← ht, partV, if_pos ⟨by rw [ht]; exact ok_some hk, h2⟩]
      · rw [h6, deep_some hk, deep_some hp]; omega
      · rw [deep_some hk]; omega
    · rw [h3] at ht
      exact .inl ⟨_, by rw [← ht, partV, if_neg (by rw [h2]; simp)], by rw [deep_some hk, h1]; exact Int.le_refl _⟩
theorem name_cases (s : ByteArray) : (∃ t : ByteArray, nameV s.data.toList = .tuple #[.string t, .bool false]) ∨ (∃ t : ByteArray, nameV s.data.toList = .tuple #[.string t, .bool true] ∧ t.size ≤ 100 ∧ Hid (((⟨#[64]⟩ : ByteArray) ++ t ++ (⟨#[59]⟩ : ByteArray)).toList = s.toList)) := by
  cases hk : Wf.parseK s.data.toList with
  | none => exact .inl ⟨⟨#[]⟩, by rw [nameV, if_neg (by rw [ok_none hk]; decide)]⟩
  | some k =>
    have ht := parse_text hk
    have ho := ok_len (ok_some hk)
    by_cases h : ∃ n, k = .ref n
    · obtain ⟨n, rfl⟩ := h
      refine .inr ⟨⟨n.toArray⟩, nameV_ref hk, ?_, hid (show _ = _ from ?_)⟩
      · rw [← ht, Wf.K.text] at ho
        simp only [List.length_cons, List.length_append, List.length_nil] at ho
        rw [tx_size]; omega
      · rw [ByteArray.toList_eq, ByteArray.toList_eq, ← ht, Wf.K.text]
        simp
    · refine .inl ⟨⟨#[]⟩, nameV_else hk ?_⟩
      cases k with
      | ref n => exact absurd ⟨n, rfl⟩ h
      | _ => simp [Wf.K.text]
end Go.Proofs.YtnmdaljieohkiaaDoor
