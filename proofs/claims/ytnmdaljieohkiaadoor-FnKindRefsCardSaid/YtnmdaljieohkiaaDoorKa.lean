/- The program's functions on kinds: each in one contract. -/
import Derived.Test.YtnmdaljieohkiaaDoorKi
namespace Go.Proofs.YtnmdaljieohkiaaDoor
open Go.ChangeShapes Go.WideShapes Go.ChangeAt Go.RowKit Go.Lib
set_option linter.unusedVariables false
theorem kindOk_any (s : ByteArray) (w : World) (hs : s.size ≤ 9223372036854775807) : Calls Tryd.prog 14 #[.string s] w fun e w' => e = .returned (.bool (okB s.data.toList)) ∧ Below w.heap.size w w' := by
  cases hk : Wf.parseK s.data.toList with
  | none => rw [ok_none hk]; exact kindOk_i_no s w hs hk
  | some k => rw [ok_some hk]; exact kindOk_i_yes s w hs _ _ _ (fun w => readKind_yes s k hk w hs)
theorem deep_some {l : List UInt8} {k : Wf.K} (h : Wf.parseK l = some k) : deepI l = k.signs.length := by
  rw [deepI, if_pos (ok_some h), ← parse_text h, take_signs]
theorem deep_none {l : List UInt8} (h : Wf.parseK l = none) : deepI l = -1 := by
  rw [deepI, if_neg (by rw [ok_none h]; decide)]
theorem kindDeep_any (s : ByteArray) (w : World) (hs : s.size ≤ 9223372036854775807) : Calls Tryd.prog 18 #[.string s] w fun e w' => e = .returned (.int .i64 (deepI s.data.toList)) ∧ Below w.heap.size w w' := by
  cases hk : Wf.parseK s.data.toList with
  | none => rw [deep_none hk]; exact kindDeep_i_no s w hs hk
  | some k => rw [deep_some hk]; exact kindDeep_i_yes s w hs _ _ _ (fun w => readKind_yes s k hk w hs)
/-- signs ahead, or none -/
theorem signs_or (k : Wf.K) : (∃ c r, k.signs = c :: r ∧ Wf.isSgn c = true ∧ ∃ q, k.text = c :: q ∧ ∃ k' : Wf.K, q = k'.text ∧ k'.signs = r) ∨ (k.signs = [] ∧ ∃ c r, k.text = c :: r ∧ Wf.isSgn c = false) := by
  cases k with
  | list k => exact .inl ⟨91, k.signs, rfl, rfl, _, rfl, k, rfl, rfl⟩
  | opt k => exact .inl ⟨63, k.signs, rfl, rfl, _, rfl, k, rfl, rfl⟩
  | num => exact .inr ⟨rfl, _, _, rfl, rfl⟩
  | txt => exact .inr ⟨rfl, _, _, rfl, rfl⟩
  | flag => exact .inr ⟨rfl, _, _, rfl, rfl⟩
  | ref n => exact .inr ⟨rfl, _, _, rfl, rfl⟩
theorem ext_tail (s : ByteArray) (c : UInt8) (r : List UInt8) (h : s.data.toList = c :: r) : s.extract 1 s.size = ⟨r.toArray⟩ := by
  have hl := size_list s
  refine eq_arr _ _ ?_
  rw [ext_list, h, List.drop_one, List.tail_cons, List.take_of_length_le (by rw [h] at hl; simp at hl; omega)]
theorem kindPart_any (s : ByteArray) (w : World) (hs : s.size ≤ 9223372036854775807) : Calls Tryd.prog 16 #[.string s] w fun e w' => e = .returned (partV s.data.toList) ∧ Below w.heap.size w w' := by
  cases hk : Wf.parseK s.data.toList with
  | none => rw [partV_no (ok_none hk)]; exact kindPart_i_no s w hs hk
  | some k =>
    have hl := size_list s
    have ht := parse_text hk
    rcases signs_or k with ⟨c, r, h1, h2, q, h3, _⟩ | ⟨h1, c, r, h3, h2⟩
    · rw [h3] at ht
      have hv : partV s.data.toList = .tuple #[.string (s.extract 1 s.size), .bool true] := by
        rw [ext_tail s c q ht.symm, ← ht, partV, if_pos ⟨by rw [ht]; exact ok_some hk, h2⟩]
      rw [hv]
      exact kindPart_i_yes s w hs _ _ _ (by rw [tx_empty, h1]; rfl) (by rw [← hl, ← ht]; simp) (fun w => readKind_yes s k hk w hs)
    · rw [h3] at ht
      have hv : partV s.data.toList = .tuple #[tx [], .bool false] := by
        rw [← ht, partV, if_neg (by rw [h2]; simp)]
      rw [hv]
      exact kindPart_i_none s w hs _ _ _ (by rw [tx_empty, h1]; rfl) (fun w => readKind_yes s k hk w hs)
theorem nameV_ref {l n : List UInt8} (h : Wf.parseK l = some (.ref n)) : nameV l = .tuple #[tx n, .bool true] := by
  rw [nameV, if_pos (ok_some h), ← parse_text h]
  rw [Wf.K.text, refV, if_pos rfl]
  rw [List.dropLast_concat]
theorem nameV_else {l : List UInt8} {k : Wf.K} (h : Wf.parseK l = some k) (hk : k.text.head? ≠ some 64) : nameV l = .tuple #[tx [], .bool false] := by
  rw [nameV, if_pos (ok_some h)]
  rw [parse_text h] at hk
  cases l with
  | nil => rfl
  | cons c r => rw [refV, if_neg (fun e => hk (by rw [e]; rfl))]
theorem kindName_any (s : ByteArray) (w : World) (hs : s.size ≤ 9223372036854775807) : Calls Tryd.prog 20 #[.string s] w fun e w' => e = .returned (nameV s.data.toList) ∧ Below w.heap.size w w' := by
  cases hk : Wf.parseK s.data.toList with
  | none => rw [show nameV s.data.toList = .tuple #[tx [], .bool false] by rw [nameV, if_neg (by rw [ok_none hk]; decide)]]; exact kindName_i_no s w hs hk
  | some k =>
    cases k with
    | ref n => rw [nameV_ref hk]; exact kindName_i_yes s w hs _ _ _ (by rw [tx_empty]; rfl) (by rw [tx_eq]; rfl) (fun w => readKind_yes s _ hk w hs)
    | num => rw [nameV_else hk (by decide)]; exact kindName_i_plain s w hs _ _ _ (by rw [tx_empty]; rfl) (by rw [tx_eq]; rfl) (fun w => readKind_yes s _ hk w hs)
    | txt => rw [nameV_else hk (by decide)]; exact kindName_i_plain s w hs _ _ _ (by rw [tx_empty]; rfl) (by rw [tx_eq]; rfl) (fun w => readKind_yes s _ hk w hs)
    | flag => rw [nameV_else hk (by decide)]; exact kindName_i_plain s w hs _ _ _ (by rw [tx_empty]; rfl) (by rw [tx_eq]; rfl) (fun w => readKind_yes s _ hk w hs)
    | list k => rw [nameV_else hk (by simp [Wf.K.text])]; exact kindName_i_signs s w hs _ _ _ (by rw [tx_empty]; rfl) (fun w => readKind_yes s _ hk w hs)
    | opt k => rw [nameV_else hk (by simp [Wf.K.text])]; exact kindName_i_signs s w hs _ _ _ (by rw [tx_empty]; rfl) (fun w => readKind_yes s _ hk w hs)
theorem partV_two (l : List UInt8) : ∃ (t : ByteArray) (b : Bool), partV l = .tuple #[.string t, .bool b] := by
  cases l with
  | nil => exact ⟨_, _, rfl⟩
  | cons c r =>
    by_cases h : okB (c :: r) = true ∧ Wf.isSgn c = true
    · rw [partV, if_pos h]; exact ⟨_, _, rfl⟩
    · rw [partV, if_neg h]; exact ⟨_, _, rfl⟩
theorem nameV_two (l : List UInt8) : ∃ (t : ByteArray) (b : Bool), nameV l = .tuple #[.string t, .bool b] := by
  by_cases h : okB l = true
  · rw [nameV, if_pos h]; exact refV_two l
  · rw [nameV, if_neg h]; exact ⟨_, _, rfl⟩
end Go.Proofs.YtnmdaljieohkiaaDoor
