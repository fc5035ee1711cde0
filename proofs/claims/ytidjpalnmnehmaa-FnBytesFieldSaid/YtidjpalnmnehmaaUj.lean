/- Plain words for the law on a field of bytes. -/
import Derived.Test.YtidjpalnmnehmaaF39
import Derived.Test.YtidjpalnmnehmaaUh
namespace Go.Proofs.Ytidjpalnmnehmaa
open Go.ChangeShapes Go.WideShapes Go.ChangeAt Go.RowKit Go.Lib
set_option linter.unusedVariables false
set_option linter.unusedSimpArgs false
theorem putV_yes {n : Nat} (h : n ≤ 999999) : putV (n : Int) = .tuple #[.string ⟨(Wf.putN n).toArray⟩, .bool true] := by
  unfold putV
  rw [putL, if_pos (by omega), putB, decide_eq_true (by omega)]
  rfl
/-- what the law on a field of bytes meets -/
theorem field_say (S : ByteArray) (g : Int) (h0 : 0 ≤ g) (h7 : g < 7) (hS : S.size ≤ 600) :
    (fbV (Wf.fieldF S.data.toList g) = .tuple #[.string ⟨#[]⟩, .bool false] ∧ fbV (fieldS S.data.toList g) = .tuple #[.string ⟨#[]⟩, .bool false]) ∨
    ∃ X A N M : ByteArray, fbV (Wf.fieldF S.data.toList g) = .tuple #[.string X, .bool true] ∧ fbV (fieldS S.data.toList g) = .tuple #[.string X, .bool true] ∧ X.size ≤ 600 ∧ putV g = .tuple #[.string A, .bool true] ∧ putV (X.size : Int) = .tuple #[.string N, .bool true] ∧ A.size ≤ 10 ∧ N.size ≤ 10 ∧ A ++ N ++ X = M ∧ ∃ p, p + M.size ≤ S.size ∧ S.extract p (p + M.size) = M := by
  cases h : Wf.fieldF S.data.toList g with
  | none =>
    refine .inl ⟨rfl, ?_⟩
    unfold fieldS
    split
    · rw [h]; rfl
    · rfl
  | some part =>
    obtain ⟨n, rfl⟩ := Int.eq_ofNat_of_zero_le h0
    have h' := h
    rw [Wf.fieldF_nat (by rw [size_list]; exact hS)] at h'
    unfold Wf.fieldAt at h'
    obtain ⟨h1, h9, hpos, pre, post, h2⟩ := Wf.fieldB_lies n _ _ _ _ h'
    have ha := (Wf.putN_len n (by omega)).2
    have hb := (Wf.putN_len part.length h1).2
    have hpl : part.length ≤ 600 := by
      have h3 := congrArg List.length h2
      rw [size_list] at h3
      simp only [List.length_append] at h3
      omega
    have hM : ((⟨(Wf.putN n).toArray⟩ : ByteArray) ++ ⟨(Wf.putN part.length).toArray⟩ ++ ⟨part.toArray⟩).data.toList = Wf.putN n ++ (Wf.putN part.length ++ part) := by
      simp only [ByteArray.data_append, Array.toList_append, List.append_assoc]
    refine .inr ⟨⟨part.toArray⟩, ⟨(Wf.putN n).toArray⟩, ⟨(Wf.putN part.length).toArray⟩, _, rfl, ?_, hpl, putV_yes (by omega), putV_yes h1, ?_, ?_, rfl, ?_⟩
    · unfold fieldS
      rw [if_pos (by omega), h]
      rfl
    · show (Wf.putN n).length ≤ 10
      omega
    · show (Wf.putN part.length).length ≤ 10
      omega
    · obtain ⟨M, hMM⟩ : ∃ M : ByteArray, (⟨(Wf.putN n).toArray⟩ : ByteArray) ++ ⟨(Wf.putN part.length).toArray⟩ ++ ⟨part.toArray⟩ = M := ⟨_, rfl⟩
      rw [hMM] at hM ⊢
      obtain ⟨h3, h4⟩ := Wf.lies_at (mid := M.data.toList) (show S.data.toList = pre ++ (M.data.toList ++ post) by rw [h2, hM]; simp only [List.append_assoc])
      rw [size_list, size_list] at h3
      refine ⟨pre.length, h3, ?_⟩
      have h5 : (S.extract pre.length (pre.length + M.size)) = ⟨M.data.toList.toArray⟩ := by rw [eq_list, ext_list, Nat.add_sub_cancel_left, ← size_list, h4]
      rw [h5, Array.toArray_toList]
theorem add_str (A B C : ByteArray) (h : A.size + B.size ≤ 9000000) (e : A ++ B = C) (wz : World) : (Op.stringOp .add A B).run Try.prog wz = .ok (.string C) wz := by
  rw [← e]; exact run_string_add_sum (P := Try.prog) (w := wz) A B (by omega)
theorem sl_mid (S : ByteArray) (i m : Nat) (h : i + m ≤ S.size) (hi : i + m ≤ 1000000) : ∀ wz, (Instr.slice 9 (.string S) (some (.int .i64 i)) (some (.int .i64 ((i : Int) + m))) none).run Try.prog wz = .ok (.string (S.extract i (i + m))) wz := fun wz => by
  have := run_slice_string (P := Try.prog) (w := wz) 9 S .i64 .i64 (i : Int) ((i : Int) + m) Try.underlying9 (by omega) (by omega) (by omega)
  rw [this, Int.toNat_natCast, show ((i : Int) + m).toNat = i + m by omega]
end Go.Proofs.Ytidjpalnmnehmaa
