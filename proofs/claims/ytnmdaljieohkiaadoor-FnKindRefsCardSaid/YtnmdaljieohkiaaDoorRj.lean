/- The program reads a kind: what comes of it. -/
import Derived.Test.YtnmdaljieohkiaaDoorRk
import Derived.Test.YtnmdaljieohkiaaDoorKd
namespace Go.Proofs.YtnmdaljieohkiaaDoor
open Go.ChangeShapes Go.WideShapes Go.ChangeAt Go.RowKit Go.Lib
set_option linter.unusedVariables false
theorem signs_drop (l : List UInt8) : Lib.trimLeftS l [91, 63] = l.dropWhile Wf.isSgn := by
  unfold Lib.trimLeftS
  congr 1
  funext c
  simp [Wf.isSgn, Bool.beq_eq_decide_eq]
theorem pre_one (r : List UInt8) (c : UInt8) : Lib.hasPrefix r [c] = decide (r.head? = some c) := by
  cases r with
  | nil => rfl
  | cons a q => simp [Lib.hasPrefix, List.isPrefixOf, Bool.beq_eq_decide_eq, eq_comm]
theorem suf_one (r : List UInt8) (c : UInt8) : Lib.hasSuffix r [c] = decide (r.getLast? = some c) := by
  unfold Lib.hasSuffix List.isSuffixOf
  rw [← List.head?_reverse]
  exact pre_one r.reverse c
theorem eq_arr (s : ByteArray) (l : List UInt8) (h : s.data.toList = l) : s = ⟨l.toArray⟩ := by rw [← h]
theorem kV_eq (l : List UInt8) (k : Wf.K) (h : k.signs = []) (hb : k.core = k) : kV (Wf.wrap (l.takeWhile Wf.isSgn) k) = .agg #[tx (l.takeWhile Wf.isSgn), tx k.base, tx k.name] := by
  have ha : (l.takeWhile Wf.isSgn).all Wf.isSgn = true := List.all_takeWhile
  rw [kV, Wf.wrap_signs ha, Wf.wrap_base, Wf.wrap_name, h, List.append_nil]
theorem beq_no {t : ByteArray} {l : List UInt8} (h : t.data.toList ≠ l) : (t.toList == l) = false := by
  rw [ByteArray.toList_eq, beq_eq_false_iff_ne]; exact h
theorem core_cases (r : List UInt8) : (r = [110] ∧ Wf.coreIn r = some .num) ∨ (r = [116] ∧ Wf.coreIn r = some .txt) ∨ (r = [102] ∧ Wf.coreIn r = some .flag) ∨
    (r ≠ [110] ∧ r ≠ [116] ∧ r ≠ [102] ∧ ((r.head? = some 64 ∧ r.getLast? = some 59 ∧ Wf.coreIn r = (if Wf.isName r.tail.dropLast = true then some (.ref r.tail.dropLast) else none)) ∨ (¬ (r.head? = some 64 ∧ r.getLast? = some 59) ∧ Wf.coreIn r = none))) := by
  by_cases h1 : r = [110]
  · exact .inl ⟨h1, by rw [h1]; rfl⟩
  by_cases h2 : r = [116]
  · exact .inr (.inl ⟨h2, by rw [h2]; rfl⟩)
  by_cases h3 : r = [102]
  · exact .inr (.inr (.inl ⟨h3, by rw [h3]; rfl⟩))
  refine .inr (.inr (.inr ⟨h1, h2, h3, ?_⟩))
  have e : Wf.coreIn r = if r.head? = some 64 ∧ r.getLast? = some 59 ∧ Wf.isName (r.tail.dropLast) = true then some (.ref r.tail.dropLast) else none := by
    rw [Wf.coreIn, if_neg h1, if_neg h2, if_neg h3]
  by_cases h4 : r.head? = some 64 ∧ r.getLast? = some 59
  · refine .inl ⟨h4.1, h4.2, ?_⟩
    rw [e]
    by_cases h5 : Wf.isName r.tail.dropLast = true
    · rw [if_pos ⟨h4.1, h4.2, h5⟩, if_pos h5]
    · rw [if_neg (fun h => h5 h.2.2), if_neg h5]
  · exact .inr ⟨h4, by rw [e, if_neg (fun h => h4 ⟨h.1, h.2.1⟩)]⟩
theorem two_of {r : List UInt8} (h1 : r.head? = some 64) (h2 : r.getLast? = some 59) : 2 ≤ r.length := by
  match r, h1, h2 with
  | [a], h1, h2 =>
    have e1 : a = 64 := by simpa using h1
    have e2 : a = 59 := by simpa using h2
    rw [e1] at e2; exact absurd e2 (by decide)
  | a :: b :: q, _, _ => simp
/-- what readKind gives -/
def KindOut (l : List UInt8) (e : Ending) : Prop :=
  match Wf.parseK l with
  | some k => e = .returned (.tuple #[kV k, .bool true])
  | none => ∃ a b c : ByteArray, e = .returned (.tuple #[.agg #[.string a, .string b, .string c], .bool false])
theorem kindOut_some {l : List UInt8} {k : Wf.K} {e : Ending} (h : Wf.parseK l = some k) (he : e = .returned (.tuple #[kV k, .bool true])) : KindOut l e := by
  rw [KindOut, h]; exact he
theorem kindOut_none {l : List UInt8} {e : Ending} (h : Wf.parseK l = none) (he : ∃ a b c : ByteArray, e = .returned (.tuple #[.agg #[.string a, .string b, .string c], .bool false])) : KindOut l e := by
  rw [KindOut, h]; exact he
theorem readKind_any (s : ByteArray) (w : World) (hs2 : s.size ≤ 9223372036854775807) : Calls Tryd.prog 33 #[.string s] w fun e w' => KindOut s.data.toList e ∧ Below w.heap.size w w' := by
  have hl := size_list s
  by_cases hs : s.size ≤ 12
  · have hp : Wf.parseK s.data.toList = (Wf.coreIn (s.data.toList.dropWhile Wf.isSgn)).map (Wf.wrap (s.data.toList.takeWhile Wf.isSgn)) := by
      rw [Wf.parseK, if_pos (by omega), Wf.kindIn_split]
    obtain ⟨t, ht⟩ : ∃ t : ByteArray, (⟨(s.data.toList.dropWhile Wf.isSgn).toArray⟩ : ByteArray) = t := ⟨_, rfl⟩
    have htl : t.data.toList = s.data.toList.dropWhile Wf.isSgn := by rw [← ht]
    have hlc := len_core s.data.toList
    have hts : t.size = (s.data.toList.dropWhile Wf.isSgn).length := by rw [← size_list, htl]
    have hts' : t.size ≤ s.size := by omega
    have hc : ∀ w, Calls Tryd.prog 40 #[.string s, .string ⟨#[91, 63]⟩] w fun e w' => e = .returned (.string t) ∧ Below w.heap.size w w' := by
      intro w
      have := signs_left s w
      rw [signs_drop, ht] at this
      exact this
    have hx : s.extract 0 (s.size - t.size) = ⟨(s.data.toList.takeWhile Wf.isSgn).toArray⟩ := by
      refine eq_arr _ _ ?_
      rw [ext_list, List.drop_zero, Nat.sub_zero]
      have : s.size - t.size = (s.data.toList.takeWhile Wf.isSgn).length := by omega
      rw [this]
      exact (List.prefix_iff_eq_take.1 (List.takeWhile_prefix _)).symm
    have plain : ∀ c (k : Wf.K), t.data.toList = [c] → (t.toList == [110] || t.toList == [116] || t.toList == [102]) = true → Wf.coreIn t.data.toList = some k → k.signs = [] → k.core = k → k.base = [c] → k.name = [] →
        Calls Tryd.prog 33 #[.string s] w fun e w' => KindOut s.data.toList e ∧ Below w.heap.size w w' := by
      intro c k h1 h2 h3 h4 h5 h6 h7
      refine (readKind_plain s t w hs hts' h2 hc).mono fun e w' ⟨he, hb⟩ => ⟨?_, hb⟩
      refine kindOut_some (k := Wf.wrap (s.data.toList.takeWhile Wf.isSgn) k) (by rw [hp, ← htl, h3, Option.map_some]) ?_
      rw [he, kV_eq _ _ h4 h5, hx, h6, h7, eq_arr t _ h1]
    rcases core_cases t.data.toList with ⟨h1, h2⟩ | ⟨h1, h2⟩ | ⟨h1, h2⟩ | ⟨h1, h2, h3, h⟩
    · exact plain 110 .num h1 (by rw [ByteArray.toList_eq, h1]; rfl) h2 rfl rfl rfl rfl
    · exact plain 116 .txt h1 (by rw [ByteArray.toList_eq, h1]; rfl) h2 rfl rfl rfl rfl
    · exact plain 102 .flag h1 (by rw [ByteArray.toList_eq, h1]; rfl) h2 rfl rfl rfl rfl
    · rcases h with ⟨h4, h5, h6⟩ | ⟨h4, h6⟩
      · have h2t : 2 ≤ t.size := by rw [← size_list]; exact two_of h4 h5
        have hn : (t.extract 1 (t.size - 1)).data.toList = t.data.toList.tail.dropLast := by
          rw [ext_list, List.drop_one, List.dropLast_eq_take, List.length_tail, size_list]
        refine (readKind_at s t w hs hts' h2t (beq_no h1) (beq_no h2) (beq_no h3) (by rw [pre_one, h4]; rfl) (by rw [suf_one, h5]; rfl) (Wf.isName t.data.toList.tail.dropLast) (fun w => ?_) hc).mono fun e w' ⟨he, hb⟩ => ⟨?_, hb⟩
        · have := isName_impl (t.extract 1 (t.size - 1)) w (by rw [ByteArray.size_extract]; omega)
          rw [hn] at this
          exact this
        · cases hb : Wf.isName t.data.toList.tail.dropLast with
          | true =>
            rw [hb, if_pos rfl] at h6
            refine kindOut_some (k := Wf.wrap (s.data.toList.takeWhile Wf.isSgn) (.ref t.data.toList.tail.dropLast)) (by rw [hp, ← htl, h6, Option.map_some]) ?_
            rw [he, kV_eq _ _ rfl rfl, hx, hb, eq_arr _ _ hn]
            rfl
          | false =>
            rw [hb, if_neg (by decide)] at h6
            refine kindOut_none (by rw [hp, ← htl, h6, Option.map_none]) ?_
            rw [he, hb]
            exact ⟨_, _, _, rfl⟩
      · refine (readKind_none s t w hs hts' (beq_no h1) (beq_no h2) (beq_no h3) _ _ (pre_one _ _) (suf_one _ _) ?_ hc).mono fun e w' ⟨he, hb⟩ => ⟨?_, hb⟩
        · by_cases h7 : t.data.toList.head? = some 64
          · by_cases h8 : t.data.toList.getLast? = some 59
            · exact absurd ⟨h7, h8⟩ h4
            · rw [decide_eq_false h8, Bool.and_false]
          · rw [decide_eq_false h7, Bool.false_and]
        · refine kindOut_none (by rw [hp, ← htl, h6, Option.map_none]) ?_
          rw [he]
          exact ⟨_, _, _, rfl⟩
  · refine (readKind_long s w (by omega) hs2).mono fun e w' ⟨he, hb⟩ => ⟨?_, hb⟩
    exact kindOut_none (by rw [Wf.parseK, if_neg (by omega)]) ⟨_, _, _, he⟩
theorem readKind_yes (s : ByteArray) (k : Wf.K) (hk : Wf.parseK s.data.toList = some k) (w : World) (hs2 : s.size ≤ 9223372036854775807) : Calls Tryd.prog 33 #[.string s] w fun e w' => e = .returned (.tuple #[kV k, .bool true]) ∧ Below w.heap.size w w' :=
  (readKind_any s w hs2).mono fun e w' ⟨h, hb⟩ => ⟨by unfold KindOut at h; rw [hk] at h; exact h, hb⟩
theorem readKind_no (s : ByteArray) (hk : Wf.parseK s.data.toList = none) (w : World) (hs2 : s.size ≤ 9223372036854775807) : Calls Tryd.prog 33 #[.string s] w fun e w' => (∃ a b c : ByteArray, e = .returned (.tuple #[.agg #[.string a, .string b, .string c], .bool false])) ∧ Below w.heap.size w w' :=
  (readKind_any s w hs2).mono fun e w' ⟨h, hb⟩ => ⟨by unfold KindOut at h; rw [hk] at h; exact h, hb⟩
end Go.Proofs.YtnmdaljieohkiaaDoor
