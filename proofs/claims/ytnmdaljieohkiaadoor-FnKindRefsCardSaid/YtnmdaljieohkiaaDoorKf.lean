/- KindRefs of the program and of the reference. -/
import Derived.Test.YtnmdaljieohkiaaDoorSx
import Derived.Test.YtnmdaljieohkiaaDoorLa
namespace Go.Proofs.YtnmdaljieohkiaaDoor
open Go.ChangeShapes Go.WideShapes Go.ChangeAt Go.RowKit Go.Lib
set_option linter.unusedVariables false
/-- the names in a kind's text -/
def refsL (l : List UInt8) : List (List UInt8) := match Wf.parseK l with
  | some k => if k.base = [64] then [k.name] else []
  | none => []
theorem info9 : (Tryd.prog.info? 9).map (fun i => (i.zero, i.size, i.bytes)) = some (some (.string ⟨#[]⟩), 1, 16) := by kernel_rfl
set_option maxRecDepth 20000 in
theorem kindRefs_i_no (s : ByteArray) (w : World) (hs : s.size ≤ 9223372036854775807) (h : Wf.parseK s.data.toList = none) : Calls Tryd.prog 26 #[.string s] w fun e w' => e = .returned (.tuple #[.slice none 0 0, .bool false]) ∧ Below w.heap.size w w' := by
  have HK := hid fun w => readKind_no s h w hs
  clear h
  go_enter Tryd.func26, Tryd.ntmps26
  go_wp2_with (go_at_call 33; refine (HK.out _).mono ?_; rintro e w1 ⟨⟨a, b, c, rfl⟩, hb⟩)
  go_ret2
  exact ⟨rfl, by repeat (first | exact hb | refine Below.alloc ?_ (by first | exact hb.size | (simp; done) | (simp; omega) | omega) _)⟩
set_option maxRecDepth 20000 in
theorem kindRefs_i_plain (s : ByteArray) (w : World) (g b n : ByteArray) (h1 : (b.toList == [64]) = false) (hk : ∀ w, Calls Tryd.prog 33 #[.string s] w fun e w' => e = .returned (.tuple #[.agg #[.string g, .string b, .string n], .bool true]) ∧ Below w.heap.size w w') : Calls Tryd.prog 26 #[.string s] w fun e w' => e = .returned (.tuple #[.slice none 0 0, .bool true]) ∧ Below w.heap.size w w' := by
  have HK := hid hk
  clear hk
  go_enter Tryd.func26, Tryd.ntmps26
  go_wp2_with (go_at_call 33; refine (HK.out _).mono ?_; rintro e w1 ⟨rfl, hb⟩)
  go_ret2
  exact ⟨rfl, by repeat (first | exact hb | refine Below.alloc ?_ (by first | exact hb.size | (simp; done) | (simp; omega) | omega) _)⟩
set_option maxRecDepth 20000 in
theorem kindRefs_i_ref (s : ByteArray) (w : World) (g b n : ByteArray) (h1 : (b.toList == [64]) = true) (hk : ∀ w, Calls Tryd.prog 33 #[.string s] w fun e w' => e = .returned (.tuple #[.agg #[.string g, .string b, .string n], .bool true]) ∧ Below w.heap.size w w') : Calls Tryd.prog 26 #[.string s] w fun e w' => ∃ k, e = .returned (.tuple #[.slice (some ⟨k, 0, none⟩) 1 1, .bool true]) ∧ w.heap.size ≤ k ∧ RowAt w' k (.slice (some ⟨k, 0, none⟩) 1 1) [.string n] ∧ Below w.heap.size w w' := by
  have HK := hid hk
  clear hk
  go_enter Tryd.func26, Tryd.ntmps26
  go_wp2_with (go_at_call 33; refine (HK.out _).mono ?_; rintro e w1 ⟨rfl, hb⟩)
  go_ret2
  have hz := hb.size
  refine ⟨_, rfl, ?_, ⟨_, 1, rfl, by simp, by unfold maxLen; omega, .inr ⟨0, rfl, by simp, fun i hi => ?_⟩⟩, by repeat (first | exact hb | refine Below.alloc ?_ (by first | exact hb.size | (simp; done) | (simp; omega) | omega) _)⟩
  · have := hb.size; simp; omega
  · have hi0 : i = 0 := by simp at hi; omega
    subst hi0
    simp
set_option maxRecDepth 20000 in
theorem kindRefs_s_no (s : ByteArray) (w : World) (h : okB s.data.toList = false) : Calls Tryd.prog 25 #[.string s] w fun e w' => ∃ a, e = .returned (.tuple #[.slice a 0 0, .bool false]) ∧ Below w.heap.size w w' := by
  have HK := hid fun w => kindOk_spec s.size s w (Nat.le_refl _)
  rw [h] at HK
  clear h
  go_enter Tryd.func25, Tryd.ntmps25
  go_wp2_with (go_at_call 13; refine (HK.out _).mono ?_; rintro e w1 ⟨rfl, rfl⟩)
  go_ret2
  exact ⟨_, rfl, by repeat (first | exact Below.refl _ _ | refine Below.alloc ?_ (by first | (simp; done) | (simp; omega) | omega) _)⟩
set_option maxRecDepth 20000 in
theorem kindRefs_s_yes (s : ByteArray) (w : World) (h : okB s.data.toList = true) (c n : ByteArray) (b : Bool) (hc : ∀ w, Calls Tryd.prog 34 #[.string s] w fun e w' => e = .returned (.string c) ∧ w = w') (hr : ∀ w, Calls Tryd.prog 35 #[.string c] w fun e w' => e = .returned (.tuple #[.string n, .bool b]) ∧ w = w') : Calls Tryd.prog 25 #[.string s] w fun e w' => ∃ k v, e = .returned (.tuple #[v, .bool true]) ∧ w.heap.size ≤ k ∧ RowAt w' k v (if b then [.string n] else []) ∧ Below w.heap.size w w' := by
  have HK := hid fun w => kindOk_spec s.size s w (Nat.le_refl _)
  rw [h] at HK
  have HC := hid hc
  have HR := hid hr
  clear h hc hr
  cases b
  · go_enter Tryd.func25, Tryd.ntmps25
    go_wp2_with (first | (go_at_call 35; refine (HR.out _).mono ?_; rintro e w3 ⟨rfl, rfl⟩) | (go_at_call 34; refine (HC.out _).mono ?_; rintro e w2 ⟨rfl, rfl⟩) | (go_at_call 13; refine (HK.out _).mono ?_; rintro e w1 ⟨rfl, rfl⟩))
    go_ret2
    exact ⟨w.heap.size, _, rfl, Nat.le_refl _, ⟨_, 0, rfl, by simp, by simp, .inl rfl⟩, by repeat (first | exact Below.refl _ _ | refine Below.alloc ?_ (by first | (simp; done) | (simp; omega) | omega) _)⟩
  · go_enter Tryd.func25, Tryd.ntmps25
    go_wp2_with (first | (go_at_call 35; refine (HR.out _).mono ?_; rintro e w3 ⟨rfl, rfl⟩) | (go_at_call 34; refine (HC.out _).mono ?_; rintro e w2 ⟨rfl, rfl⟩) | (go_at_call 13; refine (HK.out _).mono ?_; rintro e w1 ⟨rfl, rfl⟩) | (at_builtin; refine wpList_append_cell _ rfl (.tmp 19) (.tmp 21) 29 rfl w.heap.size 9 (.string ⟨#[]⟩) 16 Tryd.underlying29 info9 rfl _ [] rfl ((World.ownsRow_made w #[] 0 (Nat.le_refl _) (by decide) rfl).alloc _) ⟨w.heap.size + 1, 0, none⟩ (.string n) rfl (by simp) rfl (by decide) (by decide) (by simp; omega) ?_; intro v1 w1 ho1 hb1))
    go_ret2
    obtain ⟨k, hk, hr⟩ := RowAt.of_owns ho1
    exact ⟨k, _, rfl, hk, hr, (((Below.refl _ _).alloc (Nat.le_refl _) _).alloc (by simp) _).trans hb1⟩
theorem refs_none {l : List UInt8} (h : Wf.parseK l = none) : refsL l = [] := by rw [refsL, h]
theorem refs_plain {l : List UInt8} {k : Wf.K} (h : Wf.parseK l = some k) (hb : k.base ≠ [64]) : refsL l = [] := by
  unfold refsL; rw [h]; exact if_neg hb
theorem refs_ref {l : List UInt8} {k : Wf.K} (h : Wf.parseK l = some k) (hb : k.base = [64]) : refsL l = [k.name] := by
  unfold refsL; rw [h]; exact if_pos hb
/-- what KindRefs gives: the names in a kind, in a slice of the call's own -/
def RefsOut (w : World) (l : List UInt8) (e : Ending) (w' : World) : Prop := ∃ k v, e = .returned (.tuple #[v, .bool (okB l)]) ∧ w.heap.size ≤ k ∧ RowAt w' k v ((refsL l).map tx) ∧ Below w.heap.size w w'
theorem rowAt_nil (w : World) (b : Nat) (a : Option Addr) : RowAt w b (.slice a 0 0) [] := ⟨a, 0, rfl, Nat.le_refl _, Nat.zero_le _, .inl rfl⟩
theorem kindRefs_i (s : ByteArray) (w : World) (hs : s.size ≤ 9223372036854775807) : Calls Tryd.prog 26 #[.string s] w fun e w' => RefsOut w s.data.toList e w' := by
  cases hk : Wf.parseK s.data.toList with
  | none =>
    refine (kindRefs_i_no s w hs hk).mono fun e w' ⟨he, hb⟩ => ?_
    rw [RefsOut, ok_none hk, refs_none hk]
    exact ⟨w.heap.size, _, he, Nat.le_refl _, rowAt_nil _ _ _, hb⟩
  | some k =>
    have HR := fun w => readKind_yes s k hk w hs
    by_cases hb : k.base = [64]
    · refine (kindRefs_i_ref s w _ _ _ (by rw [tx_eq, hb]; rfl) HR).mono fun e w' ⟨b, he, h1, h2, h3⟩ => ?_
      rw [RefsOut, ok_some hk, refs_ref hk hb]
      exact ⟨b, _, he, h1, h2, h3⟩
    · refine (kindRefs_i_plain s w _ _ _ (by rw [tx_eq, beq_eq_false_iff_ne]; exact hb) HR).mono fun e w' ⟨he, h3⟩ => ?_
      rw [RefsOut, ok_some hk, refs_plain hk hb]
      exact ⟨w.heap.size, _, he, Nat.le_refl _, rowAt_nil _ _ _, h3⟩
theorem drop_core (k : Wf.K) : k.text.dropWhile Wf.isSgn = k.core.text := by
  induction k with
  | list k ih => rw [Wf.K.text, List.dropWhile_cons_of_pos (by decide), ih]; rfl
  | opt k ih => rw [Wf.K.text, List.dropWhile_cons_of_pos (by decide), ih]; rfl
  | _ => rfl
theorem core_base (k : Wf.K) : k.core.base = k.base ∧ k.core.name = k.name := by
  induction k with
  | list k ih => exact ih
  | opt k ih => exact ih
  | _ => exact ⟨rfl, rfl⟩
theorem core_plain (k : Wf.K) : (∃ n, k.core = .ref n) ∨ k.core.text.head? ≠ some 64 ∧ k.core.base ≠ [64] := by
  induction k with
  | list k ih => exact ih
  | opt k ih => exact ih
  | ref n => exact .inl ⟨n, rfl⟩
  | _ => exact .inr ⟨by decide, by decide⟩
theorem kindRefs_s (s : ByteArray) (w : World) : Calls Tryd.prog 25 #[.string s] w fun e w' => RefsOut w s.data.toList e w' := by
  cases hk : Wf.parseK s.data.toList with
  | none =>
    refine (kindRefs_s_no s w (ok_none hk)).mono fun e w' ⟨a, he, hb⟩ => ?_
    rw [RefsOut, ok_none hk, refs_none hk]
    exact ⟨w.heap.size, _, he, Nat.le_refl _, rowAt_nil _ _ _, hb⟩
  | some k =>
    have ho := ok_some hk
    have hl := size_list s
    have hol := ok_len ho
    have ht := parse_text hk
    have hc := fun w => core_spec s w (by omega) (ok_core ho)
    have hd : s.data.toList.dropWhile Wf.isSgn = k.core.text := by rw [← ht]; exact drop_core k
    rw [hd] at hc
    have h1 : k.core.text.length ≤ 12 := by rw [← hd]; have := len_core s.data.toList; omega
    have h2 : 1 ≤ k.core.text.length := by have := Wf.K.text_ne k.core; exact Nat.pos_of_ne_zero (fun h => this (List.eq_nil_of_length_eq_zero h))
    have hv : ∃ n b, refV k.core.text = .tuple #[.string n, .bool b] ∧ (if b = true then [Value.string n] else []) = (refsL s.data.toList).map tx ∧ (k.core.text.head? = some 64 → 2 ≤ k.core.text.length) := by
      rcases core_plain k with ⟨n, hn⟩ | ⟨hn, hb⟩
      · refine ⟨⟨n.toArray⟩, true, ?_, ?_, ?_⟩
        · rw [hn, Wf.K.text, refV, if_pos rfl, List.dropLast_concat]
        · rw [refs_ref hk (by rw [← (core_base k).1, hn]; rfl), ← (core_base k).2, hn]; rfl
        · intro _; rw [hn]; simp [Wf.K.text]
      · refine ⟨⟨#[]⟩, false, ?_, ?_, fun h => absurd h hn⟩
        · cases hq : k.core.text with
          | nil => rfl
          | cons c r => rw [refV, if_neg (fun e => hn (by rw [hq, e]; rfl))]
        · rw [refs_plain hk (by rw [← (core_base k).1]; exact hb)]; rfl
    obtain ⟨n, b, hv1, hv2, hv3⟩ := hv
    have hr := fun w => ref_spec ⟨k.core.text.toArray⟩ w (by rw [tx_size]; omega) (by rw [tx_size]; exact h2) (by rw [tx_size]; exact hv3)
    have hr2 : ∀ w, Calls Tryd.prog 35 #[.string ⟨k.core.text.toArray⟩] w fun e w' => e = .returned (.tuple #[.string n, .bool b]) ∧ w = w' := by
      intro w; have := hr w; rw [show (⟨k.core.text.toArray⟩ : ByteArray).data.toList = k.core.text from rfl, hv1] at this; exact this
    refine (kindRefs_s_yes s w ho _ n b hc hr2).mono fun e w' ⟨j, v, he, g1, g2, g3⟩ => ?_
    rw [RefsOut, ho]
    rw [hv2] at g2
    exact ⟨j, v, he, g1, g2, g3⟩
theorem RowAt.beside' {w w' : World} {b rb : Nat} {v : Value} {xs : List Value} (h : RowAt w b v xs) (hb : Beside rb w w') (hB : xs = [] ∨ b ≠ rb) : RowAt w' b v xs := by
  rcases hB with hB | hB
  · subst hB
    obtain ⟨a, cap, h1, h2, h3, _⟩ := h
    exact ⟨a, cap, h1, h2, h3, .inl rfl⟩
  · exact h.beside hb hB
theorem RowAt.lt {w : World} {b : Nat} {v : Value} {xs : List Value} (h : RowAt w b v xs) : xs = [] ∨ b < w.heap.size := by
  obtain ⟨a, cap, h1, h2, h3, h4 | ⟨o, h5, h6, h7⟩⟩ := h
  · exact .inl h4
  · exact .inr h6
theorem RowAt.below' {w w' : World} {b : Nat} {v : Value} {xs : List Value} (h : RowAt w b v xs) (hb : Below w.heap.size w w') : RowAt w' b v xs := h.below hb id
theorem refs_len (l : List UInt8) : (refsL l).length ≤ 1 := by
  cases h : Wf.parseK l with
  | none => rw [refs_none h]; simp
  | some k => by_cases hb : k.base = [64]
              · rw [refs_ref h hb]; simp
              · rw [refs_plain h hb]; simp
theorem marked1 (m : Int) (b : Nat) (v : Value) (w : World) (l : List (List UInt8)) (hn : l.length ≤ 1000000) (hm : m = 1 + l.length) (H : RowAt w b v (l.map tx)) : Calls Tryd.prog 28 #[v, .int .i64 1] w fun e w' => e = .returned (.int .i64 m) ∧ RowAt w' b v (mks 1 l.length) ∧ Beside b w w' := by
  rw [hm]; exact marked 1 (by omega) b v w l (by omega) H
theorem held1 (m : Int) (b : Nat) (v : Value) (w : World) (n : Nat) (hn : n ≤ 1000000) (hm : m = 1 + n) (H : RowAt w b v (mks 1 n)) : Calls Tryd.prog 29 #[v, .int .i64 1] w fun e w' => e = .returned (.int .i64 m) ∧ Below w.heap.size w w' := by
  rw [hm]; exact held 1 (by omega) b v w n (by omega) H
/-- what KindPart gives, and the names in it -/
theorem part_refs (s : ByteArray) : partV s.data.toList = .tuple #[.string ⟨#[]⟩, .bool false] ∨ (1 ≤ s.size ∧ partV s.data.toList = .tuple #[.string (s.extract 1 s.size), .bool true] ∧ Hid (refsL (s.extract 1 s.size).data.toList = refsL s.data.toList)) := by
  have hl := size_list s
  cases hk : Wf.parseK s.data.toList with
  | none => exact .inl (partV_no (ok_none hk))
  | some k =>
    have ht := parse_text hk
    rcases signs_or k with ⟨c, r, h1, h2, q, h3, _⟩ | ⟨h1, c, r, h3, h2⟩
    · rw [h3] at ht
      have h6 := ext_tail s c q ht.symm
      obtain ⟨k2, hp, h7⟩ := parse_part (c := c) (q := q) (k := k) (by rw [ht]; exact hk) h2
      have hb : k.base = k2.base ∧ k.name = k2.name := by rcases h7 with ⟨_, rfl⟩ | ⟨_, rfl⟩ <;> exact ⟨rfl, rfl⟩
      refine .inr ⟨by rw [← hl, ← ht]; simp, by rw [h6, ← ht, partV, if_pos ⟨by rw [ht]; exact ok_some hk, h2⟩], hid (show _ = _ from ?_)⟩
      rw [h6]
      by_cases hr : k.base = [64]
      · rw [refs_ref hk hr, refs_ref (l := q) (k := k2) hp (by rw [← hb.1]; exact hr), hb.2]
      · rw [refs_plain hk hr, refs_plain (l := q) (k := k2) hp (by rw [← hb.1]; exact hr)]
    · rw [h3] at ht
      exact .inl (by rw [← ht, partV, if_neg (by rw [h2]; simp)])
end Go.Proofs.YtnmdaljieohkiaaDoor
