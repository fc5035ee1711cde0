/- The program's isText and standing. The program reads a kind: what comes of it. The reader of codes 'l6Rd': opened, and a number picked from it. Slices of texts that a call made: read, compared, marked. -/
import Derived.Test.YtbkfjopoacbdgaaDoorQ0
import Derived.Test.YtbkfjopoacbdgaaDoorQ4
import Derived.Test.YtbkfjopoacbdgaaDoorQ1
import Derived.Test.YtbkfjopoacbdgaaDoorRows
import Derived.ProofKit
import Derived.OpenShut
import Derived.BigQuiet
import Derived.WalkSpells
import Derived.Deep.RegionWith
namespace Go.Proofs.YtbkfjopoacbdgaaDoor
open Go.ChangeShapes Go.WideShapes Go.ChangeAt Go.RowKit Go.Lib
set_option linter.unusedVariables false
def textSet : List UInt8 := [97, 98, 99, 100, 101, 102, 103, 104, 105, 106, 107, 108, 109, 110, 111, 112, 113, 114, 115, 116, 117, 118, 119, 120, 121, 122, 48, 49, 50, 51, 52, 53, 54, 55, 56, 57, 32]
theorem text_is (c : UInt8) : textSet.contains c = Wf.isTxt c := by
  have h : ∀ n : Fin 256, textSet.contains (UInt8.ofNat n.val) = Wf.isTxt (UInt8.ofNat n.val) := by decide +kernel
  have := h ⟨c.toNat, c.toNat_lt⟩
  simpa using this
theorem trim_text (l : List UInt8) : Lib.trimS l textSet = [] ↔ l.all Wf.isTxt = true := by
  have hp : (fun x => textSet.contains x) = Wf.isTxt := funext text_is
  unfold Lib.trimS Lib.trimLeftS Lib.trimRightS
  rw [hp, drop_nil]
  constructor
  · intro h
    have h2 : l.reverse.all Wf.isTxt = true := by
      rw [← List.takeWhile_append_dropWhile (p := Wf.isTxt) (l := l.reverse), List.all_append, List.all_takeWhile, Bool.true_and]
      simpa using h
    simpa using h2
  · intro h
    have : l.reverse.dropWhile Wf.isTxt = [] := (drop_nil _ _).2 (by simpa using h)
    rw [this]; rfl
theorem text_off (s : ByteArray) (w : World) (hs : s.size ≤ 9223372036854775807) : Calls Tryd.prog 90 #[.string s, .string ⟨#[97, 98, 99, 100, 101, 102, 103, 104, 105, 106, 107, 108, 109, 110, 111, 112, 113, 114, 115, 116, 117, 118, 119, 120, 121, 122, 48, 49, 50, 51, 52, 53, 54, 55, 56, 57, 32]⟩] w fun e w' => e = .returned (.string ⟨(Lib.trimS s.data.toList textSet).toArray⟩) ∧ Go.RowKit.Below w.heap.size w w' :=
  Any.strings_Trim_laid Tryd.lays160 (by kernel_rfl) s ⟨#[97, 98, 99, 100, 101, 102, 103, 104, 105, 106, 107, 108, 109, 110, 111, 112, 113, 114, 115, 116, 117, 118, 119, 120, 121, 122, 48, 49, 50, 51, 52, 53, 54, 55, 56, 57, 32]⟩ w hs (by decide) (ascii_of_all (by decide))
def isTextB (l : List UInt8) : Bool := decide (l.length ≤ 12) && l.all Wf.isTxt
set_option maxRecDepth 20000 in
theorem isText (s : ByteArray) (w : World) (hs : s.size ≤ 9223372036854775807) : Calls Tryd.prog 111 #[.string s] w fun e w' => e = .returned (.bool (isTextB s.data.toList)) ∧ Below w.heap.size w w' := by
  have hl := size_list s
  by_cases h12 : s.size ≤ 12
  · have HT := hid fun wz => text_off s wz hs
    have HN := hid (show (Lib.trimS s.data.toList textSet).isEmpty = isTextB s.data.toList by
      have h := trim_text s.data.toList
      unfold isTextB
      rw [hl, decide_eq_true h12, Bool.true_and, Bool.eq_iff_iff, List.isEmpty_iff]
      exact h)
    clear hl
    go_enter Tryd.func111, Tryd.ntmps111
    go_wp2_with (go_at_call 90; refine (HT.out _).mono ?_; rintro e w1 ⟨rfl, hb⟩)
    go_ret
    exact ⟨ret_b HN.out, hb⟩
  · have HN := hid (show false = isTextB s.data.toList by unfold isTextB; rw [hl, decide_eq_false h12]; rfl)
    clear hl
    go_enter Tryd.func111, Tryd.ntmps111
    go_wp2
    go_ret
    exact ⟨ret_b HN.out, Below.refl _ _⟩
set_option maxRecDepth 20000 in
theorem standing_n (s : ByteArray) (w : World) : Calls Tryd.prog 93 #[tx [110], .string s] w fun e w' => e = .returned (.bool (Wf.stOk .num s.data.toList)) ∧ Below w.heap.size w w' := by
  have HP := hid fun wz => plainNumber s 999999 (Nat.le_refl _) wz
  cases hp : Wf.plainN s.data.toList 999999 with
  | none =>
    have HO := hid fun e (h : NumOut s.data.toList 999999 e) => (by unfold NumOut at h; rw [hp] at h; exact h : ∃ m : Int, e = .returned (.tuple #[.int .i64 m, .bool false]))
    have HN := hid (show false = Wf.stOk .num s.data.toList by unfold Wf.stOk; rw [hp])
    clear hp
    go_enter Tryd.func93, Tryd.ntmps93
    go_wp2_with (go_at_call 92; refine (HP.out _).mono ?_; rintro e w1 ⟨ho, rfl⟩; obtain ⟨m, rfl⟩ := HO.out _ ho; clear ho)
    go_ret
    exact ⟨ret_b HN.out, Below.refl _ _⟩
  | some n =>
    have HO := hid fun e (h : NumOut s.data.toList 999999 e) => (by unfold NumOut at h; rw [hp] at h; exact h : e = .returned (.tuple #[.int .i64 n, .bool true]))
    have HN := hid (show decide ((0 : Int) < n) = Wf.stOk .num s.data.toList by unfold Wf.stOk; rw [hp]; dsimp only; rw [decide_eq_decide]; omega)
    clear hp
    go_enter Tryd.func93, Tryd.ntmps93
    go_wp2_with (go_at_call 92; refine (HP.out _).mono ?_; rintro e w1 ⟨ho, rfl⟩; obtain rfl := HO.out _ ho; clear ho)
    go_ret
    exact ⟨ret_b (by rw [← HN.out]; simp), Below.refl _ _⟩
set_option maxRecDepth 20000 in
theorem standing_at (s : ByteArray) (w : World) : Calls Tryd.prog 93 #[tx [64], .string s] w fun e w' => e = .returned (.bool false) ∧ Below w.heap.size w w' := by
  go_enter Tryd.func93, Tryd.ntmps93
  go_wp2
  go_ret
  exact ⟨rfl, Below.refl _ _⟩
set_option maxRecDepth 20000 in
theorem standing_f (s : ByteArray) (w : World) : Calls Tryd.prog 93 #[tx [102], .string s] w fun e w' => e = .returned (.bool (Wf.stOk .flag s.data.toList)) ∧ Below w.heap.size w w' := by
  have HN := hid (show (s.toList == [121, 101, 115]) = Wf.stOk .flag s.data.toList by unfold Wf.stOk; rw [ByteArray.toList_eq, Bool.beq_eq_decide_eq])
  go_enter Tryd.func93, Tryd.ntmps93
  go_wp2
  go_ret
  exact ⟨ret_b (by rw [← HN.out]), Below.refl _ _⟩
theorem stt_short {l : List UInt8} (h : l.length ≤ 2) : Wf.stOk .txt l = false := by
  unfold Wf.stOk
  dsimp only
  by_cases h2 : l.length < 2
  · rw [q_short h2]; rfl
  · obtain ⟨a, m, z, rfl⟩ := q_mk (show 2 ≤ l.length by omega)
    have hm : m = [] := List.eq_nil_of_length_eq_zero (by simp only [List.length_cons, List.length_append, List.length_nil] at h; omega)
    subst hm
    rw [q_eq]
    by_cases ha : a = 39
    · by_cases hz : z = 39
      · subst ha hz; rfl
      · rw [decide_eq_false hz, Bool.and_false]; rfl
    · rw [decide_eq_false ha]; rfl
theorem stt_long {l : List UInt8} (h : 2 < l.length) : Wf.stOk .txt l = Wf.quoted l := by
  unfold Wf.stOk
  dsimp only
  have : l ≠ [39, 39] := by intro e; rw [e] at h; simp at h
  rw [decide_eq_true this, Bool.and_true]
theorem stt_mid {s : ByteArray} (h : 2 < s.size) (h0 : s.data.toList[0]? = some 39) (h9 : s.data.toList[s.size - 1]? = some 39) : isTextB (s.extract 1 (s.size - 1)).data.toList = Wf.stOk .txt s.data.toList := by
  have hl := size_list s
  rw [stt_long (by omega)]
  obtain ⟨a, m, z, he⟩ := q_mk (show 2 ≤ s.data.toList.length by omega)
  have hlm : s.size = m.length + 2 := by rw [← hl, he]; simp
  rw [he] at h0 h9
  have ha : a = 39 := by simpa using h0
  have hz : z = 39 := by
    rw [hlm, show m.length + 2 - 1 = m.length + 1 by omega, List.getElem?_cons_succ, List.getElem?_append_right (Nat.le_refl _), Nat.sub_self] at h9
    simpa using h9
  have hx : (s.extract 1 (s.size - 1)).data.toList = m := by
    rw [ext_list, he, List.drop_one, List.tail_cons, hlm, show m.length + 2 - 1 - 1 = m.length by omega, List.take_left' rfl]
  rw [hx, he, q_eq, ha, hz]
  unfold isTextB
  simp [Bool.and_comm]
set_option maxRecDepth 20000 in
set_option maxHeartbeats 1000000 in
theorem standing_t (s : ByteArray) (w : World) (hs : s.size ≤ 1000000) : Calls Tryd.prog 93 #[tx [116], .string s] w fun e w' => e = .returned (.bool (Wf.stOk .txt s.data.toList)) ∧ Below w.heap.size w w' := by
  have hl := size_list s
  by_cases h2 : 2 < s.size
  · obtain ⟨c0, hc0, e0⟩ := byte_at s 0 (by omega)
    obtain ⟨a, ha⟩ : ∃ a, c0.toNat = a := ⟨_, rfl⟩
    obtain ⟨c9, hc9, e9⟩ := byte_at s (s.size - 1) (by omega)
    obtain ⟨z, hz⟩ : ∃ z, c9.toNat = z := ⟨_, rfl⟩
    rw [ha] at e0
    rw [hz] at e9
    have e0' := e0 (Nat.lt_trans (by decide) h2)
    have e9' := e9 (Nat.sub_lt (Nat.lt_trans (by decide) h2) (by decide))
    by_cases ha39 : a = 39
    · by_cases hz39 : z = 39
      · subst ha39 hz39
        obtain ⟨B, hB⟩ : ∃ B, isTextB (s.extract 1 (s.size - 1)).data.toList = B := ⟨_, rfl⟩
        have HN := hid (stt_mid h2 (by rw [hc0]; exact congrArg some (UInt8.toNat_inj.1 (by rw [ha]; rfl))) (by rw [hc9]; exact congrArg some (UInt8.toNat_inj.1 (by rw [hz]; rfl))))
        have HT := hid fun wz => isText (s.extract 1 (s.size - 1)) wz (by rw [ByteArray.size_extract]; omega)
        rw [hB] at HN HT
        clear hB ha hz hc0 hc9 hl e0 e9
        go_enter Tryd.func93, Tryd.ntmps93
        go_wp2_with (go_at_call 111; refine (HT.out _).mono ?_; rintro e w1 ⟨rfl, hb⟩)
        go_ret
        exact ⟨ret_b HN.out, hb⟩
      · have HN := hid (show false = Wf.stOk .txt s.data.toList by
          rw [stt_long (by omega), q_last (by omega) (by rw [hl]; exact hc9) (by intro e; apply hz39; rw [← hz, e]; rfl)])
        have tz : ((z : Int) == 39) = false := by rw [beq_eq_false_iff_ne]; omega
        subst ha39
        clear ha hz hc0 hc9 hl e0 e9 hz39
        go_enter Tryd.func93, Tryd.ntmps93
        go_wp2_with fail
        go_ret
        exact ⟨ret_b HN.out, Below.refl _ _⟩
    · have HN := hid (show false = Wf.stOk .txt s.data.toList by
        rw [stt_long (by omega), q_first hc0 (by intro e; apply ha39; rw [← ha, e]; rfl)])
      have ta : ((a : Int) == 39) = false := by rw [beq_eq_false_iff_ne]; omega
      clear ha hz hc0 hc9 hl e0 e9 ha39
      go_enter Tryd.func93, Tryd.ntmps93
      go_wp2_with fail
      go_ret
      exact ⟨ret_b HN.out, Below.refl _ _⟩
  · have HN := hid (show false = Wf.stOk .txt s.data.toList by rw [stt_short (by omega)])
    clear hl
    go_enter Tryd.func93, Tryd.ntmps93
    go_wp2_with fail
    go_ret
    exact ⟨ret_b HN.out, Below.refl _ _⟩
theorem base_cases (k : Wf.K) : k.base = [110] ∨ k.base = [116] ∨ k.base = [102] ∨ k.base = [64] := by
  induction k with
  | num => exact .inl rfl
  | txt => exact .inr (.inl rfl)
  | flag => exact .inr (.inr (.inl rfl))
  | ref n => exact .inr (.inr (.inr rfl))
  | list k ih => exact ih
  | opt k ih => exact ih
/-- a standing value that may be told of a kind without signs -/
theorem standing (k : Wf.K) (h0 : k.signs = []) (s : ByteArray) (w : World) (hs : s.size ≤ 1000000) : Calls Tryd.prog 93 #[tx k.base, .string s] w fun e w' => e = .returned (.bool (Wf.stOk k s.data.toList)) ∧ Below w.heap.size w w' := by
  cases k with
  | num => exact standing_n s w
  | txt => exact standing_t s w hs
  | flag => exact standing_f s w
  | ref n => exact standing_at s w
  | list k => cases h0
  | opt k => cases h0
end Go.Proofs.YtbkfjopoacbdgaaDoor

namespace Go.Proofs.YtbkfjopoacbdgaaDoor
open Go.ChangeShapes Go.WideShapes Go.ChangeAt Go.RowKit Go.Lib
set_option linter.unusedVariables false
theorem signs_drop (l : List UInt8) : Lib.trimLeftS l [91, 63] = l.dropWhile Wf.isSgn := by
  unfold Lib.trimLeftS
  congr 1
  funext c
  simp [Wf.isSgn, Bool.beq_eq_decide_eq]
theorem pre_one (r : List UInt8) (c : UInt8) : Lib.hasPrefix r [c] = decide (r.head? = some c) := by
  cases r with
  | nil => rfl
  | cons a q => simp [Lib.hasPrefix, List.isPrefixOf, Bool.beq_eq_decide_eq, eq_comm]
theorem suf_one (r : List UInt8) (c : UInt8) : Lib.hasSuffix r [c] = decide (r.getLast? = some c) := by
  unfold Lib.hasSuffix List.isSuffixOf
  rw [← List.head?_reverse]
  exact pre_one r.reverse c
theorem eq_arr (s : ByteArray) (l : List UInt8) (h : s.data.toList = l) : s = ⟨l.toArray⟩ := by rw [← h]
theorem kV_eq (l : List UInt8) (k : Wf.K) (h : k.signs = []) (hb : k.core = k) : kV (Wf.wrap (l.takeWhile Wf.isSgn) k) = .agg #[tx (l.takeWhile Wf.isSgn), tx k.base, tx k.name] := by
  have ha : (l.takeWhile Wf.isSgn).all Wf.isSgn = true := List.all_takeWhile
  rw [kV, Wf.wrap_signs ha, Wf.wrap_base, Wf.wrap_name, h, List.append_nil]
theorem beq_no {t : ByteArray} {l : List UInt8} (h : t.data.toList ≠ l) : (t.toList == l) = false := by
  rw [ByteArray.toList_eq, beq_eq_false_iff_ne]; exact h
theorem core_cases (r : List UInt8) : (r = [110] ∧ Wf.coreIn r = some .num) ∨ (r = [116] ∧ Wf.coreIn r = some .txt) ∨ (r = [102] ∧ Wf.coreIn r = some .flag) ∨
    (r ≠ [110] ∧ r ≠ [116] ∧ r ≠ [102] ∧ ((r.head? = some 64 ∧ r.getLast? = some 59 ∧ Wf.coreIn r = (if Wf.isName r.tail.dropLast = true then some (.ref r.tail.dropLast) else none)) ∨ (¬ (r.head? = some 64 ∧ r.getLast? = some 59) ∧ Wf.coreIn r = none))) := by
  by_cases h1 : r = [110]
  · exact .inl ⟨h1, by rw [h1]; rfl⟩
  by_cases h2 : r = [116]
  · exact .inr (.inl ⟨h2, by rw [h2]; rfl⟩)
  by_cases h3 : r = [102]
  · exact .inr (.inr (.inl ⟨h3, by rw [h3]; rfl⟩))
  refine .inr (.inr (.inr ⟨h1, h2, h3, ?_⟩))
  have e : Wf.coreIn r = if r.head? = some 64 ∧ r.getLast? = some 59 ∧ Wf.isName (r.tail.dropLast) = true then some (.ref r.tail.dropLast) else none := by
    rw [Wf.coreIn, if_neg h1, if_neg h2, if_neg h3]
  by_cases h4 : r.head? = some 64 ∧ r.getLast? = some 59
  · refine .inl ⟨h4.1, h4.2, ?_⟩
    rw [e]
    by_cases h5 : Wf.isName r.tail.dropLast = true
    · rw [if_pos ⟨h4.1, h4.2, h5⟩, if_pos h5]
    · rw [if_neg (fun h => h5 h.2.2), if_neg h5]
  · exact .inr ⟨h4, by rw [e, if_neg (fun h => h4 ⟨h.1, h.2.1⟩)]⟩
theorem two_of {r : List UInt8} (h1 : r.head? = some 64) (h2 : r.getLast? = some 59) : 2 ≤ r.length := by
  match r, h1, h2 with
  | [a], h1, h2 =>
    have e1 : a = 64 := by simpa using h1
    have e2 : a = 59 := by simpa using h2
    rw [e1] at e2; exact absurd e2 (by decide)
  | a :: b :: q, _, _ => simp
/-- what readKind gives -/
def KindOut (l : List UInt8) (e : Ending) : Prop :=
  match Wf.parseK l with
  | some k => e = .returned (.tuple #[kV k, .bool true])
  | none => ∃ a b c : ByteArray, e = .returned (.tuple #[.agg #[.string a, .string b, .string c], .bool false])
theorem kindOut_some {l : List UInt8} {k : Wf.K} {e : Ending} (h : Wf.parseK l = some k) (he : e = .returned (.tuple #[kV k, .bool true])) : KindOut l e := by
  rw [KindOut, h]; exact he
theorem kindOut_none {l : List UInt8} {e : Ending} (h : Wf.parseK l = none) (he : ∃ a b c : ByteArray, e = .returned (.tuple #[.agg #[.string a, .string b, .string c], .bool false])) : KindOut l e := by
  rw [KindOut, h]; exact he
theorem readKind_any (s : ByteArray) (w : World) (hs2 : s.size ≤ 9223372036854775807) : Calls Tryd.prog 68 #[.string s] w fun e w' => KindOut s.data.toList e ∧ Below w.heap.size w w' := by
  have hl := size_list s
  by_cases hs : s.size ≤ 12
  · have hp : Wf.parseK s.data.toList = (Wf.coreIn (s.data.toList.dropWhile Wf.isSgn)).map (Wf.wrap (s.data.toList.takeWhile Wf.isSgn)) := by
      rw [Wf.parseK, if_pos (by omega), Wf.kindIn_split]
    obtain ⟨t, ht⟩ : ∃ t : ByteArray, (⟨(s.data.toList.dropWhile Wf.isSgn).toArray⟩ : ByteArray) = t := ⟨_, rfl⟩
    have htl : t.data.toList = s.data.toList.dropWhile Wf.isSgn := by rw [← ht]
    have hlc := len_core s.data.toList
    have hts : t.size = (s.data.toList.dropWhile Wf.isSgn).length := by rw [← size_list, htl]
    have hts' : t.size ≤ s.size := by omega
    have hc : ∀ w, Calls Tryd.prog 81 #[.string s, .string ⟨#[91, 63]⟩] w fun e w' => e = .returned (.string t) ∧ Below w.heap.size w w' := by
      intro w
      have := signs_left s w
      rw [signs_drop, ht] at this
      exact this
    have hx : s.extract 0 (s.size - t.size) = ⟨(s.data.toList.takeWhile Wf.isSgn).toArray⟩ := by
      refine eq_arr _ _ ?_
      rw [ext_list, List.drop_zero, Nat.sub_zero]
      have : s.size - t.size = (s.data.toList.takeWhile Wf.isSgn).length := by omega
      rw [this]
      exact (List.prefix_iff_eq_take.1 (List.takeWhile_prefix _)).symm
    have plain : ∀ c (k : Wf.K), t.data.toList = [c] → (t.toList == [110] || t.toList == [116] || t.toList == [102]) = true → Wf.coreIn t.data.toList = some k → k.signs = [] → k.core = k → k.base = [c] → k.name = [] →
        Calls Tryd.prog 68 #[.string s] w fun e w' => KindOut s.data.toList e ∧ Below w.heap.size w w' := by
      intro c k h1 h2 h3 h4 h5 h6 h7
      refine (readKind_plain s t w hs hts' h2 hc).mono fun e w' ⟨he, hb⟩ => ⟨?_, hb⟩
      refine kindOut_some (k := Wf.wrap (s.data.toList.takeWhile Wf.isSgn) k) (by rw [hp, ← htl, h3, Option.map_some]) ?_
      rw [he, kV_eq _ _ h4 h5, hx, h6, h7, eq_arr t _ h1]
    rcases core_cases t.data.toList with ⟨h1, h2⟩ | ⟨h1, h2⟩ | ⟨h1, h2⟩ | ⟨h1, h2, h3, h⟩
    · exact plain 110 .num h1 (by rw [ByteArray.toList_eq, h1]; rfl) h2 rfl rfl rfl rfl
    · exact plain 116 .txt h1 (by rw [ByteArray.toList_eq, h1]; rfl) h2 rfl rfl rfl rfl
    · exact plain 102 .flag h1 (by rw [ByteArray.toList_eq, h1]; rfl) h2 rfl rfl rfl rfl
    · rcases h with ⟨h4, h5, h6⟩ | ⟨h4, h6⟩
      · have h2t : 2 ≤ t.size := by rw [← size_list]; exact two_of h4 h5
        have hn : (t.extract 1 (t.size - 1)).data.toList = t.data.toList.tail.dropLast := by
          rw [ext_list, List.drop_one, List.dropLast_eq_take, List.length_tail, size_list]
        refine (readKind_at s t w hs hts' h2t (beq_no h1) (beq_no h2) (beq_no h3) (by rw [pre_one, h4]; rfl) (by rw [suf_one, h5]; rfl) (Wf.isName t.data.toList.tail.dropLast) (fun w => ?_) hc).mono fun e w' ⟨he, hb⟩ => ⟨?_, hb⟩
        · have := isName_impl (t.extract 1 (t.size - 1)) w (by rw [ByteArray.size_extract]; omega)
          rw [hn] at this
          exact this
        · cases hb : Wf.isName t.data.toList.tail.dropLast with
          | true =>
            rw [hb, if_pos rfl] at h6
            refine kindOut_some (k := Wf.wrap (s.data.toList.takeWhile Wf.isSgn) (.ref t.data.toList.tail.dropLast)) (by rw [hp, ← htl, h6, Option.map_some]) ?_
            rw [he, kV_eq _ _ rfl rfl, hx, hb, eq_arr _ _ hn]
            rfl
          | false =>
            rw [hb, if_neg (by decide)] at h6
            refine kindOut_none (by rw [hp, ← htl, h6, Option.map_none]) ?_
            rw [he, hb]
            exact ⟨_, _, _, rfl⟩
      · refine (readKind_none s t w hs hts' (beq_no h1) (beq_no h2) (beq_no h3) _ _ (pre_one _ _) (suf_one _ _) ?_ hc).mono fun e w' ⟨he, hb⟩ => ⟨?_, hb⟩
        · by_cases h7 : t.data.toList.head? = some 64
          · by_cases h8 : t.data.toList.getLast? = some 59
            · exact absurd ⟨h7, h8⟩ h4
            · rw [decide_eq_false h8, Bool.and_false]
          · rw [decide_eq_false h7, Bool.false_and]
        · refine kindOut_none (by rw [hp, ← htl, h6, Option.map_none]) ?_
          rw [he]
          exact ⟨_, _, _, rfl⟩
  · refine (readKind_long s w (by omega) hs2).mono fun e w' ⟨he, hb⟩ => ⟨?_, hb⟩
    exact kindOut_none (by rw [Wf.parseK, if_neg (by omega)]) ⟨_, _, _, he⟩
theorem readKind_yes (s : ByteArray) (k : Wf.K) (hk : Wf.parseK s.data.toList = some k) (w : World) (hs2 : s.size ≤ 9223372036854775807) : Calls Tryd.prog 68 #[.string s] w fun e w' => e = .returned (.tuple #[kV k, .bool true]) ∧ Below w.heap.size w w' :=
  (readKind_any s w hs2).mono fun e w' ⟨h, hb⟩ => ⟨by unfold KindOut at h; rw [hk] at h; exact h, hb⟩
theorem readKind_no (s : ByteArray) (hk : Wf.parseK s.data.toList = none) (w : World) (hs2 : s.size ≤ 9223372036854775807) : Calls Tryd.prog 68 #[.string s] w fun e w' => (∃ a b c : ByteArray, e = .returned (.tuple #[.agg #[.string a, .string b, .string c], .bool false])) ∧ Below w.heap.size w w' :=
  (readKind_any s w hs2).mono fun e w' ⟨h, hb⟩ => ⟨by unfold KindOut at h; rw [hk] at h; exact h, hb⟩
end Go.Proofs.YtbkfjopoacbdgaaDoor

namespace Go.Proofs.YtbkfjopoacbdgaaDoor
open Go.ChangeShapes Go.WideShapes Go.ChangeAt Go.RowKit
set_option linter.unusedVariables false
set_option maxRecDepth 20000 in
theorem pick_low (rb : Nat) (a : Option Addr) (len cap : Nat) (p n : Int) (w : World) (c0 : w.cell? ⟨rb, 0, none⟩ = some (.slice a len cap)) (c1 : w.cell? ⟨rb, 1, none⟩ = some (.int .i64 p)) (f1 : w.frozen? ⟨rb, 1, none⟩ = false) (hp : 0 ≤ p) (hp2 : p ≤ 1000000) (hn : n < 1) : Calls Tryd.prog 72 #[.pointer (some ⟨rb, 0, none⟩), .int .i64 n] w fun e w' => e = .returned (.int .i64 0) ∧ w.setCell ⟨rb, 1, none⟩ (.int .i64 (p + 1)) = w' := by
  go_enter Tryd.func72, Tryd.ntmps72
  go_wp2
  go_ret
  exact ⟨rfl, rfl⟩
set_option maxRecDepth 20000 in
theorem pick_empty (rb : Nat) (a : Option Addr) (cap : Nat) (p n : Int) (w : World) (c0 : w.cell? ⟨rb, 0, none⟩ = some (.slice a 0 cap)) (c1 : w.cell? ⟨rb, 1, none⟩ = some (.int .i64 p)) (f1 : w.frozen? ⟨rb, 1, none⟩ = false) (hp : 0 ≤ p) (hp2 : p ≤ 1000000) (hn : 1 ≤ n) : Calls Tryd.prog 72 #[.pointer (some ⟨rb, 0, none⟩), .int .i64 n] w fun e w' => e = .returned (.int .i64 0) ∧ w.setCell ⟨rb, 1, none⟩ (.int .i64 (p + 1)) = w' := by
  go_enter Tryd.func72, Tryd.ntmps72
  go_wp2
  go_ret
  exact ⟨rfl, rfl⟩
set_option maxRecDepth 20000 in
theorem pick_in (rb b off : Nat) (len cap : Nat) (p n m : Int) (w : World) (c0 : w.cell? ⟨rb, 0, none⟩ = some (.slice (some ⟨b, off, none⟩) len cap)) (c1 : w.cell? ⟨rb, 1, none⟩ = some (.int .i64 p)) (f1 : w.frozen? ⟨rb, 1, none⟩ = false) (hp : 0 ≤ p) (hp2 : p ≤ 1000000) (hn : 1 ≤ n)
    (hl : 1 ≤ len) (hl2 : len ≤ 2000) (hpl : p < len) (hb : b ≠ rb) (hm : 0 ≤ m) (hm2 : m < 256) (cb : w.cell? ⟨b, off + p.toNat, none⟩ = some (.int .u8 m)) : Calls Tryd.prog 72 #[.pointer (some ⟨rb, 0, none⟩), .int .i64 n] w fun e w' => e = .returned (.int .i64 (m % n)) ∧ w.setCell ⟨rb, 1, none⟩ (.int .i64 (p + 1)) = w' := by
  have e1 : p + 1 - 1 = p := by omega
  have t0 : ((len : Int) == 0) = false := by rw [beq_eq_false_iff_ne]; omega
  have t1 : (decide (n < 1) || (len : Int) == 0) = false := by rw [t0, decide_eq_false (by omega)]; rfl
  go_enter Tryd.func72, Tryd.ntmps72
  go_wp2
  go_ret
  exact ⟨rfl, rfl⟩
set_option maxRecDepth 20000 in
theorem pick_mix (rb b off : Nat) (len cap : Nat) (p n m1 m2 q1 q2 q3 : Int) (w : World) (c0 : w.cell? ⟨rb, 0, none⟩ = some (.slice (some ⟨b, off, none⟩) len cap)) (c1 : w.cell? ⟨rb, 1, none⟩ = some (.int .i64 p)) (f1 : w.frozen? ⟨rb, 1, none⟩ = false) (hp : 0 ≤ p) (hp2 : p ≤ 1000000) (hn : 1 ≤ n) (hn2 : n ≤ 9223372036854775807)
    (hl : 1 ≤ len) (hl2 : len ≤ 2000) (hpl : ¬ p < len) (hb : b ≠ rb) (hm : 0 ≤ m1) (hm2 : m1 < 256) (hm3 : 0 ≤ m2) (hm4 : m2 < 256)
    (hq1 : p.tmod len = q1) (hq2 : (p * 7 + 3).tmod len = q2) (hq3 : p.tdiv len = q3) (r1 : 0 ≤ q1) (r2 : q1 < len) (r3 : 0 ≤ q2) (r4 : q2 < len) (r5 : 0 ≤ q3) (r6 : q3 ≤ 1000000)
    (cb1 : w.cell? ⟨b, off + q1.toNat, none⟩ = some (.int .u8 m1)) (cb2 : w.cell? ⟨b, off + q2.toNat, none⟩ = some (.int .u8 m2)) : Calls Tryd.prog 72 #[.pointer (some ⟨rb, 0, none⟩), .int .i64 n] w fun e w' => e = .returned (.int .i64 ((bits .xor .i64 (m1 * 131 + m2 * 1117 + p * 29 + q3 * 53) ((m1 * 131 + m2 * 1117 + p * 29 + q3 * 53) / 64)).tmod n)) ∧ ∃ k, w' = (w.setCell ⟨rb, 1, none⟩ (.int .i64 (p + 1))).drewN k := by
  have e1 : p + 1 - 1 = p := by omega
  have t0 : ((len : Int) == 0) = false := by rw [beq_eq_false_iff_ne]; omega
  have t1 : (decide (n < 1) || (len : Int) == 0) = false := by rw [t0, decide_eq_false (by omega)]; rfl
  have z0 : ¬ (len : Int) = 0 := by omega
  have z1 : ¬ len = 0 := by omega
  go_enter Tryd.func72, Tryd.ntmps72
  go_wp2
  go_quiet (fail)
  go_wp2
  go_ret
  exact ⟨rfl, _, rfl⟩

theorem wrap_nat_i64 (n : Nat) (h : n < 4611686018427387904) : IntKind.i64.wrap (n : Int) = n := by
  simp [IntKind.wrap, IntKind.bits, IntKind.signed]; omega
theorem xor_nonneg (x : Int) (h0 : 0 ≤ x) (h1 : x < 4611686018427387904) : 0 ≤ bits .xor .i64 x (x / 64) := by
  obtain ⟨a, rfl⟩ := Int.eq_ofNat_of_zero_le h0
  obtain ⟨b, hb⟩ : ∃ b : Nat, ((a : Int) / 64) = b := ⟨a / 64, by omega⟩
  rw [hb]
  have hx : a ^^^ b < 2 ^ 62 := Nat.xor_lt_two_pow (by omega) (by omega)
  have h1' : (BitVec.ofInt 64 (a : Int)).toNat = a := by
    rw [BitVec.ofInt_natCast, BitVec.toNat_ofNat]; exact Nat.mod_eq_of_lt (by omega)
  have h2' : (BitVec.ofInt 64 (b : Int)).toNat = b := by
    rw [BitVec.ofInt_natCast, BitVec.toNat_ofNat]; exact Nat.mod_eq_of_lt (by omega)
  have : bits .xor .i64 (a : Int) (b : Int) = ((a ^^^ b : Nat) : Int) := by
    show IntKind.i64.wrap ((BitVec.ofInt 64 (a : Int) ^^^ BitVec.ofInt 64 (b : Int)).toNat : Int) = _
    rw [BitVec.toNat_xor, h1', h2', wrap_nat_i64 _ (by omega)]
  rw [this]; omega

/-- all but the reader is as it was -/
structure Beside (rb : Nat) (w w' : World) : Prop where
  os : w'.os = w.os
  tape : w'.tape = w.tape
  output : w'.output = w.output
  size : w.heap.size ≤ w'.heap.size
  block : ∀ k, k < w.heap.size → k ≠ rb → w'.heap[k]? = w.heap[k]?
theorem Beside.refl (rb : Nat) (w : World) : Beside rb w w := ⟨rfl, rfl, rfl, Nat.le_refl _, fun _ _ _ => rfl⟩
theorem Beside.trans {rb : Nat} {a b c : World} (h : Beside rb a b) (k : Beside rb b c) : Beside rb a c :=
  ⟨k.os.trans h.os, k.tape.trans h.tape, k.output.trans h.output, Nat.le_trans h.size k.size, fun i hi hr => (k.block i (Nat.lt_of_lt_of_le hi h.size) hr).trans (h.block i hi hr)⟩
theorem Beside.of_below {rb B : Nat} {a b : World} (h : Below B a b) (hB : a.heap.size ≤ B) : Beside rb a b := ⟨h.os, h.tape, h.output, h.size, fun k hk _ => h.block k (Nat.lt_of_lt_of_le hk hB)⟩
theorem Beside.below {rb B : Nat} {a w w' : World} (h : Below B a w) (hB : B ≤ w.heap.size) (hr : B ≤ rb) (k : Beside rb w w') : Below B a w' :=
  ⟨k.os.trans h.os, k.tape.trans h.tape, k.output.trans h.output, Nat.le_trans h.size k.size, fun i hi => (k.block i (by omega) (by omega)).trans (h.block i hi)⟩
theorem Beside.set (rb : Nat) (w : World) (o : Nat) (u : Value) : Beside rb w (w.setCell ⟨rb, o, none⟩ u) := by
  have h := Below.setCell (B := rb) (Below.refl rb w) (p := ⟨rb, o, none⟩) (Nat.le_refl _) u
  exact ⟨h.os, h.tape, h.output, h.size, fun k _ hr => Below.heap_setCell w ⟨rb, o, none⟩ u k hr⟩
theorem Beside.drewN {rb : Nat} {a w : World} (h : Beside rb a w) (n : Nat) : Beside rb a (w.drewN n) := h.trans ⟨rfl, rfl, rfl, Nat.le_refl _, fun _ _ _ => rfl⟩
theorem Beside.drew {rb : Nat} {a w : World} (h : Beside rb a w) : Beside rb a w.drew := h.trans ⟨rfl, rfl, rfl, Nat.le_refl _, fun _ _ _ => rfl⟩
theorem Beside.cell {rb : Nat} {w w' : World} (h : Beside rb w w') {p : Addr} (hp : p.block < w.heap.size) (hr : p.block ≠ rb) : w'.cell? p = w.cell? p := World.cell?_of_block (w := w) (h.block p.block hp hr)
theorem Beside.cell_some {rb : Nat} {w w' : World} (h : Beside rb w w') {b o : Nat} {v : Value} (hc : w.cell? ⟨b, o, none⟩ = some v) (hr : b ≠ rb) : w'.cell? ⟨b, o, none⟩ = some v := by
  have hlt : b < w.heap.size := by
    rcases Nat.lt_or_ge b w.heap.size with h | h
    · exact h
    · simp [World.cell?, Array.getElem?_eq_none h] at hc
  rw [h.cell (p := ⟨b, o, none⟩) hlt hr]; exact hc

/-- bytes that can be read: none, or a row of them below block rb -/
def Bytes (w : World) (rb : Nat) (a : Option Addr) (len cap : Nat) : Prop :=
  len ≤ cap ∧ cap ≤ maxLen ∧ (len = 0 ∨ ∃ b off, a = some ⟨b, off, none⟩ ∧ b < rb ∧ ∀ i, i < len → ∃ m : Int, 0 ≤ m ∧ m < 256 ∧ w.cell? ⟨b, off + i, none⟩ = some (.int .u8 m))
/-- a reader at block rb that has picked k times at most -/
def Rd (w : World) (rb k : Nat) : Prop := ∃ a len cap, ∃ p : Int, Bytes w rb a len cap ∧ w.cell? ⟨rb, 0, none⟩ = some (.slice a len cap) ∧ w.cell? ⟨rb, 1, none⟩ = some (.int .i64 p) ∧ w.frozen? ⟨rb, 1, none⟩ = false ∧ 0 ≤ p ∧ p ≤ k ∧ len ≤ 2000 ∧ rb < w.heap.size
theorem Bytes.keep {w w' : World} {rb : Nat} {a : Option Addr} {len cap : Nat} (h : Bytes w rb a len cap) (hk : ∀ b o v, b < rb → w.cell? ⟨b, o, none⟩ = some v → w'.cell? ⟨b, o, none⟩ = some v) : Bytes w' rb a len cap := by
  obtain ⟨h1, h2, h | ⟨b, off, ha, hb, hc⟩⟩ := h
  · exact ⟨h1, h2, .inl h⟩
  · refine ⟨h1, h2, .inr ⟨b, off, ha, hb, fun i hi => ?_⟩⟩
    obtain ⟨m, m1, m2, m3⟩ := hc i hi
    exact ⟨m, m1, m2, hk _ _ _ hb m3⟩
theorem Rd.mono {w : World} {rb k k' : Nat} (h : Rd w rb k) (hk : k ≤ k') : Rd w rb k' := by
  obtain ⟨a, len, cap, p, h1, h2, h3, h4, h5, h6, h7, h8⟩ := h
  exact ⟨a, len, cap, p, h1, h2, h3, h4, h5, by omega, h7, h8⟩
theorem Rd.below {w w' : World} {rb k B : Nat} (h : Rd w rb k) (hb : Below B w w') (hB : rb < B) : Rd w' rb k := by
  obtain ⟨a, len, cap, p, h1, h2, h3, h4, h5, h6, h7, h8⟩ := h
  refine ⟨a, len, cap, p, h1.keep fun b o v hbr hc => ?_, ?_, ?_, ?_, h5, h6, h7, Nat.lt_of_lt_of_le h8 hb.size⟩
  · rw [hb.cell (p := ⟨b, o, none⟩) (Nat.lt_trans hbr hB)]; exact hc
  · rw [hb.cell (p := ⟨rb, 0, none⟩) hB]; exact h2
  · rw [hb.cell (p := ⟨rb, 1, none⟩) hB]; exact h3
  · rw [hb.frozen (p := ⟨rb, 1, none⟩) hB]; exact h4
theorem Rd.drewN {w : World} {rb k : Nat} (h : Rd w rb k) (n : Nat) : Rd (w.drewN n) rb k := h.below (B := rb + 1) ⟨rfl, rfl, rfl, Nat.le_refl _, fun _ _ => rfl⟩ (by omega)
theorem Rd.step {w : World} {rb : Nat} {a : Option Addr} {len cap : Nat} {p : Int} {k : Nat} (h1 : Bytes w rb a len cap) (h2 : w.cell? ⟨rb, 0, none⟩ = some (.slice a len cap)) (h3 : w.cell? ⟨rb, 1, none⟩ = some (.int .i64 p)) (h4 : w.frozen? ⟨rb, 1, none⟩ = false) (h5 : 0 ≤ p) (h6 : p ≤ k) (h7 : len ≤ 2000) (h8 : rb < w.heap.size) : Rd (w.setCell ⟨rb, 1, none⟩ (.int .i64 (p + 1))) rb (k + 1) := by
  have hbs := Beside.set rb w 1 (.int .i64 (p + 1))
  refine ⟨a, len, cap, p + 1, h1.keep fun b o v hbr hc => hbs.cell_some hc (by omega), ?_, ?_, ?_, by omega, by omega, h7, Nat.lt_of_lt_of_le h8 hbs.size⟩
  · exact (World.cell?_setCell_other w _ _ _ (by simp)).trans h2
  · exact World.cell?_setCell_same w _ _ h3
  · simp [h4]

theorem pick (rb k : Nat) (n : Int) (w : World) (H : Rd w rb k) (hk : k ≤ 1000000) (hn : n ≤ 9223372036854775807) :
    Calls Tryd.prog 72 #[.pointer (some ⟨rb, 0, none⟩), .int .i64 n] w fun e w' => ∃ v : Int, e = .returned (.int .i64 v) ∧ (1 ≤ n → 0 ≤ v ∧ v < n) ∧ (n < 1 → v = 0) ∧ Rd w' rb (k + 1) ∧ Beside rb w w' := by
  obtain ⟨a, len, cap, p, h1, h2, h3, h4, h5, h6, h7, h8⟩ := H
  have R := Rd.step h1 h2 h3 h4 h5 h6 h7 h8
  have Bs := Beside.set rb w 1 (.int .i64 (p + 1))
  rcases Int.lt_or_le n 1 with hn1 | hn1
  · refine (pick_low rb a len cap p n w h2 h3 h4 h5 (by omega) hn1).mono ?_
    rintro e w' ⟨rfl, rfl⟩
    exact ⟨0, rfl, fun h => by omega, fun _ => rfl, R, Bs⟩
  · by_cases hl : len = 0
    · subst hl
      refine (pick_empty rb a cap p n w h2 h3 h4 h5 (by omega) hn1).mono ?_
      rintro e w' ⟨rfl, rfl⟩
      exact ⟨0, rfl, fun h => by omega, fun h => by omega, R, Bs⟩
    · obtain ⟨l1, l2, h0 | ⟨b, off, rfl, hb, hc⟩⟩ := h1
      · exact absurd h0 hl
      · by_cases hpl : p < len
        · obtain ⟨m, m1, m2, m3⟩ := hc p.toNat (by omega)
          refine (pick_in rb b off len cap p n m w h2 h3 h4 h5 (by omega) hn1 (by omega) h7 hpl (by omega) m1 m2 m3).mono ?_
          rintro e w' ⟨rfl, rfl⟩
          exact ⟨_, rfl, fun h => ⟨Int.emod_nonneg _ (by omega), Int.emod_lt_of_pos _ (by omega)⟩, fun h => by omega, R, Bs⟩
        · have hlp : (0 : Int) < len := by omega
          have q1 : p.tmod len = p % len := Int.tmod_eq_emod_of_nonneg h5
          have q2 : (p * 7 + 3).tmod len = (p * 7 + 3) % len := Int.tmod_eq_emod_of_nonneg (by omega)
          have q3 : p.tdiv len = p / len := Int.tdiv_eq_ediv_of_nonneg h5
          have a1 := Int.emod_nonneg p (b := len) (by omega)
          have a2 := Int.emod_lt_of_pos p hlp
          have a3 := Int.emod_nonneg (p * 7 + 3) (b := len) (by omega)
          have a4 := Int.emod_lt_of_pos (p * 7 + 3) hlp
          have a5 : 0 ≤ p / len := Int.ediv_nonneg h5 (by omega)
          have a6 : p / len ≤ p := Int.ediv_le_self _ h5
          obtain ⟨m, m1, m2, m3⟩ := hc (p % len).toNat (by omega)
          obtain ⟨m', m1', m2', m3'⟩ := hc ((p * 7 + 3) % len).toNat (by omega)
          refine (pick_mix rb b off len cap p n m m' (p % len) ((p * 7 + 3) % len) (p / len) w h2 h3 h4 h5 (by omega) hn1 hn (by omega) h7 hpl (by omega) m1 m2 m1' m2' q1 q2 q3 a1 a2 a3 a4 a5 (by omega) m3 m3').mono ?_
          rintro e w' ⟨rfl, k1, rfl⟩
          exact ⟨_, rfl, fun h => ⟨Int.tmod_nonneg _ (xor_nonneg _ (by omega) (by omega)), Int.tmod_lt_of_pos _ (by omega)⟩, fun h => by omega, R.drewN _, Bs.drewN _⟩
set_option maxRecDepth 20000 in
theorem open_small (w : World) (a : Option Addr) (len cap : Nat) (hl : len ≤ 2000) : Calls Tryd.prog 46 #[.slice a len cap] w fun e w' => e = .returned (.pointer (some ⟨w.heap.size, 0, none⟩)) ∧ w.alloc (.cells #[.slice a len cap, .int .i64 0] 103) = w' := by
  go_enter Tryd.func46, Tryd.ntmps46
  go_wp2
  go_ret
  exact ⟨rfl, rfl⟩
set_option maxRecDepth 20000 in
theorem open_big (w : World) (b off : Nat) (len cap : Nat) (hl : 2000 < len) (hl2 : len ≤ cap) (hc : cap ≤ maxLen) : Calls Tryd.prog 46 #[.slice (some ⟨b, off, none⟩) len cap] w fun e w' => e = .returned (.pointer (some ⟨w.heap.size, 0, none⟩)) ∧ w.alloc (.cells #[.slice (some ⟨b, off, none⟩) 2000 cap, .int .i64 0] 103) = w' := by
  go_enter Tryd.func46, Tryd.ntmps46
  go_wp2
  go_ret
  exact ⟨rfl, rfl⟩
theorem Rd.alloc {w : World} {rb k : Nat} (h : Rd w rb k) (o : Obj) : Rd (w.alloc o) rb k := by
  have h8 : rb < w.heap.size := by obtain ⟨a, len, cap, p, h1, h2, h3, h4, h5, h6, h7, h8⟩ := h; exact h8
  exact h.below (B := rb + 1) (Below.alloc (Below.refl _ _) (by omega) o) (by omega)
theorem Rd.lt {w : World} {rb k : Nat} (h : Rd w rb k) : rb < w.heap.size := by obtain ⟨a, len, cap, p, h1, h2, h3, h4, h5, h6, h7, h8⟩ := h; exact h8
theorem Beside.alloc {rb : Nat} {a w : World} (h : Beside rb a w) (o : Obj) : Beside rb a (w.alloc o) := h.trans (Beside.of_below (B := w.heap.size) (Below.alloc (Below.refl _ _) (Nat.le_refl _) o) (Nat.le_refl _))
/-- the bytes that came in, as the reader wants them -/
theorem bytes_of {w : World} {a : Option Addr} {len cap : Nat} {zs : List Int} (h : (a = none ∧ len = 0 ∧ cap = 0 ∧ zs = []) ∨
  ∃ x, a = some x ∧ len ≤ cap ∧ cap ≤ maxLen ∧ zs.length = cap ∧ (∀ i, i < zs.length → w.cell? (x.add i) = some (.int .u8 (zs.getD i 0))) ∧ ∀ n ∈ zs, (Lit.int .u8 n).wf = true) : Bytes w w.heap.size a len cap := by
  rcases h with ⟨rfl, rfl, rfl, _⟩ | ⟨x, rfl, h1, h2, h3, h4, h5⟩
  · exact ⟨Nat.le_refl _, by unfold maxLen; omega, .inl rfl⟩
  · refine ⟨h1, h2, ?_⟩
    rcases Nat.eq_zero_or_pos len with h0 | h0
    · exact .inl h0
    · have hx := h4 0 (by omega)
      simp only [Addr.add, if_true] at hx
      obtain ⟨b, off, spot⟩ := x
      have hb : b < w.heap.size := by
        rcases Nat.lt_or_ge b w.heap.size with h | h
        · exact h
        · simp [World.cell?, Array.getElem?_eq_none h] at hx
      have hs : spot = none := by
        simp only [World.cell?] at hx
        split at hx
        · cases spot with
          | none => rfl
          | some y => simp at hx
        · cases hx
      subst hs
      refine .inr ⟨b, off, rfl, hb, fun i hi => ?_⟩
      have hc := h4 i (by omega)
      have ha : (Addr.add ⟨b, off, none⟩ i) = ⟨b, off + i, none⟩ := by simp [Addr.add]; try (intro h; omega)
      rw [ha] at hc
      have hw := h5 (zs.getD i 0) (by rw [List.getD_eq_getElem?_getD, List.getElem?_eq_getElem (show i < zs.length by omega), Option.getD_some]; exact List.getElem_mem _)
      simp only [Lit.wf, Bool.and_eq_true, decide_eq_true_eq] at hw
      have hmin : IntKind.u8.min = 0 := rfl
      have hmax : IntKind.u8.max = 255 := rfl
      rw [hmin, hmax] at hw
      exact ⟨_, hw.1, by omega, hc⟩
theorem Rd.fresh {w : World} {a : Option Addr} {len cap len' : Nat} (h : Bytes w w.heap.size a len cap) (hl : len' ≤ len) (hl2 : len' ≤ 2000) : Rd (w.alloc (.cells #[.slice a len' cap, .int .i64 0] 103)) w.heap.size 0 := by
  obtain ⟨h1, h2, h3⟩ := h
  have hb : Bytes w w.heap.size a len' cap := by
    refine ⟨by omega, h2, ?_⟩
    rcases h3 with h3 | ⟨b, off, ha, hb, hc⟩
    · exact .inl (by omega)
    · exact .inr ⟨b, off, ha, hb, fun i hi => hc i (by omega)⟩
  refine ⟨a, len', cap, 0, hb.keep fun b o v hbr hc => ?_, ?_, ?_, ?_, Int.le_refl _, by simp, hl2, by simp⟩
  · rw [World.cell?_alloc_lt w _ _ hbr]; exact hc
  · simp
  · simp
  · simp
theorem openRd (w : World) (a : Option Addr) (len cap : Nat) (h : Bytes w w.heap.size a len cap) : Calls Tryd.prog 46 #[.slice a len cap] w fun e w' => ∃ rb, e = .returned (.pointer (some ⟨rb, 0, none⟩)) ∧ w.heap.size ≤ rb ∧ Rd w' rb 0 ∧ Below w.heap.size w w' := by
  rcases Nat.lt_or_ge 2000 len with hl | hl
  · have h' := h
    obtain ⟨h1, h2, h3 | ⟨b, off, rfl, hb, hc⟩⟩ := h
    · omega
    · refine (open_big w b off len cap hl h1 h2).mono ?_
      rintro e w' ⟨rfl, rfl⟩
      exact ⟨_, rfl, Nat.le_refl _, Rd.fresh h' (by omega) (Nat.le_refl _), Below.alloc (Below.refl _ _) (Nat.le_refl _) _⟩
  · refine (open_small w a len cap hl).mono ?_
    rintro e w' ⟨rfl, rfl⟩
    exact ⟨_, rfl, Nat.le_refl _, Rd.fresh h (Nat.le_refl _) hl, Below.alloc (Below.refl _ _) (Nat.le_refl _) _⟩
end Go.Proofs.YtbkfjopoacbdgaaDoor

namespace Go.Proofs.YtbkfjopoacbdgaaDoor
open Go.ChangeShapes Go.WideShapes Go.ChangeAt Go.RowKit Go.Lib
set_option linter.unusedVariables false
/-- v is a slice in world w whose elements, one cell each, are xs; its block is b -/
def RowAt (w : World) (b : Nat) (v : Value) (xs : List Value) : Prop :=
  ∃ a cap, v = .slice a xs.length cap ∧ xs.length ≤ cap ∧ cap ≤ maxLen ∧ (xs = [] ∨ ∃ o, a = some ⟨b, o, none⟩ ∧ b < w.heap.size ∧ ∀ i (h : i < xs.length), w.cell? ⟨b, o + i, none⟩ = some xs[i] ∧ w.frozen? ⟨b, o + i, none⟩ = false)
theorem RowAt.keep {w w' : World} {b : Nat} {v : Value} {xs : List Value} (h : RowAt w b v xs) (hs : w.heap.size ≤ w'.heap.size) (hk : b < w.heap.size → w'.heap[b]? = w.heap[b]?) : RowAt w' b v xs := by
  obtain ⟨a, cap, h1, h2, h3, h4⟩ := h
  refine ⟨a, cap, h1, h2, h3, ?_⟩
  rcases h4 with h4 | ⟨o, h5, h6, h7⟩
  · exact .inl h4
  · refine .inr ⟨o, h5, Nat.lt_of_lt_of_le h6 hs, fun i hi => ?_⟩
    have h8 := hk h6
    exact ⟨(World.cell?_of_block (w := w) (a := ⟨b, o + i, none⟩) h8).trans (h7 i hi).1, (World.frozen?_of_block (w := w) (a := ⟨b, o + i, none⟩) h8).trans (h7 i hi).2⟩
theorem RowAt.below {w w' : World} {b B : Nat} {v : Value} {xs : List Value} (h : RowAt w b v xs) (hb : Below B w w') (hB : b < w.heap.size → b < B) : RowAt w' b v xs := h.keep hb.size fun hx => hb.block b (hB hx)
theorem RowAt.beside {w w' : World} {b rb : Nat} {v : Value} {xs : List Value} (h : RowAt w b v xs) (hb : Beside rb w w') (hB : b ≠ rb) : RowAt w' b v xs := h.keep hb.size fun hx => hb.block b hx hB
theorem RowAt.drewN {w : World} {b : Nat} {v : Value} {xs : List Value} (h : RowAt w b v xs) (n : Nat) : RowAt (w.drewN n) b v xs := h.keep (Nat.le_refl _) fun _ => rfl
/-- a slice that the call has built by append -/
theorem RowAt.of_owns {w : World} {base : Nat} {e : TypeId} {v : Value} {xs : List Value} (h : w.ownsRow base e 1 v xs.length xs) : ∃ b, base ≤ b ∧ RowAt w b v xs := by
  obtain ⟨h1, h2 | ⟨g, cap, cur, h3, h4, h5, h6, h7, h8, h9⟩⟩ := h
  · refine ⟨base, Nat.le_refl _, none, 0, ?_, by omega, by unfold maxLen; omega, .inl (List.eq_nil_of_length_eq_zero h2.2)⟩
    rw [h2.1, h2.2]
  · refine ⟨g, h4, _, cap, h3, h6, h7, .inr ⟨0, rfl, (Array.getElem?_eq_some_iff.1 h5).1, fun i hi => ?_⟩⟩
    have hx : (cur.toList.take (xs.length * 1))[i]? = xs[i]? := by rw [h9]
    rw [List.getElem?_take, if_pos (by omega), List.getElem?_eq_getElem hi] at hx
    have hx2 : cur[i]? = some xs[i] := by simpa using hx
    simp [World.cell?, World.frozen?, h5, hx2]
/-- 'out = append(out, x)', out nil or the call's own, x of one cell -/
theorem wpList_append_cell {P : Program} (w : World) {ops : Array Oper} {rest : List Oper} {o : Oper} {a : Act} {Q : Exit → Act → World → Prop} (hgd : o.guard = none) (s x : Operand) (t : TypeId)
    (ho : o.op = .call { callee := .builtin .append, args := #[s, x], argTypes := #[t, t] })
    (base : Nat) (e : TypeId) (z : Value) (bytes : Nat) (ht : P.underlying t = some (.slice e)) (hi : (P.info? e).map (fun i => (i.zero, i.size, i.bytes)) = some (some z, 1, bytes)) (hz1 : z.cells.size = 1)
    (v : Value) (xs : List Value) (hs : a.eval s = v) (hown : w.ownsRow base e 1 v xs.length xs)
    (ad : Addr) (u : Value) (hx : a.eval x = .slice (some ad) 1 1) (hc : w.cell? ad = some u) (hu : u.oneCell' = true)
    (hn : (xs.length + 1) * bytes ≤ 140737488355328) (hn1 : xs.length + 1 ≤ 140737488355328) (hbase : base ≤ w.heap.size)
    (h : ∀ v' w', w'.ownsRow base e 1 v' (xs ++ [u]).length (xs ++ [u]) → Below base w w' → wpList P ops Q rest (a.put o.dst v') w') : wpList P ops Q (o :: rest) a w := by
  obtain ⟨i0, hi0, hz0, hz2, hz3⟩ := info_parts hi
  refine wpList_append_one w hgd s x t ho base e i0 z 1 bytes ht hi0 hz0 hz2 hz3 hz1 (by decide) v xs.length _ hs hown ad [u] hx rfl ?_ ?_ hn hn1 hbase ?_
  · intro j u' hj
    match j, hj with
    | 0, hj => simp at hj; subst hj; simpa [Addr.add] using hc
  · intro u' hu'; simp at hu'; subst hu'; exact hu
  · intro v' w' g1 g2
    refine h v' w' ?_ g2
    have e1 : (xs ++ [u]).length = xs.length + 1 := by simp
    rw [e1]
    exact g1
set_option maxRecDepth 20000 in
theorem eqTexts (l : List (List UInt8)) (hl : l.length ≤ 1048576) (b1 b2 : Nat) (v1 v2 : Value) (w : World) (H1 : RowAt w b1 v1 (l.map tx)) (H2 : RowAt w b2 v2 (l.map tx)) : Calls Tryd.prog 19 #[v1, v2] w fun e w' => e = .returned (.bool true) ∧ ∃ n, w' = w.drewN n := by
  obtain ⟨a1, c1, rfl, h11, h12, h13⟩ := H1
  obtain ⟨a2, c2, rfl, h21, h22, h23⟩ := H2
  have HA := hid h13
  have HB := hid h23
  clear h13 h23
  obtain ⟨m, hm⟩ : ∃ m, (l.map tx).length = m := ⟨_, rfl⟩
  have HM := hid hm
  have hm2 : l.length = m := by rw [← hm, List.length_map]
  rw [hm] at h11 h21 ⊢
  rw [hm2] at hl
  have HM2 := hid hm2
  clear hm hm2
  go_enter Tryd.func19, Tryd.ntmps19
  go_wp2
  go_loopw [5] (fun v wr => ∃ (i : Nat) (k : Nat), v = .int .i64 i ∧ i ≤ m ∧ wr = w.drewN k) (fun v _ => m - (RowKit.intOf v).toNat)
  case atStart => exact ⟨0, 0, rfl, by omega, rfl⟩
  case round =>
    obtain ⟨i, k, rfl, hi, rfl⟩ := hrel
    by_cases hlt : i < m
    · rcases HA.out with h0 | ⟨o1, rfl, h14, h15⟩
      · exact absurd HM.out (by rw [h0]; simp; omega)
      rcases HB.out with h0 | ⟨o2, rfl, h24, h25⟩
      · exact absurd HM.out (by rw [h0]; simp; omega)
      have p1 := (h15 i (by rw [HM.out]; exact hlt)).1
      have p2 := (h25 i (by rw [HM.out]; exact hlt)).1
      obtain ⟨s, hs⟩ : ∃ s : ByteArray, (l.map tx)[i]'(by rw [HM.out]; exact hlt) = .string s := ⟨⟨(l[i]'(by rw [HM2.out]; exact hlt)).toArray⟩, by rw [List.getElem_map]⟩
      rw [hs] at p1 p2
      clear hs h15 h25 h14 h24 HA HB
      go_wp2
      go_quiet (fail)
      go_wp2
      go_roundw
      case rel => exact ⟨i + 1, _, by go_num, by omega, rfl⟩
      case measure => simp [RowKit.intOf]; omega
    · go_wp2
      go_ret
      exact ⟨rfl, _, rfl⟩
set_option maxRecDepth 20000 in
theorem wfTexts (l : List (List UInt8)) (hl : l.length ≤ 1048576) (b1 b2 : Nat) (v1 v2 : Value) (w : World) (H1 : RowAt w b1 v1 (l.map tx)) (H2 : RowAt w b2 v2 (l.map tx)) : Calls Tryd.prog 32 #[v1, v2] w fun e w' => e = .returned (.bool true) ∧ ∃ n, w' = w.drewN n := by
  obtain ⟨a1, c1, rfl, h11, h12, h13⟩ := H1
  obtain ⟨a2, c2, rfl, h21, h22, h23⟩ := H2
  have HA := hid h13
  have HB := hid h23
  clear h13 h23
  obtain ⟨m, hm⟩ : ∃ m, (l.map tx).length = m := ⟨_, rfl⟩
  have HM := hid hm
  have hm2 : l.length = m := by rw [← hm, List.length_map]
  rw [hm] at h11 h21 ⊢
  rw [hm2] at hl
  have HM2 := hid hm2
  clear hm hm2
  go_enter Tryd.func32, Tryd.ntmps32
  go_wp2
  go_loopw [5] (fun v wr => ∃ (i : Nat) (k : Nat), v = .int .i64 i ∧ i ≤ m ∧ wr = w.drewN k) (fun v _ => m - (RowKit.intOf v).toNat)
  case atStart => exact ⟨0, 0, rfl, by omega, rfl⟩
  case round =>
    obtain ⟨i, k, rfl, hi, rfl⟩ := hrel
    by_cases hlt : i < m
    · rcases HA.out with h0 | ⟨o1, rfl, h14, h15⟩
      · exact absurd HM.out (by rw [h0]; simp; omega)
      rcases HB.out with h0 | ⟨o2, rfl, h24, h25⟩
      · exact absurd HM.out (by rw [h0]; simp; omega)
      have p1 := (h15 i (by rw [HM.out]; exact hlt)).1
      have p2 := (h25 i (by rw [HM.out]; exact hlt)).1
      obtain ⟨s, hs⟩ : ∃ s : ByteArray, (l.map tx)[i]'(by rw [HM.out]; exact hlt) = .string s := ⟨⟨(l[i]'(by rw [HM2.out]; exact hlt)).toArray⟩, by rw [List.getElem_map]⟩
      rw [hs] at p1 p2
      clear hs h15 h25 h14 h24 HA HB
      go_wp2
      go_quiet (fail)
      go_wp2
      go_roundw
      case rel => exact ⟨i + 1, _, by go_num, by omega, rfl⟩
      case measure => simp [RowKit.intOf]; omega
    · go_wp2
      go_ret
      exact ⟨rfl, _, rfl⟩
/-- the figures of a number from 1 on -/
def digs (n : Nat) : List UInt8 := if n = 0 then [] else digs (n / 10) ++ [UInt8.ofNat (48 + n % 10)]
termination_by n
decreasing_by omega
theorem digs_step {n : Nat} (h : 0 < n) : digs n = digs (n / 10) ++ [UInt8.ofNat (48 + n % 10)] := by rw [digs, if_neg (by omega)]
theorem digs_len (n : Nat) : (digs n).length ≤ n := by
  induction n using Nat.strongRecOn with
  | ind n ih =>
    by_cases h : n = 0
    · subst h; rw [digs, if_pos rfl]; simp
    · rw [digs_step (by omega), List.length_append, List.length_singleton]
      have := ih (n / 10) (by omega)
      omega
/-- the mark of a number -/
def mk (n : Nat) : List UInt8 := 109 :: digs n
theorem mk_app (x t : ByteArray) (n : Nat) (h : x.data.toList ++ t.data.toList = digs n) : (⟨#[109]⟩ : ByteArray) ++ (x ++ t) = ⟨(mk n).toArray⟩ := by
  rw [eq_list]
  simp [mk, ← h]
set_option maxRecDepth 20000 in
theorem markText (k : Nat) (hk : k ≤ 4000000) (h0 : 0 < k) (w : World) : Calls Tryd.prog 41 #[.int .i64 k] w fun e w' => e = .returned (tx (mk k)) ∧ Below w.heap.size w w' := by
  have kc := run_convert_lit (P := Tryd.prog) 36 9 5 Tryd.underlying36 Tryd.underlying5 Tryd.underlying9
  go_enter Tryd.func41, Tryd.ntmps41
  go_wp2
  go_loopw [0, 3] (fun v t wr => ∃ (i : Nat) (s : ByteArray), v = .int .i64 i ∧ t = .string s ∧ i ≤ k ∧ Hid (digs i ++ s.data.toList = digs k) ∧ Hid (Below w.heap.size w wr)) (fun v _ _ => (RowKit.intOf v).toNat)
  case atStart => exact ⟨k, ⟨#[]⟩, rfl, rfl, Nat.le_refl _, hid (show _ = _ by simp), hid (Below.refl _ _)⟩
  case round =>
    obtain ⟨i, s, rfl, rfl, hi, hs, hb⟩ := hrel
    have hsz : s.size ≤ 4000000 := by
      have h1 := congrArg List.length hs.out
      have h2 := digs_len k
      rw [List.length_append, size_list] at h1
      omega
    by_cases hlt : 0 < i
    · go_wp2
      go_roundw
      case rel => exact ⟨i / 10, _, by go_num, rfl, by omega, hid (show _ = _ by rw [← hs.out, digs_step hlt, UInt8.ofNat_add]; simp), hid (hb.out.alloc hb.out.size _)⟩
      case measure => simp [RowKit.intOf]; omega
    · have hi0 : i = 0 := by omega
      subst hi0
      have he : (⟨#[109]⟩ : ByteArray) ++ s = ⟨(mk k).toArray⟩ := by
        rw [eq_list, mk, ← hs.out, digs]
        simp
      go_wp2
      go_ret
      exact ⟨rfl, hb.out⟩
/-- the marks from k on, n of them -/
def mks (k n : Nat) : List Value := (List.range n).map fun i => tx (mk (k + i))
theorem mks_len (k n : Nat) : (mks k n).length = n := by simp [mks]
set_option maxRecDepth 20000 in
theorem held (k : Nat) (h0 : 0 < k) (b : Nat) (v : Value) (w : World) (n : Nat) (hn : n + k ≤ 2000000) (H : RowAt w b v (mks k n)) : Calls Tryd.prog 21 #[v, .int .i64 k] w fun e w' => e = .returned (.int .i64 ((k : Int) + n)) ∧ Below w.heap.size w w' := by
  obtain ⟨a, c, rfl, h11, h12, h13⟩ := H
  rw [mks_len] at h11 ⊢
  have HA := hid h13
  clear h13
  go_enter Tryd.func21, Tryd.ntmps21
  go_wp2
  go_loopw [1, 5] (fun u v wr => ∃ (i : Nat), v = .int .i64 i ∧ u = .int .i64 ((k : Int) + i) ∧ i ≤ n ∧ Hid (Below w.heap.size w wr)) (fun _ v _ => n - (RowKit.intOf v).toNat)
  case atStart => exact ⟨0, rfl, by simp, by omega, hid (Below.refl _ _)⟩
  case round =>
    obtain ⟨i, rfl, rfl, hi, hb⟩ := hrel
    by_cases hlt : i < n
    · rcases HA.out with hx | ⟨o1, rfl, h14, h15⟩
      · exact absurd (mks_len k n) (by rw [hx]; simp; omega)
      have p0 := (h15 i (by rw [mks_len]; exact hlt)).1
      have hmk : (mks k n)[i]'(by rw [mks_len]; exact hlt) = tx (mk (k + i)) := by simp [mks]
      rw [hmk] at p0
      have p1 : wr.cell? ⟨b, o1 + i, none⟩ = some (tx (mk (k + i))) := by rw [hb.out.cell (p := ⟨b, o1 + i, none⟩) h14]; exact p0
      obtain ⟨t, ht⟩ : ∃ t : ByteArray, (⟨(mk (k + i)).toArray⟩ : ByteArray) = t := ⟨_, rfl⟩
      have HT := hid fun w => markText (k + i) (by omega) (by omega) w
      rw [Int.natCast_add] at HT
      rw [tx, ht] at p1 HT
      have hbw : b < wr.heap.size := Nat.lt_of_lt_of_le h14 hb.out.size
      clear p0 hmk ht h15 HA
      go_wp2
      go_region_with (go_at_call 41; refine (HT.out _).mono ?_; rintro e w2 ⟨rfl, hb2⟩; have p2 : w2.cell? ⟨b, o1 + i, none⟩ = some (.string t) := (by rw [hb2.cell (p := ⟨b, o1 + i, none⟩) hbw]; exact p1); have HB2 := hid (show Below w.heap.size w w2 from hb.out.drew.trans (hb2.mono hb.out.size)); clear hb2)
      all_goals
        go_wp2
        go_roundw
        case rel => exact ⟨i + 1, by go_num, by go_num, by omega, HB2⟩
        case measure => simp [RowKit.intOf]; omega
    · have hin : i = n := by omega
      subst hin
      go_wp2
      go_ret
      exact ⟨rfl, hb.out⟩
/-- a slice of n texts, of which the first i are marks -/
def Marked (w : World) (b o k n i : Nat) : Prop := b < w.heap.size ∧ ∀ j, j < n → ∃ s : ByteArray, w.cell? ⟨b, o + j, none⟩ = some (.string s) ∧ w.frozen? ⟨b, o + j, none⟩ = false ∧ (j < i → s = ⟨(mk (k + j)).toArray⟩)
theorem Marked.step {w w2 : World} {b o k n i : Nat} (h : Marked w b o k n i) (hb : Below w.heap.size w w2) (hi : i < n) : Marked (w2.setCell ⟨b, o + i, none⟩ (tx (mk (k + i)))) b o k n (i + 1) := by
  obtain ⟨h1, h2⟩ := h
  refine ⟨Nat.lt_of_lt_of_le (Nat.lt_of_lt_of_le h1 hb.size) (by simp), fun j hj => ?_⟩
  obtain ⟨s, h3, h4, h5⟩ := h2 j hj
  have h3' : w2.cell? ⟨b, o + j, none⟩ = some (.string s) := by rw [hb.cell (p := ⟨b, o + j, none⟩) h1]; exact h3
  have h4' : w2.frozen? ⟨b, o + j, none⟩ = false := by rw [hb.frozen (p := ⟨b, o + j, none⟩) h1]; exact h4
  by_cases hji : j = i
  · subst hji
    exact ⟨_, World.cell?_setCell_same w2 _ _ h3', by simpa using h4', fun _ => rfl⟩
  · exact ⟨s, (World.cell?_setCell_other w2 _ _ _ (by first | (simp; done) | (simp; omega))).trans h3', by simpa using h4', fun hlt => h5 (by omega)⟩
set_option maxRecDepth 20000 in
theorem marked (k : Nat) (h0 : 0 < k) (b : Nat) (v : Value) (w : World) (l : List (List UInt8)) (hn : l.length + k ≤ 2000000) (H : RowAt w b v (l.map tx)) : Calls Tryd.prog 20 #[v, .int .i64 k] w fun e w' => e = .returned (.int .i64 ((k : Int) + l.length)) ∧ RowAt w' b v (mks k l.length) ∧ Beside b w w' := by
  obtain ⟨a, c, rfl, h11, h12, h13⟩ := H
  obtain ⟨n, hn2⟩ : ∃ n, l.length = n := ⟨_, rfl⟩
  have hnl : (l.map tx).length = n := by rw [List.length_map, hn2]
  have hmm : ∀ w' : World, (∀ o, a = some ⟨b, o, none⟩ → 0 < n → Marked w' b o k n n) → RowAt w' b (.slice a n c) (mks k n) := by
    intro w' hm
    refine ⟨a, c, by rw [mks_len], by rw [mks_len, ← hnl]; exact h11, h12, ?_⟩
    rcases h13 with h13 | ⟨o, ha, h14, h15⟩
    · refine .inl (List.eq_nil_of_length_eq_zero ?_)
      rw [mks_len, ← hnl, h13]; rfl
    · rcases Nat.eq_zero_or_pos n with hz | hz
      · exact .inl (List.eq_nil_of_length_eq_zero (by rw [mks_len]; exact hz))
      obtain ⟨h1, h2⟩ := hm o ha hz
      refine .inr ⟨o, ha, h1, fun i hi => ?_⟩
      rw [mks_len] at hi
      obtain ⟨s, h3, h4, h5⟩ := h2 i hi
      have h6 := h5 hi
      subst h6
      exact ⟨by rw [h3]; simp [mks], h4⟩
  have hst : ∀ o, a = some ⟨b, o, none⟩ → 0 < n → Marked w b o k n 0 := by
    intro o ha hz
    rcases h13 with h13 | ⟨o', ha', h14, h15⟩
    · exact absurd hnl (by rw [h13]; simp; omega)
    · obtain rfl : o' = o := by rw [ha] at ha'; simpa using ha'.symm
      refine ⟨h14, fun j hj => ?_⟩
      have h16 := h15 j (by rw [hnl]; exact hj)
      rw [List.getElem_map] at h16
      exact ⟨_, h16.1, h16.2, fun h => by omega⟩
  have hex : 0 < n → ∃ o, a = some ⟨b, o, none⟩ := by
    intro hz
    rcases h13 with h13 | ⟨o', ha', h14, h15⟩
    · exact absurd hnl (by rw [h13]; simp; omega)
    · exact ⟨o', ha'⟩
  have HMM := hid hmm
  have HST := hid hst
  have HEX := hid hex
  rw [hn2] at hn ⊢
  rw [hnl] at h11 ⊢
  clear hmm hst hex h13 hnl hn2
  go_enter Tryd.func20, Tryd.ntmps20
  go_wp2
  go_loopw [1, 5] (fun u v wr => ∃ (i : Nat), v = .int .i64 i ∧ u = .int .i64 ((k : Int) + i) ∧ i ≤ n ∧ Hid (Beside b w wr) ∧ Hid (∀ o, a = some ⟨b, o, none⟩ → 0 < n → Marked wr b o k n i)) (fun _ v _ => n - (RowKit.intOf v).toNat)
  case atStart => exact ⟨0, rfl, by simp, by omega, hid (Beside.refl _ _), HST⟩
  case round =>
    obtain ⟨i, rfl, rfl, hi, hb, hm⟩ := hrel
    by_cases hlt : i < n
    · obtain ⟨o, ha⟩ := HEX.out (by omega)
      have hm1 := hm.out o ha (by omega)
      subst ha
      obtain ⟨s, h3, h4, _⟩ := hm1.2 i hlt
      have HM1 := hid hm1
      have HC3 := hid h3
      have HC4 := hid h4
      have hbw := hm1.1
      have HT := hid fun w => markText (k + i) (by omega) (by omega) w
      rw [Int.natCast_add] at HT
      clear hm1 h3 h4 HST HEX hm
      go_wp2_with (go_at_call 41; refine (HT.out _).mono ?_; rintro e w2 ⟨rfl, hb2⟩; have p2 : w2.cell? ⟨b, o + i, none⟩ = some (.string s) := (by rw [hb2.cell (p := ⟨b, o + i, none⟩) hbw]; exact HC3.out); have p3 : w2.frozen? ⟨b, o + i, none⟩ = false := (by rw [hb2.frozen (p := ⟨b, o + i, none⟩) hbw]; exact HC4.out); have HB2 := hid hb2; clear hb2)
      go_roundw
      case rel => exact ⟨i + 1, by go_num, by go_num, by omega, hid ((hb.out.trans (Beside.of_below HB2.out (Nat.le_refl _))).trans (Beside.set b w2 _ _)), hid fun o' ho' _ => by
        obtain rfl : o = o' := by simpa using ho'
        exact HM1.out.step HB2.out hlt⟩
      case measure => simp [RowKit.intOf]; omega
    · have hin : i = n := by omega
      subst hin
      go_wp2
      go_ret
      exact ⟨rfl, HMM.out _ hm.out, hb.out⟩
end Go.Proofs.YtbkfjopoacbdgaaDoor
