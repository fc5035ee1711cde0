/- The reference's BytesField. -/
import Derived.Test.YtidjpalnmnehmaaF39
namespace Go.Proofs.Ytidjpalnmnehmaa
open Go.ChangeShapes Go.WideShapes Go.ChangeAt Go.RowKit Go.Lib
set_option linter.unusedVariables false
set_option linter.unusedSimpArgs false
/-- what the reference's BytesField computes -/
def fieldS (s : List UInt8) (want : Int) : Option (List UInt8) := if 1 ≤ want ∧ want ≤ 200 then Wf.fieldF s want else none
/-- how long a text is -/
def fsLen : Value → Nat
  | .string s => s.size
  | _ => 0
theorem fb_two (o : Option (List UInt8)) : ∃ (X : ByteArray) (b : Bool), fbV o = .tuple #[.string X, .bool b] := by
  cases o with
  | none => exact ⟨_, _, rfl⟩
  | some l => exact ⟨_, _, rfl⟩
section
variable (S : ByteArray) (want : Int) (w : World)
set_option maxRecDepth 20000 in
set_option maxHeartbeats 2000000 in
theorem l5field (h : S.size ≤ 600) : Calls Try.prog 14 #[.string S, .int .i64 want] w fun e w' => e = .returned (fbV (Wf.fieldF S.data.toList want)) ∧ Below w.heap.size w w' := by
  obtain ⟨T, hT⟩ : ∃ T, Wf.fieldF S.data.toList want = T := ⟨_, rfl⟩
  have h0 : Wf.fieldW want (S.data.toList.length + 1) 0 S.data.toList = T := by
    rw [← hT]; unfold Wf.fieldF; rw [if_pos (by rw [size_list]; exact h)]
  rw [hT]
  rw [size_list] at h0
  have H0 := hid h0
  have HT0 := hid (show ∀ wz, Calls Try.prog 19 #[.string ⟨#[]⟩] wz fun e w' => e = .returned (.tuple #[.string ⟨#[]⟩, .string ⟨#[]⟩, .bool false]) ∧ Below wz.heap.size wz w' from fun wz => by
    have := l5take ⟨#[]⟩ wz (by decide)
    rw [show (⟨#[]⟩ : ByteArray).data.toList = [] from rfl, Wf.takeN_nil] at this
    exact this)
  clear hT h0
  go_enter Try.func14, Try.ntmps14
  go_wp2_with fail
  go_loopw [0, 6] (fun s0 s6 wr => ∃ (C : ByteArray) (last : Nat), s0 = .string C ∧ s6 = .int .i64 last ∧ C.size ≤ 600 ∧ last ≤ 999999 ∧ Hid (Below w.heap.size w wr ∧ ∃ m, C.size < m ∧ Wf.fieldW want m last C.data.toList = T)) (fun s0 _ _ => fsLen s0)
  case atStart => exact ⟨S, 0, rfl, rfl, h, by omega, hid ⟨Below.refl _ _, _, Nat.lt_succ_self _, H0.out⟩⟩
  case round =>
    obtain ⟨C, last, rfl, rfl, hC, hl6, hh⟩ := hrel
    have HB := hid hh.out.1
    obtain ⟨m, hm, hf⟩ := hh.out.2
    obtain ⟨m', rfl⟩ : ∃ m', m = m' + 1 := ⟨m - 1, by omega⟩
    have HG := hid fun wz => getN_spec C wz (by omega)
    clear hh
    cases hn : Wf.getN C.data.toList with
    | none =>
      rw [Wf.fieldW_none hn] at hf
      have HV := hid hf.symm
      rw [hn] at HG
      have HG2 := hid (show ∀ wz, Calls Try.prog 18 #[.string C] wz fun e w' => e = .returned (.tuple #[.int .i64 0, .string ⟨#[]⟩, .bool false]) ∧ Below wz.heap.size wz w' from HG.out)
      clear hn HG hf hm
      go_wp2_with (first | (go_at_call 19; have _u := B2; refine (HT0.out _).mono ?_; rintro e w3 ⟨rfl, hb3⟩; have B3 := hid (below_join B2.out hb3); clear hb3) | (go_at_call 18; refine (HG2.out _).mono ?_; rintro e w2 ⟨rfl, hb2⟩; have B2 := hid (below_join HB.out hb2); clear hb2))
      all_goals go_ret2
      all_goals exact ⟨by rw [HV.out]; rfl, B3.out⟩
    | some y =>
      obtain ⟨tag, rest⟩ := y
      obtain ⟨htag, hrl, _⟩ := Wf.getN_len hn
      rw [size_list] at hrl
      rw [Wf.fieldW_step hn] at hf
      obtain ⟨R, hR⟩ : ∃ R : ByteArray, (⟨rest.toArray⟩ : ByteArray) = R := ⟨_, rfl⟩
      have hRl : R.data.toList = rest := by rw [← hR]
      have hRs : R.size = rest.length := by rw [← hR]; rfl
      rw [hn] at HG
      have HG2 := hid (show ∀ wz, Calls Try.prog 18 #[.string C] wz fun e w' => e = .returned (.tuple #[.int .i64 tag, .string R, .bool true]) ∧ Below wz.heap.size wz w' by rw [← hR]; exact HG.out)
      have HT := hid fun wz => l5take R wz (by omega)
      rw [hRl] at HT
      cases ht : Wf.takeN rest with
      | none =>
        rw [ht] at hf HT
        have HV := hid hf.symm
        have HT2 := hid (show ∀ wz, Calls Try.prog 19 #[.string R] wz fun e w' => e = .returned (.tuple #[.string ⟨#[]⟩, .string ⟨#[]⟩, .bool false]) ∧ Below wz.heap.size wz w' from HT.out)
        clear hn HG hf hm ht HT hR hRl
        rcases (Bool.eq_false_or_eq_true (decide ((tag : Int) ≤ (last : Int)))) with hq | hq
        all_goals
          go_wp2_with (first | (go_at_call 19; have _u := B2; refine (HT2.out _).mono ?_; rintro e w3 ⟨rfl, hb3⟩; have B3 := hid (below_join B2.out hb3); clear hb3) | (go_at_call 18; refine (HG2.out _).mono ?_; rintro e w2 ⟨rfl, hb2⟩; have B2 := hid (below_join HB.out hb2); clear hb2))
          all_goals go_ret2
          all_goals exact ⟨by rw [HV.out]; rfl, B3.out⟩
      | some z =>
        obtain ⟨p, more⟩ := z
        obtain ⟨X, hX⟩ : ∃ X : ByteArray, (⟨p.toArray⟩ : ByteArray) = X := ⟨_, rfl⟩
        obtain ⟨Y, hY⟩ : ∃ Y : ByteArray, (⟨more.toArray⟩ : ByteArray) = Y := ⟨_, rfl⟩
        have hYl : Y.data.toList = more := by rw [← hY]
        have hYs : Y.size < C.size := by
          have := Wf.takeN_len ht
          rw [← hY]
          show more.length < _
          omega
        rw [ht] at hf HT
        dsimp only at hf
        have HT2 := hid (show ∀ wz, Calls Try.prog 19 #[.string R] wz fun e w' => e = .returned (.tuple #[.string X, .string Y, .bool true]) ∧ Below wz.heap.size wz w' by rw [← hX, ← hY]; exact HT.out)
        clear hn HG ht HT hR hRl
        by_cases h1 : tag ≤ last
        · rw [if_pos h1] at hf
          have HV := hid hf.symm
          clear hf hm
          go_wp2_with (first | (go_at_call 19; have _u := B2; refine (HT2.out _).mono ?_; rintro e w3 ⟨rfl, hb3⟩; have B3 := hid (below_join B2.out hb3); clear hb3) | (go_at_call 18; refine (HG2.out _).mono ?_; rintro e w2 ⟨rfl, hb2⟩; have B2 := hid (below_join HB.out hb2); clear hb2))
          all_goals go_ret2
          all_goals exact ⟨by rw [HV.out]; rfl, B3.out⟩
        · rw [if_neg h1] at hf
          by_cases h2 : (tag : Int) = want
          · rw [if_pos h2] at hf
            subst h2
            have HV := hid (show fbV T = .tuple #[.string X, .bool true] by rw [← hf, ← hX]; rfl)
            clear hf hm hX
            go_wp2_with (first | (go_at_call 19; have _u := B2; refine (HT2.out _).mono ?_; rintro e w3 ⟨rfl, hb3⟩; have B3 := hid (below_join B2.out hb3); clear hb3) | (go_at_call 18; refine (HG2.out _).mono ?_; rintro e w2 ⟨rfl, hb2⟩; have B2 := hid (below_join HB.out hb2); clear hb2))
            all_goals go_ret2
            all_goals exact ⟨by rw [HV.out]; rfl, B3.out⟩
          · rw [if_neg h2] at hf
            have HF := hid (show Y.size < m' ∧ Wf.fieldW want m' tag Y.data.toList = T from ⟨by omega, by rw [hYl]; exact hf⟩)
            clear hf hm hX hY hYl
            go_wp2_with (first | (go_at_call 19; have _u := B2; refine (HT2.out _).mono ?_; rintro e w3 ⟨rfl, hb3⟩; have B3 := hid (below_join B2.out hb3); clear hb3) | (go_at_call 18; refine (HG2.out _).mono ?_; rintro e w2 ⟨rfl, hb2⟩; have B2 := hid (below_join HB.out hb2); clear hb2))
            all_goals go_roundw
            case rel => exact ⟨Y, tag, rfl, rfl, by omega, htag, hid ⟨B3.out, m', HF.out.1, HF.out.2⟩⟩
            case measure => exact hYs
set_option maxRecDepth 20000 in
set_option maxHeartbeats 1000000 in
theorem bytesField_s : Calls Try.prog 6 #[.string S, .int .i64 want] w fun e w' => e = .returned (fbV (fieldS S.data.toList want)) ∧ Below w.heap.size w w' := by
  by_cases h6 : S.size ≤ 600
  · have hd : decide ((600 : Int) < (S.size : Int)) = false := decide_eq_false (by omega)
    by_cases hw : 1 ≤ want ∧ want ≤ 200
    · have HV := hid (show fieldS S.data.toList want = Wf.fieldF S.data.toList want by unfold fieldS; rw [if_pos hw])
      have HI := hid fun wz => l6In_yes want 1 200 wz (by omega) (by omega)
      obtain ⟨X, b, hX⟩ := fb_two (Wf.fieldF S.data.toList want)
      have HF := hid fun wz => l5field S want wz h6
      rw [hX] at HF
      have HX := hid hX
      clear hX hw
      go_enter Try.func6, Try.ntmps6
      go_wp2_with (first | (go_at_call 14; refine (HF.out _).mono ?_; rintro e w2 ⟨rfl, hb2⟩; have B2 := hid hb2; clear hb2) | (go_at_call 13; refine (HI.out _).mono ?_; rintro e w1 ⟨rfl, rfl⟩))
      exact bodyPost_ret (v := .tuple #[.string X, .bool b]) (by simp [results, Try.results6, go_sem, *]) rfl ⟨by rw [HV.out, HX.out], B2.out⟩
    · have HV := hid (show fieldS S.data.toList want = none by unfold fieldS; rw [if_neg hw])
      have HI := hid fun wz => l6In_no want 1 200 wz (by omega)
      clear hw
      go_enter Try.func6, Try.ntmps6
      go_wp2_with (go_at_call 13; refine (HI.out _).mono ?_; rintro e w1 ⟨rfl, rfl⟩)
      exact bodyPost_ret (v := .tuple #[.string ⟨#[]⟩, .bool false]) (by simp [results, Try.results6, go_sem, *]) rfl ⟨by rw [HV.out]; rfl, Below.refl _ _⟩
  · have hd : decide ((600 : Int) < (S.size : Int)) = true := decide_eq_true (by omega)
    have HV := hid (show fieldS S.data.toList want = none by
      unfold fieldS Wf.fieldF
      rw [size_list, if_neg h6]
      split <;> rfl)
    clear h6
    go_enter Try.func6, Try.ntmps6
    go_wp2_with fail
    exact bodyPost_ret (v := .tuple #[.string ⟨#[]⟩, .bool false]) (by simp [results, Try.results6, go_sem, *]) rfl ⟨by rw [HV.out]; rfl, Below.refl _ _⟩
end
end Go.Proofs.Ytidjpalnmnehmaa
