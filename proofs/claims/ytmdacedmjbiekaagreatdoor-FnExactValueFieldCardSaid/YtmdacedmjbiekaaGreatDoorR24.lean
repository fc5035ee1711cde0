/- The program's plainNumber, as one equation. -/
import Derived.Test.YtmdacedmjbiekaaGreatDoorR8
namespace Go.Proofs.YtmdacedmjbiekaaGreatDoor
open Go.ChangeShapes Go.WideShapes Go.ChangeAt Go.RowKit Go.Lib
set_option linter.unusedVariables false
/-- a text that is a number -/
structure NumC (l : List UInt8) : Prop where
  ne : l ≠ []
  len : l.length ≤ 6
  all : l.all Wf.isDig = true
  head : l.head? = some 48 → l.length = 1
/-- what plainNumber gives as a number -/
noncomputable def numV (l : List UInt8) : Nat := open Classical in if NumC l then Wf.val l else 0
theorem num_bad (most : Nat) {l : List UInt8} (h : ¬ NumC l) : numV l = 0 ∧ (Wf.plainN l most).isSome = false := by
  refine ⟨by unfold numV; rw [if_neg h], ?_⟩
  unfold Wf.plainN
  rw [if_neg (fun hh => h ⟨hh.1, hh.2.1, hh.2.2.1, hh.2.2.2.1⟩)]
  rfl
theorem num_good (most : Nat) {l : List UInt8} (h : NumC l) : numV l = Wf.val l ∧ (Wf.plainN l most).isSome = decide (Wf.val l ≤ most) := by
  refine ⟨by unfold numV; rw [if_pos h], ?_⟩
  unfold Wf.plainN
  by_cases hv : Wf.val l ≤ most
  · rw [if_pos ⟨h.ne, h.len, h.all, h.head, hv⟩, decide_eq_true hv]; rfl
  · rw [if_neg (fun hh => hv hh.2.2.2.2), decide_eq_false hv]; rfl
theorem num_no {l : List UInt8} {i : Nat} {c : UInt8} (h : l[i]? = some c) (hc : c.toNat < 48 ∨ 57 < c.toNat) : ¬ NumC l := by
  intro hn
  have := List.all_eq_true.1 hn.all c (List.mem_of_getElem? h)
  simp [Wf.isDig] at this
  omega
theorem val_lt10 {l : List UInt8} (h : l.all Wf.isDig = true) : Wf.val l < 10 ^ l.length := by
  induction l using Wf.snoc_ind with
  | h0 => simp [Wf.val]
  | h1 s c ih =>
    rw [List.all_append, Bool.and_eq_true] at h
    have h1 := ih h.1
    rw [Wf.val_snoc, List.length_append, List.length_singleton, Nat.pow_succ]
    have : Wf.isDig c = true := by simpa using h.2
    simp [Wf.isDig] at this
    omega
theorem numV_le (l : List UInt8) : numV l ≤ 999999 := by
  unfold numV
  split
  · rename_i h
    have h1 := val_lt10 h.all
    have h2 : 10 ^ l.length ≤ 10 ^ 6 := Nat.pow_le_pow_right (by decide) h.len
    have h3 : 10 ^ 6 = 1000000 := rfl
    omega
  · omega
theorem numV_some {l : List UInt8} {most n : Nat} (h : Wf.plainN l most = some n) : numV l = n := by
  by_cases hn : NumC l
  · obtain ⟨h1, _⟩ := num_good most hn
    obtain ⟨h3, _, _⟩ := Wf.plainN_some h
    rw [h1, h3, Wf.val_dec]
  · have := (num_bad most hn).2
    rw [h] at this
    cases this
set_option maxRecDepth 20000 in
set_option maxHeartbeats 1000000 in
theorem plainNumberV (s : ByteArray) (most : Nat) (hm : most ≤ 999999) (w : World) : Calls Tryz.prog 165 #[.string s, .int .i64 most] w fun e w' => e = .returned (.tuple #[.int .i64 (numV s.data.toList), .bool (Wf.plainN s.data.toList most).isSome]) ∧ w = w' := by
  have hl := size_list s
  by_cases h1 : s.size < 1
  · have h0 : s.data.toList = [] := List.eq_nil_of_length_eq_zero (by omega)
    have HN := hid (num_bad most (show ¬ NumC s.data.toList from fun h => h.ne h0))
    clear h0 hl
    go_enter Tryz.func165, Tryz.ntmps165
    go_wp2
    go_ret2
    exact ⟨by rw [HN.out.1, HN.out.2]; rfl, rfl⟩
  · by_cases h6 : 6 < s.size
    · have HN := hid (num_bad most (show ¬ NumC s.data.toList from fun h => by have := h.len; omega))
      clear hl
      go_enter Tryz.func165, Tryz.ntmps165
      go_wp2
      go_ret2
      exact ⟨by rw [HN.out.1, HN.out.2]; rfl, rfl⟩
    · obtain ⟨c0, hc0, e0⟩ := byte_at s 0 (by omega)
      by_cases hz : c0.toNat = 48 ∧ 1 < s.size
      · obtain ⟨hz1, hz2⟩ := hz
        have HN := hid (num_bad most (show ¬ NumC s.data.toList from fun h => by
          have := h.head (by rw [List.head?_eq_getElem?, hc0]; exact congrArg some (UInt8.toNat_inj.1 (by rw [hz1]; rfl)))
          omega))
        rw [hz1] at e0
        clear hl hc0 hz1
        go_enter Tryz.func165, Tryz.ntmps165
        go_wp2
        go_ret2
        exact ⟨by rw [HN.out.1, HN.out.2]; rfl, rfl⟩
      · obtain ⟨a, ha⟩ : ∃ a, c0.toNat = a := ⟨_, rfl⟩
        rw [ha] at e0 hz
        have hne : s.data.toList ≠ [] := fun h => by rw [h] at hl; simp at hl; omega
        have h0 : s.data.toList.head? = some 48 → s.data.toList.length = 1 := by
          intro h
          rw [List.head?_eq_getElem?, hc0] at h
          have h48 : a = 48 := by rw [← ha, Option.some.inj h]; rfl
          omega
        have HE := hid fun (h : s.data.toList.all Wf.isDig = true) => num_good most (show NumC s.data.toList from ⟨hne, by omega, h, h0⟩)
        have HL := hid hl
        have hg : (((a : Int) == 48) = true ∧ decide ((1 : Int) < (s.size : Int)) = false) ∨ ((a : Int) == 48) = false := by
          by_cases h48 : a = 48
          · exact .inl ⟨by rw [h48]; rfl, decide_eq_false (by omega)⟩
          · exact .inr (by rw [beq_eq_false_iff_ne]; omega)
        clear hz hc0 ha hl hne h0
        rcases hg with ⟨hg1, hg2⟩ | hg1
        all_goals
          go_enter Tryz.func165, Tryz.ntmps165
          go_wp2
          go_loop [6, 28] (fun n i => ∃ k v : Nat, k ≤ s.size ∧ i = .int .i64 k ∧ n = .int .i64 v ∧ v < 10 ^ k ∧ Hid ((s.data.toList.take k).all Wf.isDig = true ∧ v = Wf.val (s.data.toList.take k))) (fun _ i => s.size - (RowKit.intOf i).toNat)
          case atStart => exact ⟨0, 0, Nat.zero_le _, rfl, rfl, by decide, hid ⟨by simp, by simp [Wf.val]⟩⟩
          case round =>
            obtain ⟨k, v, hk, rfl, rfl, hv, hd⟩ := hrel
            by_cases hlt : k < s.size
            · obtain ⟨c, hc, e1⟩ := byte_at s k hlt
              obtain ⟨b, hb⟩ : ∃ b, c.toNat = b := ⟨_, rfl⟩
              rw [hb] at e1
              have HC := hid hc
              have HB := hid hb
              have hv6 : v < 1000000 := by
                have : 10 ^ k ≤ 10 ^ 5 := Nat.pow_le_pow_right (by decide) (by omega)
                have : 10 ^ 5 = 100000 := rfl
                omega
              have hb256 : b < 256 := by rw [← hb]; exact c.toNat_lt
              clear hc hb
              by_cases hlo : b < 48
              · go_wp2
                go_ret2
                have HX := num_bad most (num_no HC.out (by rw [HB.out]; omega))
                exact ⟨by rw [HX.1, HX.2]; rfl, rfl⟩
              · by_cases hhi : 57 < b
                · go_wp2
                  go_ret2
                  have HX := num_bad most (num_no HC.out (by rw [HB.out]; omega))
                  exact ⟨by rw [HX.1, HX.2]; rfl, rfl⟩
                · have HT := hid (dig_take hd.out.1 HC.out (by rw [HB.out]; omega) (by rw [HB.out]; omega))
                  go_wp2
                  go_round
                  case rel => exact ⟨k + 1, 10 * v + (b - 48), by omega, by go_num, congrArg (Value.int .i64) (by rw [Int.natCast_add, Int.natCast_mul, Int.ofNat_sub (by omega)]; rfl), by rw [Nat.pow_succ]; omega, hid ⟨HT.out.1, by rw [HT.out.2, HB.out, hd.out.2]⟩⟩
                  case measure => simp [RowKit.intOf]; omega
            · have hks : k = s.size := by omega
              subst hks
              have HF := hid (show s.data.toList.all Wf.isDig = true ∧ v = Wf.val s.data.toList by have := hd.out; rwa [List.take_of_length_le (by rw [HL.out]; exact Nat.le_refl _)] at this)
              go_wp2
              go_ret2
              have HX := HE.out HF.out.1
              exact ⟨by rw [HX.1, HX.2, ← HF.out.2]; rfl, rfl⟩
end Go.Proofs.YtmdacedmjbiekaaGreatDoor
