/- The law FnBytesField holds for every input: the Go function returns true and its arguments read as before. No condition. -/
import Derived.Test.YtidjpalnmnehmaaRows
import Derived.Test.YtidjpalnmnehmaaUi
import Derived.Test.YtidjpalnmnehmaaUj
import Derived.WalkKit
import Derived.ProofKit
import Derived.OpenShut
import Derived.ShutString
import Derived.ChangeOld
import Derived.Below
namespace Go.Proofs.Ytidjpalnmnehmaa.fnBytesField
open Go.ChangeShapes Go.WideShapes Go.ChangeAt Go.RowKit
open Go.ChangeMaps (open_string shut_string)
set_option linter.unusedVariables false

theorem own : ownKnob Try.prog.godebug = none := by kernel_rfl
theorem laidOut : laidOutB Try.prog = true := by kernel_rfl

/-- WHAT THE WALK IS TOLD OF A SLICE OF INTEGERS THAT CAME IN: it is nil; or it leads to a row of 'cap' cells, the numbers 'zs' (the first 'len' are its elements, the rest its spare room), each fitting its kind. -/
def IsRow (k : IntKind) (w : World) (a : Option Addr) (len cap : Nat) (zs : List Int) : Prop :=
  (a = none ∧ len = 0 ∧ cap = 0 ∧ zs = []) ∨
  ∃ x, a = some x ∧ len ≤ cap ∧ cap ≤ maxLen ∧ zs.length = cap ∧ (∀ i, i < zs.length → w.cell? (x.add i) = some (.int k (zs.getD i 0))) ∧ ∀ n ∈ zs, (Lit.int k n).wf = true

theorem join_below {w w1 w2 : World} (h : Below w.heap.size w w1) (k : Below w1.heap.size w1 w2) : Below w.heap.size w w2 := h.trans (k.mono h.size)
set_option maxRecDepth 20000 in
set_option maxHeartbeats 4000000 in
theorem walk (a0 : Option Addr) (len0 cap0 : Nat) (z0 : List Int) (w : World) (w0 : IsRow .u8 w a0 len0 cap0 z0) :
    Calls Try.prog 3 #[.slice a0 len0 cap0] w fun e w' => e = .returned (.bool true) ∧ Below w.heap.size w w' := by
  have HB := Lib.hid (bytes_of w0)
  clear w0
  by_cases hbig : 1048576 < len0
  · go_enter Try.func3, Try.ntmps3
    go_wp2
    go_ret
    exact ⟨rfl, Below.refl _ _⟩
  · have hlen : len0 ≤ 1048576 := by omega
    clear hbig
    go_enter Try.func3, Try.ntmps3
    go_wp2_with (first | (go_at_call 7; have _u := B4; refine (HN2.out _).mono ?_; rintro e w5 ⟨rfl, hb5⟩; have B5 := Lib.hid (join_below B4.out hb5); clear hb5) | (go_at_call 7; have _u := B3; refine (HN1.out _).mono ?_; rintro e w4 ⟨rfl, hb4⟩; have B4 := Lib.hid (join_below B3.out hb4); clear hb4) | (go_at_call 6; have _u := B2; refine (HS.out _).mono ?_; rintro e w3 ⟨rfl, hb3⟩; have B3 := Lib.hid (join_below B2.out hb3); clear hb3) | (go_at_call 5; have _u := B1; refine (HI.out _).mono ?_; rintro e w2 ⟨rfl, hb2⟩; have B2 := Lib.hid (join_below B1.out hb2); clear hb2) | (go_at_call 4; refine (drawBytesField _ _ _ _ HB.out).mono ?_; rintro e w1 ⟨S, g, rfl, hS, hg0, hg7, hb1⟩; have B1 := Lib.hid hb1; have hI := fun wz => bytesField_i S g wz; have hS2 := fun wz => bytesField_s S g wz; rcases field_say S g hg0 hg7 (by omega) with ⟨f1, f2⟩ | ⟨X, A, N, M, f1, f2, hX, f3, f4, hA, hN, hM, hp⟩ <;> (rw [f1] at hI; rw [f2] at hS2; have HI := Lib.hid hI; have HS := Lib.hid hS2; (try (have hN1 := fun wz => numPut_impl g wz; have hN2 := fun wz => numPut_impl (X.size : Int) wz; rw [f3] at hN1; rw [f4] at hN2; have HN1 := Lib.hid hN1; have HN2 := Lib.hid hN2; obtain ⟨AN, hAN⟩ : ∃ AN, A ++ N = AN := ⟨_, rfl⟩; have hANs : AN.size ≤ 20 := (by rw [← hAN, ByteArray.size_append]; omega); rw [hAN] at hM; have ka1 := add_str A N AN (by omega) hAN; have ka2 := add_str AN X M (by omega) hM; obtain ⟨p, hp1, hp2⟩ := hp; have HP := Lib.hid hp2; clear hN1 hN2 f3 f4 hAN hM hp2)); clear hI hS2 f1 f2 hb1)))
    · go_ret
      exact ⟨rfl, B3.out⟩
    · go_loopw [15] (fun v wr => ∃ i : Nat, v = .int .i64 i ∧ i ≤ p ∧ Hid (Below w.heap.size w wr)) (fun v _ => p - (RowKit.intOf v).toNat)
      case atStart => exact ⟨0, rfl, Nat.zero_le _, Lib.hid B5.out⟩
      case round =>
        obtain ⟨i, rfl, hi, hh⟩ := hrel
        have d1 : decide ((i : Int) + (M.size : Int) ≤ (S.size : Int)) = true := decide_eq_true (by omega)
        have kw : IntKind.i64.wrap ((i : Int) + (M.size : Int)) = (i : Int) + (M.size : Int) := IntWalk.i64_in _ (by omega)
        have ks := sl_mid S i M.size (by omega) (by omega)
        obtain ⟨E, hE⟩ : ∃ E, S.extract i (i + M.size) = E := ⟨_, rfl⟩
        rw [hE] at ks
        have HE := Lib.hid hE
        clear hE
        cases hq : (E.toList == M.toList)
        · have hne : i < p := by
            rcases Nat.lt_or_ge i p with h | h
            · exact h
            · exfalso
              have hip : i = p := by omega
              have h1 := HE.out
              rw [hip, HP.out] at h1
              rw [h1] at hq
              simp at hq
          go_wp2_with fail
          go_roundw
          case rel => exact ⟨i + 1, by go_num, by omega, hh⟩
          case measure => simp [RowKit.intOf]; omega
        · go_wp2_with fail
          go_ret
          exact ⟨rfl, hh.out⟩

set_option maxRecDepth 100000 in
theorem lifted (os : Os) (started : os.Started) (H : Type) (enc : TypeId × Value → H) :
    ReturnsInHanded {} Try.checked os 3 .any (Rows.fnBytesFieldSpec.pre6 enc Try.prog Try.f3 Rows.fnBytesFieldRow.domain false) (Rows.fnBytesFieldSpec.post enc Try.prog Try.f3 false true false false) := by
  refine returnsInHanded_of_change (C := Try.checked) own started (by kernel_rfl) Try.func3
    (ChangeSpec.witness6 (enc := enc) (C := Try.checked) false ⟨#[], #[.slice none 0 0], []⟩ 8 (by kernel_rfl) (by kernel_rfl) (by kernel_rfl) (by kernel_rfl)) ?_
  intro W base args ds gs before hval0 hW hcnd _
  have hval : ∀ (j : Nat) t v, Try.f3.params[j]? = some t → args[j]? = some v → Value.okWide Try.prog W .any base t v := hval0
  have hW' := hW
  obtain ⟨p, q, hA0, hV, rfl, hfz, hnd⟩ := hW
  have hA : DataW.TrodAll enc Try.prog W 0 (fun _ => true) true Try.f3.params.toList args.toList ds p := hA0
  rw [Try.params3] at hA hval
  obtain ⟨v0, vs0, d0, ds0, p0, q0, hargs, rfl, rfl, h0, r0⟩ := trodAll_cons hA
  obtain ⟨rfl, rfl, rfl⟩ := trodAll_nil r0
  obtain rfl : args = #[v0] := by cases args; simp_all
  obtain ⟨rfl, rfl⟩ := trodVars_none hV
  obtain ⟨a0, len0, cap0, rfl⟩ := okWide_slice Try.underlying22 (hval 0 22 v0 rfl rfl)
  have k0 := h0
  have lt0 : ∀ x ∈ p0, x.block < W.heap.size := by obtain ⟨m, hm⟩ := k0; exact DataW.trod_lt m _ _ _ hm
  obtain ⟨z0, w0⟩ : ∃ zs, IsRow .u8 W a0 len0 cap0 zs := by
    obtain ⟨fuel, hf⟩ := h0
    rcases open_ints Try.underlying22 Try.underlying5 (by kernel_rfl) hf with ⟨hcs, _⟩ | ⟨x, l, c, zs, hcs, _, hl, hm, hz, _, hcell, hwz⟩
    · simp [Value.cells] at hcs
      obtain ⟨rfl, rfl, rfl⟩ := hcs
      exact ⟨[], .inl ⟨rfl, rfl, rfl, rfl⟩⟩
    · simp [Value.cells] at hcs
      obtain ⟨rfl, rfl, rfl⟩ := hcs
      exact ⟨zs, .inr ⟨_, rfl, hl, hm, by simpa using hz, hcell, hwz⟩⟩
  clear hA0 hval0
  refine (walk a0 len0 cap0 z0 W w0).mono fun e W' ⟨he, bel⟩ => ?_
  subst he
  exact ⟨_, rfl, _, _, _, [], _, [], hW', trodAll_mk1 (shut_bool Try.underlying4 _), (trodAll_cons_mk (Below.trod laidOut (by kernel_rfl) (of_decide_eq_true (by kernel_rfl)) k0 bel lt0) trodAll_mk0), rfl, bel.frame _, fun h => by cases h⟩

theorem over : Rows.fnBytesFieldRow.holds Try.pinned (OpenSpec.ofChange Rows.fnBytesFieldSpec) :=
  OpenClaim.holds_of_wide 3 Try.f3 rfl rfl rfl rfl rfl rfl rfl ⟨rfl, rfl, rfl, rfl, rfl⟩ rfl rfl rfl rfl rfl (by kernel_rfl) Try.func3 (by kernel_rfl)
    (of_decide_eq_true (by kernel_rfl)) (by unfold Func.isWrapper; first | (rw [if_pos (by decide +kernel)]; kernel_rfl) | (rw [if_neg (by decide +kernel)]; exact ⟨rfl, rfl⟩))
    (fun os started H enc _ => lifted os started H enc)

theorem proved : Rows.FnBytesFieldSaid := over
end Go.Proofs.Ytidjpalnmnehmaa.fnBytesField
