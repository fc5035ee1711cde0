/- The law FnOpenNum holds for every input: the Go function returns true and its arguments read as before. No condition. -/
import Derived.Test.YteackbhcjolfiaaRows
import Derived.Test.YteackbhcjolfiaaDraws
import Derived.Test.YteackbhcjolfiaaNumFold
import Derived.WalkKit
import Derived.ProofKit
import Derived.OpenShut
import Derived.ShutString
import Derived.ChangeOld
import Derived.Below
namespace Go.Proofs.Yteackbhcjolfiaa.fnOpenNum
open Go.ChangeShapes Go.WideShapes Go.ChangeAt Go.RowKit
open Go.ChangeMaps (open_string shut_string)
set_option linter.unusedVariables false

theorem own : ownKnob Try.prog.godebug = none := by kernel_rfl
theorem laidOut : laidOutB Try.prog = true := by kernel_rfl

/-- WHAT THE WALK IS TOLD OF A SLICE OF INTEGERS THAT CAME IN: it is nil; or it leads to a row of 'cap' cells, the numbers 'zs' (the first 'len' are its elements, the rest its spare room), each fitting its kind. -/
def IsRow (k : IntKind) (w : World) (a : Option Addr) (len cap : Nat) (zs : List Int) : Prop :=
  (a = none ∧ len = 0 ∧ cap = 0 ∧ zs = []) ∨
  ∃ x, a = some x ∧ len ≤ cap ∧ cap ≤ maxLen ∧ zs.length = cap ∧ (∀ i, i < zs.length → w.cell? (x.add i) = some (.int k (zs.getD i 0))) ∧ ∀ n ∈ zs, (Lit.int k n).wf = true

theorem open_cases (n : Int) : openV n = .tuple #[.int .i64 0, .bool false] ∨ ∃ m, openV n = .tuple #[.int .i64 m, .bool true] ∧ -499999 ≤ m ∧ m ≤ 499999 ∧ Go.RowKit.Hid (foldV m = .tuple #[.int .i64 n, .bool true]) := by
  by_cases h : 0 ≤ n ∧ n ≤ 999998
  · refine .inr ⟨openI n, by rw [openV, openB, decide_eq_true h], ?_⟩
    have hf : openI n = if n % 2 = 0 then n / 2 else -((n + 1) / 2) := by rw [openI, if_pos h]
    have h1 : -499999 ≤ openI n ∧ openI n ≤ 499999 := by rw [hf]; split <;> omega
    refine ⟨h1.1, h1.2, Lib.hid (p := _) (show _ = _ from ?_)⟩
    refine foldI_eq h1 ?_
    rw [hf]
    by_cases h0 : n % 2 = 0
    · rw [if_pos h0, if_neg (by omega)]; omega
    · rw [if_neg h0, if_pos (by omega)]; omega
  · exact .inl (by rw [openV, openI, if_neg h, openB, decide_eq_false h])
set_option maxRecDepth 20000 in
theorem walk (a0 : Option Addr) (len0 cap0 : Nat) (z0 : List Int) (w : World) (w0 : IsRow .u8 w a0 len0 cap0 z0) :
    Calls Try.prog 11 #[.slice a0 len0 cap0] w fun e w' => e = .returned (.bool true) ∧ Below w.heap.size w w' := by
  have HB := Lib.hid (bytes_of w0)
  clear w0
  by_cases hbig : 1048576 < len0
  · go_enter Try.func11, Try.ntmps11
    go_wp2
    go_ret
    exact ⟨rfl, Below.refl _ _⟩
  · have hlen : len0 ≤ 1048576 := by omega
    clear hbig
    go_enter Try.func11, Try.ntmps11
    go_wp2_with (first | (go_at_call 27; refine (drawOpenNum _ _ _ _ HB.out).mono ?_; rintro e w1 ⟨n, rfl, ⟨hn0, hn1⟩, hb0⟩) | (go_at_call 22; refine (open_impl n _ (by omega) (by omega)).mono ?_; rintro e w2 ⟨rfl, rfl⟩; rcases open_cases n with hv | ⟨m, hv, hm0, hm1, hm⟩ <;> (have hv' := Lib.hid hv; rw [hv]; clear hv)) | (go_at_call 21; refine (open_spec n _ (by omega) (by omega)).mono ?_; rintro e w3 ⟨rfl, rfl⟩; rw [hv'.out]) | (go_at_call 16; refine (fold_impl m _ (by omega) (by omega)).mono ?_; rintro e w4 ⟨rfl, rfl⟩; rw [hm.out]))
    all_goals go_ret
    all_goals exact ⟨rfl, hb0⟩

set_option maxRecDepth 100000 in
theorem lifted (os : Os) (started : os.Started) (H : Type) (enc : TypeId × Value → H) :
    ReturnsInHanded {} Try.checked os 11 .any (Rows.fnOpenNumSpec.pre6 enc Try.prog Try.f11 Rows.fnOpenNumRow.domain false) (Rows.fnOpenNumSpec.post enc Try.prog Try.f11 false true false false) := by
  refine returnsInHanded_of_change (C := Try.checked) own started (by kernel_rfl) Try.func11
    (ChangeSpec.witness6 (enc := enc) (C := Try.checked) false ⟨#[], #[.slice none 0 0], []⟩ 8 (by kernel_rfl) (by kernel_rfl) (by kernel_rfl) (by kernel_rfl)) ?_
  intro W base args ds gs before hval0 hW hcnd _
  have hval : ∀ (j : Nat) t v, Try.f11.params[j]? = some t → args[j]? = some v → Value.okWide Try.prog W .any base t v := hval0
  have hW' := hW
  obtain ⟨p, q, hA0, hV, rfl, hfz, hnd⟩ := hW
  have hA : DataW.TrodAll enc Try.prog W 0 (fun _ => true) true Try.f11.params.toList args.toList ds p := hA0
  rw [Try.params11] at hA hval
  obtain ⟨v0, vs0, d0, ds0, p0, q0, hargs, rfl, rfl, h0, r0⟩ := trodAll_cons hA
  obtain ⟨rfl, rfl, rfl⟩ := trodAll_nil r0
  obtain rfl : args = #[v0] := by cases args; simp_all
  obtain ⟨rfl, rfl⟩ := trodVars_none hV
  obtain ⟨a0, len0, cap0, rfl⟩ := okWide_slice Try.underlying32 (hval 0 32 v0 rfl rfl)
  have k0 := h0
  have lt0 : ∀ x ∈ p0, x.block < W.heap.size := by obtain ⟨m, hm⟩ := k0; exact DataW.trod_lt m _ _ _ hm
  obtain ⟨z0, w0⟩ : ∃ zs, IsRow .u8 W a0 len0 cap0 zs := by
    obtain ⟨fuel, hf⟩ := h0
    rcases open_ints Try.underlying32 Try.underlying5 (by kernel_rfl) hf with ⟨hcs, _⟩ | ⟨x, l, c, zs, hcs, _, hl, hm, hz, _, hcell, hwz⟩
    · simp [Value.cells] at hcs
      obtain ⟨rfl, rfl, rfl⟩ := hcs
      exact ⟨[], .inl ⟨rfl, rfl, rfl, rfl⟩⟩
    · simp [Value.cells] at hcs
      obtain ⟨rfl, rfl, rfl⟩ := hcs
      exact ⟨zs, .inr ⟨_, rfl, hl, hm, by simpa using hz, hcell, hwz⟩⟩
  clear hA0 hval0
  refine (walk a0 len0 cap0 z0 W w0).mono fun e W' ⟨he, bel⟩ => ?_
  subst he
  exact ⟨_, rfl, _, _, _, [], _, [], hW', trodAll_mk1 (shut_bool Try.underlying4 _), (trodAll_cons_mk (Below.trod laidOut (by kernel_rfl) (of_decide_eq_true (by kernel_rfl)) k0 bel lt0) trodAll_mk0), rfl, bel.frame _, fun h => by cases h⟩

theorem over : Rows.fnOpenNumRow.holds Try.pinned (OpenSpec.ofChange Rows.fnOpenNumSpec) :=
  OpenClaim.holds_of_wide 11 Try.f11 rfl rfl rfl rfl rfl rfl rfl ⟨rfl, rfl, rfl, rfl, rfl⟩ rfl rfl rfl rfl rfl (by kernel_rfl) Try.func11 (by kernel_rfl)
    (of_decide_eq_true (by kernel_rfl)) (by unfold Func.isWrapper; first | (rw [if_pos (by decide +kernel)]; kernel_rfl) | (rw [if_neg (by decide +kernel)]; exact ⟨rfl, rfl⟩))
    (fun os started H enc _ => lifted os started H enc)

theorem proved : Rows.FnOpenNumSaid := over
end Go.Proofs.Yteackbhcjolfiaa.fnOpenNum
