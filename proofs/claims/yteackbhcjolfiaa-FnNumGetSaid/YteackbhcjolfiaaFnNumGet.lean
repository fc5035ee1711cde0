/- The law FnNumGet holds for every input: the Go function returns true and its arguments read as before. No condition. -/
import Derived.Test.YteackbhcjolfiaaRows
import Derived.Test.YteackbhcjolfiaaDrawGet
import Derived.Test.YteackbhcjolfiaaNumGet
import Derived.WalkKit
import Derived.ProofKit
import Derived.OpenShut
import Derived.ShutString
import Derived.ChangeOld
import Derived.Below
namespace Go.Proofs.Yteackbhcjolfiaa.fnNumGet
open Go.ChangeShapes Go.WideShapes Go.ChangeAt Go.RowKit
open Go.ChangeMaps (open_string shut_string)
set_option linter.unusedVariables false

theorem own : ownKnob Try.prog.godebug = none := by kernel_rfl
theorem laidOut : laidOutB Try.prog = true := by kernel_rfl

/-- WHAT THE WALK IS TOLD OF A SLICE OF INTEGERS THAT CAME IN: it is nil; or it leads to a row of 'cap' cells, the numbers 'zs' (the first 'len' are its elements, the rest its spare room), each fitting its kind. -/
def IsRow (k : IntKind) (w : World) (a : Option Addr) (len cap : Nat) (zs : List Int) : Prop :=
  (a = none ∧ len = 0 ∧ cap = 0 ∧ zs = []) ∨
  ∃ x, a = some x ∧ len ≤ cap ∧ cap ≤ maxLen ∧ zs.length = cap ∧ (∀ i, i < zs.length → w.cell? (x.add i) = some (.int k (zs.getD i 0))) ∧ ∀ n ∈ zs, (Lit.int k n).wf = true

theorem get_facts (s : ByteArray) (hs : s.size ≤ 4) : getNV (Wf.getN s.data.toList) = .tuple #[.int .i64 0, .string ⟨#[]⟩, .bool false] ∨ ∃ (m : Int) (p r : List UInt8), getNV (Wf.getN s.data.toList) = .tuple #[.int .i64 m, .string ⟨r.toArray⟩, .bool true] ∧
    Go.RowKit.Hid (putV m = .tuple #[.string ⟨p.toArray⟩, .bool true]) ∧ Go.RowKit.Hid (∀ W : World, (Op.stringOp .add ⟨p.toArray⟩ ⟨r.toArray⟩).run Try.prog W = .ok (.string s) W) := by
  obtain ⟨o, ho⟩ : ∃ o, Wf.getN s.data.toList = o := ⟨_, rfl⟩
  cases o with
  | none => exact .inl (by rw [ho, getNV])
  | some x =>
    obtain ⟨m, r⟩ := x
    obtain ⟨h1, h2⟩ := Wf.getN_inv ho
    refine .inr ⟨(m : Int), Wf.putN m, r, by rw [ho, getNV], Lib.hid (show _ = _ from ?_), Lib.hid (show ∀ W : World, _ from fun W => ?_)⟩
    · have h3 : 0 ≤ (m : Int) ∧ (m : Int) ≤ 999999 := by omega
      rw [putV, putL, putB, if_pos h3, decide_eq_true h3, Int.toNat_natCast]
    · have hz : s = ⟨(Wf.putN m ++ r).toArray⟩ := by
        rw [← h2]
      have hl : (Wf.putN m).length + r.length ≤ 4 := by
        have h4 : s.size = (Wf.putN m ++ r).length := by rw [hz]; simp [ByteArray.size]
        rw [List.length_append] at h4
        omega
      rw [run_add_bytes (P := Try.prog) (Wf.putN m) r _ (by omega) rfl W, hz]
set_option maxRecDepth 20000 in
theorem walk (a0 : Option Addr) (len0 cap0 : Nat) (z0 : List Int) (w : World) (w0 : IsRow .u8 w a0 len0 cap0 z0) :
    Calls Try.prog 13 #[.slice a0 len0 cap0] w fun e w' => e = .returned (.bool true) ∧ Below w.heap.size w w' := by
  have HB := Lib.hid (bytes_of w0)
  clear w0
  by_cases hbig : 1048576 < len0
  · go_enter Try.func13, Try.ntmps13
    go_wp2
    go_ret
    exact ⟨rfl, Below.refl _ _⟩
  · have hlen : len0 ≤ 1048576 := by omega
    clear hbig
    go_enter Try.func13, Try.ntmps13
    go_wp2_with (first | (go_at_call 29; refine (drawNumGet _ _ _ _ HB.out).mono ?_; rintro e w1 ⟨s, rfl, hs4, hb0⟩; have GF := Lib.hid (get_facts s hs4)) | (go_at_call 20; refine (numGet_impl s _ (by omega)).mono ?_; rintro e w2 ⟨rfl, k2, rfl⟩; rcases GF.out with hv | ⟨m, p, r, hv, HP, HA⟩ <;> (have HV := Lib.hid hv; rw [hv]; clear hv)) | (go_at_call 19; refine (numGet_spec s _ (by omega)).mono ?_; rintro e w3 ⟨rfl, k3, rfl⟩; rw [HV.out]) | (go_at_call 18; refine (numPut_impl m _).mono ?_; rintro e w4 ⟨rfl, hb1⟩; rw [HP.out]; have hadd := HA.out))
    all_goals go_ret
    · exact ⟨rfl, below_drewN hb0 (k2 + k3)⟩
    · exact ⟨rfl, (below_drewN hb0 (k2 + k3)).trans (hb1.mono (below_drewN hb0 (k2 + k3)).size)⟩

set_option maxRecDepth 100000 in
theorem lifted (os : Os) (started : os.Started) (H : Type) (enc : TypeId × Value → H) :
    ReturnsInHanded {} Try.checked os 13 .any (Rows.fnNumGetSpec.pre6 enc Try.prog Try.f13 Rows.fnNumGetRow.domain false) (Rows.fnNumGetSpec.post enc Try.prog Try.f13 false true false false) := by
  refine returnsInHanded_of_change (C := Try.checked) own started (by kernel_rfl) Try.func13
    (ChangeSpec.witness6 (enc := enc) (C := Try.checked) false ⟨#[], #[.slice none 0 0], []⟩ 8 (by kernel_rfl) (by kernel_rfl) (by kernel_rfl) (by kernel_rfl)) ?_
  intro W base args ds gs before hval0 hW hcnd _
  have hval : ∀ (j : Nat) t v, Try.f13.params[j]? = some t → args[j]? = some v → Value.okWide Try.prog W .any base t v := hval0
  have hW' := hW
  obtain ⟨p, q, hA0, hV, rfl, hfz, hnd⟩ := hW
  have hA : DataW.TrodAll enc Try.prog W 0 (fun _ => true) true Try.f13.params.toList args.toList ds p := hA0
  rw [Try.params13] at hA hval
  obtain ⟨v0, vs0, d0, ds0, p0, q0, hargs, rfl, rfl, h0, r0⟩ := trodAll_cons hA
  obtain ⟨rfl, rfl, rfl⟩ := trodAll_nil r0
  obtain rfl : args = #[v0] := by cases args; simp_all
  obtain ⟨rfl, rfl⟩ := trodVars_none hV
  obtain ⟨a0, len0, cap0, rfl⟩ := okWide_slice Try.underlying32 (hval 0 32 v0 rfl rfl)
  have k0 := h0
  have lt0 : ∀ x ∈ p0, x.block < W.heap.size := by obtain ⟨m, hm⟩ := k0; exact DataW.trod_lt m _ _ _ hm
  obtain ⟨z0, w0⟩ : ∃ zs, IsRow .u8 W a0 len0 cap0 zs := by
    obtain ⟨fuel, hf⟩ := h0
    rcases open_ints Try.underlying32 Try.underlying5 (by kernel_rfl) hf with ⟨hcs, _⟩ | ⟨x, l, c, zs, hcs, _, hl, hm, hz, _, hcell, hwz⟩
    · simp [Value.cells] at hcs
      obtain ⟨rfl, rfl, rfl⟩ := hcs
      exact ⟨[], .inl ⟨rfl, rfl, rfl, rfl⟩⟩
    · simp [Value.cells] at hcs
      obtain ⟨rfl, rfl, rfl⟩ := hcs
      exact ⟨zs, .inr ⟨_, rfl, hl, hm, by simpa using hz, hcell, hwz⟩⟩
  clear hA0 hval0
  refine (walk a0 len0 cap0 z0 W w0).mono fun e W' ⟨he, bel⟩ => ?_
  subst he
  exact ⟨_, rfl, _, _, _, [], _, [], hW', trodAll_mk1 (shut_bool Try.underlying4 _), (trodAll_cons_mk (Below.trod laidOut (by kernel_rfl) (of_decide_eq_true (by kernel_rfl)) k0 bel lt0) trodAll_mk0), rfl, bel.frame _, fun h => by cases h⟩

theorem over : Rows.fnNumGetRow.holds Try.pinned (OpenSpec.ofChange Rows.fnNumGetSpec) :=
  OpenClaim.holds_of_wide 13 Try.f13 rfl rfl rfl rfl rfl rfl rfl ⟨rfl, rfl, rfl, rfl, rfl⟩ rfl rfl rfl rfl rfl (by kernel_rfl) Try.func13 (by kernel_rfl)
    (of_decide_eq_true (by kernel_rfl)) (by unfold Func.isWrapper; first | (rw [if_pos (by decide +kernel)]; kernel_rfl) | (rw [if_neg (by decide +kernel)]; exact ⟨rfl, rfl⟩))
    (fun os started H enc _ => lifted os started H enc)

theorem proved : Rows.FnNumGetSaid := over
end Go.Proofs.Yteackbhcjolfiaa.fnNumGet
