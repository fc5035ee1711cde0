/- The law FnNumPut holds for every input: the Go function returns true and its arguments read as before. No condition. -/
import Derived.Test.YteackbhcjolfiaaRows
import Derived.Test.YteackbhcjolfiaaDraws
import Derived.Test.YteackbhcjolfiaaNumGet
import Derived.Test.YteackbhcjolfiaaBc
import Derived.WalkKit
import Derived.ProofKit
import Derived.OpenShut
import Derived.ShutString
import Derived.ChangeOld
import Derived.Below
namespace Go.Proofs.Yteackbhcjolfiaa.fnNumPut
open Go.ChangeShapes Go.WideShapes Go.ChangeAt Go.RowKit
open Go.ChangeMaps (open_string shut_string)
set_option linter.unusedVariables false

theorem own : ownKnob Try.prog.godebug = none := by kernel_rfl
theorem laidOut : laidOutB Try.prog = true := by kernel_rfl

/-- WHAT THE WALK IS TOLD OF A SLICE OF INTEGERS THAT CAME IN: it is nil; or it leads to a row of 'cap' cells, the numbers 'zs' (the first 'len' are its elements, the rest its spare room), each fitting its kind. -/
def IsRow (k : IntKind) (w : World) (a : Option Addr) (len cap : Nat) (zs : List Int) : Prop :=
  (a = none ∧ len = 0 ∧ cap = 0 ∧ zs = []) ∨
  ∃ x, a = some x ∧ len ≤ cap ∧ cap ≤ maxLen ∧ zs.length = cap ∧ (∀ i, i < zs.length → w.cell? (x.add i) = some (.int k (zs.getD i 0))) ∧ ∀ n ∈ zs, (Lit.int k n).wf = true

theorem put_facts (n : Int) (l : List UInt8) : putV n = .tuple #[.string ⟨#[]⟩, .bool false] ∨ ∃ p : List UInt8, putV n = .tuple #[.string ⟨p.toArray⟩, .bool true] ∧ p.length ≤ 3 ∧
    Go.RowKit.Hid (getNV (Wf.getN (⟨(p ++ l).toArray⟩ : ByteArray).data.toList) = .tuple #[.int .i64 n, .string ⟨l.toArray⟩, .bool true]) ∧ Go.RowKit.Hid (sizeI n = ((⟨p.toArray⟩ : ByteArray).size : Int)) := by
  by_cases h : 0 ≤ n ∧ n ≤ 999999
  · refine .inr ⟨putL n, by rw [putV, putB, decide_eq_true h], putL_len n, Lib.hid (show _ = _ from ?_), Lib.hid (show _ = _ from ?_)⟩
    · have h1 : Wf.getN (⟨(putL n ++ l).toArray⟩ : ByteArray).data.toList = some (n.toNat, l) := by
        rw [putL, if_pos h]
        exact Wf.getN_putN n.toNat (by omega) l
      rw [h1, getNV]
      have h2 : ((n.toNat : Nat) : Int) = n := by omega
      rw [h2]
    · rw [sizeI]; simp [ByteArray.size]
  · exact .inl (by rw [putV, putL, putB, if_neg h, decide_eq_false h])
set_option maxRecDepth 20000 in
theorem walk (a0 : Option Addr) (len0 cap0 : Nat) (z0 : List Int) (a1 : Option Addr) (len1 cap1 : Nat) (z1 : List Int) (w : World) (w0 : IsRow .u8 w a0 len0 cap0 z0) (w1 : IsRow .u8 w a1 len1 cap1 z1) :
    Calls Try.prog 12 #[.slice a0 len0 cap0, .slice a1 len1 cap1] w fun e w' => e = .returned (.bool true) ∧ Below w.heap.size w w' := by
  have HB := Lib.hid (bytes_of w0)
  have HB1 := bytes_of w1
  clear w0 w1
  by_cases hbig : 1048576 < len0
  · go_enter Try.func12, Try.ntmps12
    go_wp2
    go_ret
    exact ⟨rfl, Below.refl _ _⟩
  · have hlen : len0 ≤ 1048576 := by omega
    clear hbig
    by_cases hbig : 1048576 < len1
    · clear HB1
      go_enter Try.func12, Try.ntmps12
      go_wp2
      go_ret
      exact ⟨rfl, Below.refl _ _⟩
    · have hlen1 : len1 ≤ 1048576 := by omega
      clear hbig
      obtain ⟨l, hl, hcv⟩ := bytes_conv HB1
      have HC := Lib.hid hcv
      clear hcv HB1
      have hll : l.length ≤ 1048576 := by omega
      go_enter Try.func12, Try.ntmps12
      go_wp2_with (first | (go_at_call 28; refine (drawNumPut _ _ _ _ HB.out).mono ?_; rintro e w1 ⟨n, rfl, ⟨hn0, hn1⟩, hb0⟩) | (go_at_call 18; refine (numPut_impl n _).mono ?_; rintro e w2 ⟨rfl, hb1⟩; have hbA := Lib.hid (hb0.trans (hb1.mono hb0.size)); rcases put_facts n l with hv | ⟨p, hv, hp3, HG, HS⟩ <;> (have HV := Lib.hid hv; rw [hv]; clear hv)) | (go_at_call 17; refine (numPut_spec n _).mono ?_; rintro e w3 ⟨rfl, hb2⟩; rw [HV.out]; have hbB := Lib.hid (hbA.out.trans (hb2.mono hbA.out.size)); have hc3 := HC.out _ hbB.out; try (have had := fun W => run_add_bytes (P := Try.prog) p l _ (by omega) rfl W)) | (go_at_call 20; refine (numGet_impl _ _ (by simp [ByteArray.size]; omega)).mono ?_; rintro e w4 ⟨rfl, k4, rfl⟩; rw [HG.out]; have hc4 := HC.out _ (below_drewN hbB.out k4)) | (go_at_call 24; refine (size_impl n _).mono ?_; rintro e w5 ⟨rfl, hb3⟩; rw [HS.out]))
      all_goals go_ret
      · exact ⟨rfl, hbB.out⟩
      · exact ⟨rfl, (below_drewN hbB.out k4).trans (hb3.mono (below_drewN hbB.out k4).size)⟩

set_option maxRecDepth 100000 in
theorem lifted (os : Os) (started : os.Started) (H : Type) (enc : TypeId × Value → H) :
    ReturnsInHanded {} Try.checked os 12 .any (Rows.fnNumPutSpec.pre6 enc Try.prog Try.f12 Rows.fnNumPutRow.domain false) (Rows.fnNumPutSpec.post enc Try.prog Try.f12 false true false false) := by
  refine returnsInHanded_of_change (C := Try.checked) own started (by kernel_rfl) Try.func12
    (ChangeSpec.witness6 (enc := enc) (C := Try.checked) false ⟨#[], #[.slice none 0 0, .slice none 0 0], []⟩ 8 (by kernel_rfl) (by kernel_rfl) (by kernel_rfl) (by kernel_rfl)) ?_
  intro W base args ds gs before hval0 hW hcnd _
  have hval : ∀ (j : Nat) t v, Try.f12.params[j]? = some t → args[j]? = some v → Value.okWide Try.prog W .any base t v := hval0
  have hW' := hW
  obtain ⟨p, q, hA0, hV, rfl, hfz, hnd⟩ := hW
  have hA : DataW.TrodAll enc Try.prog W 0 (fun _ => true) true Try.f12.params.toList args.toList ds p := hA0
  rw [Try.params12] at hA hval
  obtain ⟨v0, vs0, d0, ds0, p0, q0, hargs, rfl, rfl, h0, r0⟩ := trodAll_cons hA
  obtain ⟨v1, vs1, d1, ds1, p1, q1, rfl, rfl, rfl, h1, r1⟩ := trodAll_cons r0
  obtain ⟨rfl, rfl, rfl⟩ := trodAll_nil r1
  obtain rfl : args = #[v0, v1] := by cases args; simp_all
  obtain ⟨rfl, rfl⟩ := trodVars_none hV
  obtain ⟨a0, len0, cap0, rfl⟩ := okWide_slice Try.underlying32 (hval 0 32 v0 rfl rfl)
  have k0 := h0
  have lt0 : ∀ x ∈ p0, x.block < W.heap.size := by obtain ⟨m, hm⟩ := k0; exact DataW.trod_lt m _ _ _ hm
  obtain ⟨z0, w0⟩ : ∃ zs, IsRow .u8 W a0 len0 cap0 zs := by
    obtain ⟨fuel, hf⟩ := h0
    rcases open_ints Try.underlying32 Try.underlying5 (by kernel_rfl) hf with ⟨hcs, _⟩ | ⟨x, l, c, zs, hcs, _, hl, hm, hz, _, hcell, hwz⟩
    · simp [Value.cells] at hcs
      obtain ⟨rfl, rfl, rfl⟩ := hcs
      exact ⟨[], .inl ⟨rfl, rfl, rfl, rfl⟩⟩
    · simp [Value.cells] at hcs
      obtain ⟨rfl, rfl, rfl⟩ := hcs
      exact ⟨zs, .inr ⟨_, rfl, hl, hm, by simpa using hz, hcell, hwz⟩⟩
  obtain ⟨a1, len1, cap1, rfl⟩ := okWide_slice Try.underlying32 (hval 1 32 v1 rfl rfl)
  have k1 := h1
  have lt1 : ∀ x ∈ p1, x.block < W.heap.size := by obtain ⟨m, hm⟩ := k1; exact DataW.trod_lt m _ _ _ hm
  obtain ⟨z1, w1⟩ : ∃ zs, IsRow .u8 W a1 len1 cap1 zs := by
    obtain ⟨fuel, hf⟩ := h1
    rcases open_ints Try.underlying32 Try.underlying5 (by kernel_rfl) hf with ⟨hcs, _⟩ | ⟨x, l, c, zs, hcs, _, hl, hm, hz, _, hcell, hwz⟩
    · simp [Value.cells] at hcs
      obtain ⟨rfl, rfl, rfl⟩ := hcs
      exact ⟨[], .inl ⟨rfl, rfl, rfl, rfl⟩⟩
    · simp [Value.cells] at hcs
      obtain ⟨rfl, rfl, rfl⟩ := hcs
      exact ⟨zs, .inr ⟨_, rfl, hl, hm, by simpa using hz, hcell, hwz⟩⟩
  clear hA0 hval0
  refine (walk a0 len0 cap0 z0 a1 len1 cap1 z1 W w0 w1).mono fun e W' ⟨he, bel⟩ => ?_
  subst he
  exact ⟨_, rfl, _, _, _, [], _, [], hW', trodAll_mk1 (shut_bool Try.underlying4 _), (trodAll_cons_mk (Below.trod laidOut (by kernel_rfl) (of_decide_eq_true (by kernel_rfl)) k0 bel lt0) (trodAll_cons_mk (Below.trod laidOut (by kernel_rfl) (of_decide_eq_true (by kernel_rfl)) k1 bel lt1) trodAll_mk0)), rfl, bel.frame _, fun h => by cases h⟩

theorem over : Rows.fnNumPutRow.holds Try.pinned (OpenSpec.ofChange Rows.fnNumPutSpec) :=
  OpenClaim.holds_of_wide 12 Try.f12 rfl rfl rfl rfl rfl rfl rfl ⟨rfl, rfl, rfl, rfl, rfl⟩ rfl rfl rfl rfl rfl (by kernel_rfl) Try.func12 (by kernel_rfl)
    (of_decide_eq_true (by kernel_rfl)) (by unfold Func.isWrapper; first | (rw [if_pos (by decide +kernel)]; kernel_rfl) | (rw [if_neg (by decide +kernel)]; exact ⟨rfl, rfl⟩))
    (fun os started H enc _ => lifted os started H enc)

theorem proved : Rows.FnNumPutSaid := over
end Go.Proofs.Yteackbhcjolfiaa.fnNumPut
