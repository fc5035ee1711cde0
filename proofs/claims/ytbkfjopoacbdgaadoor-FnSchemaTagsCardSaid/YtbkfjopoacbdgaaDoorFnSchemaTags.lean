/- The law FnSchemaTags holds for every input: the Go function returns true and its arguments read as before. No condition but that the listed tables of Go's library hold what the card ties. -/
import Derived.Test.YtbkfjopoacbdgaaDoorQ28
import Derived.Test.YtbkfjopoacbdgaaDoorWit
import Derived.Test.YtbkfjopoacbdgaaDoorCards
import Derived.Test.YtbkfjopoacbdgaaDoorTie
import Derived.WalkKit
import Derived.ProofKit
import Derived.OpenShut
import Derived.ShutString
import Derived.Deep.DeepHandedRow
import Derived.ChangeOld
import Derived.Below
import Derived.SevenTiedAt
namespace Go.Proofs.YtbkfjopoacbdgaaDoor.fnSchemaTags
open Go.ChangeShapes Go.WideShapes Go.ChangeAt Go.RowKit
open Go.ChangeMaps (open_string shut_string)
set_option linter.unusedVariables false

theorem own : ownKnob Tryd.prog.godebug = none := by kernel_rfl
theorem laidOut : laidOutB Tryd.prog = true := by kernel_rfl

/-- WHAT THE WALK IS TOLD OF A SLICE OF INTEGERS THAT CAME IN: it is nil; or it leads to a row of 'cap' cells, the numbers 'zs' (the first 'len' are its elements, the rest its spare room), each fitting its kind. -/
def IsRow (k : IntKind) (w : World) (a : Option Addr) (len cap : Nat) (zs : List Int) : Prop :=
  (a = none ∧ len = 0 ∧ cap = 0 ∧ zs = []) ∨
  ∃ x, a = some x ∧ len ≤ cap ∧ cap ≤ maxLen ∧ zs.length = cap ∧ (∀ i, i < zs.length → w.cell? (x.add i) = some (.int k (zs.getD i 0))) ∧ ∀ n ∈ zs, (Lit.int k n).wf = true

theorem below_call {W w1 w2 : World} (h1 : Below W.heap.size W w1) (h2 : Below w1.heap.size w1 w2) : Below W.heap.size W w2 := h1.trans (h2.mono h1.size)
theorem below_dn {B : Nat} {a w : World} (h : Below B a w) (n : Nat) : Below B a (w.drewN n) := h.trans ⟨rfl, rfl, rfl, Nat.le_refl _, fun _ _ => rfl⟩
theorem ne_of {w1 : World} {xs : List Value} {k0 k1 : Nat} (h : xs = [] ∨ k0 < w1.heap.size) (h2 : w1.heap.size ≤ k1) : xs = [] ∨ k0 ≠ k1 := by
  rcases h with h | h
  · exact .inl h
  · exact .inr (by omega)
theorem below_to {W w1 w2 : World} (h1 : Below W.heap.size W w1) (h2 : Below w1.heap.size w1 w2) : Hid (Below W.heap.size W w2) := Lib.hid (h1.trans (h2.mono h1.size))
theorem walk (a0 : Option Addr) (len0 cap0 : Nat) (z0 : List Int) (w : World) (w0 : IsRow .u8 w a0 len0 cap0 z0) (hsh : w.ShapedOpen Tryd.prog) :
    Calls Tryd.prog 12 #[.slice a0 len0 cap0] w fun e w' => e = .returned (.bool true) ∧ Below w.heap.size w w' := by
  obtain ⟨m, hm⟩ := ml_of w hsh
  have HM := Lib.hid hm
  clear hm hsh
  have HB := Lib.hid (bytes_of w0)
  clear w0
  by_cases hbig : 1048576 < len0
  · go_enter Tryd.func12, Tryd.ntmps12
    go_wp2
    go_ret
    exact ⟨rfl, Below.refl _ _⟩
  have hlen : len0 ≤ 1048576 := by omega
  clear hbig
  go_enter Tryd.func12, Tryd.ntmps12
  go_wp2_with (first | (go_at_call 36; refine (wfInts L (by omega) b0 b1 v0 v1 _ (hR2.out.below' hb3) HR3.out).mono ?_; rintro e wx ⟨rfl, nq, rfl⟩; obtain ⟨a4, c4, rfl, hc4, hm4, h4⟩ := hR2.out; have HR := Lib.hid h4; obtain ⟨n, hn⟩ : ∃ n, (L.map ix).length = n := ⟨_, rfl⟩; have HLN := Lib.hid hn; have hn8 : n ≤ 8 := (by rw [← hn, List.length_map]; exact hl8); rw [hn] at hc4 ⊢; clear hn h4) | (go_at_call 22; have _u := hB2; refine (HS.out _).mono ?_; rintro e w3 ⟨⟨b1, v1, rfl, hk1, r1⟩, hb3⟩; have HR3 := Lib.hid r1; have B3 := below_to hB2.out hb3; clear r1) | (go_at_call 23; refine (HI.out _ (HM.out.below hb1)).mono ?_; rintro e w2 ⟨⟨b0, v0, rfl, hk0, r0⟩, hbx⟩; have hR2 := Lib.hid r0; have hB2 := below_to hb1 hbx; clear hbx r0) | (go_at_call 35; refine (drawSchemaTags _ _ _ _ HB.out).mono ?_; rintro e w1 ⟨s, nm, rfl, hs, hnm, hb1⟩; have hS := fun wz => schemaTags_s s nm wz (by omega); have hI := fun wz hz => schemaTags_i s nm m wz hz (by omega) (by omega); have hSO := fun (g : Int) wz hz => schemaField_i s nm g m wz hz (by omega) (by omega); obtain ⟨B, hB⟩ : ∃ B, (typeIn s.data.toList nm.data.toList).isSome = B := ⟨_, rfl⟩; obtain ⟨L, hL⟩ : ∃ L, tagsL s.data.toList nm.data.toList = L := ⟨_, rfl⟩; have hN := fun i h => tags_memL hL (i := i) h; have hA := fun i h => tags_ascL hL (i := i) h; have hl8 := tags_len s.data.toList nm.data.toList; rw [hB, hL] at hI hS; rw [hL] at hl8; have HN := Lib.hid hN; have HA := Lib.hid hA; have HI := Lib.hid hI; have HS := Lib.hid hS; have HSO := Lib.hid hSO; clear hB hL hN hA hI hS hSO; cases B))
  · go_ret
    exact ⟨rfl, below_dn B3.out _⟩
  · have HR4 := Lib.hid fun (wz : World) (hz : Below w2.heap.size w2 wz) => (show RowAt wz b0 (.slice a4 n c4) (L.map ix) from (by have h := hR2.out.below' hz; rw [HLN.out] at h; exact h))
    have B24 := Lib.hid (below_dn hb3 nq)
    clear hb3
    go_loopw [10] (fun v wr => ∃ (i : Nat), v = .int .i64 i ∧ i ≤ n ∧ Hid (Below w2.heap.size w2 wr)) (fun v _ => n - (RowKit.intOf v).toNat)
    case atStart => exact ⟨0, rfl, by omega, B24⟩
    case round =>
      obtain ⟨i, rfl, hi, hbr⟩ := hrel
      by_cases hlt : i < n
      · have hiL : i < (L.map ix).length := by rw [HLN.out]; exact hlt
        have hiL2 : i < L.length := by rw [List.length_map] at hiL; exact hiL
        obtain ⟨X, hX⟩ : ∃ X, L[i] = X := ⟨_, rfl⟩
        have hN1 := HN.out i hiL2
        rw [hX] at hN1
        obtain ⟨⟨hX1, hX2⟩, t1, t2, t3, hfv⟩ := hN1
        have hSO := HSO.out X
        rw [hfv] at hSO
        have HSO1 := Lib.hid hSO
        have HX := Lib.hid hX
        have HPX := Lib.hid fun (wz : World) (hz : Below w2.heap.size w2 wz) => (show ∃ o, a4 = some ⟨b0, o, none⟩ ∧ ∀ j (hj : j < L.length), wz.cell? ⟨b0, o + j, none⟩ = some (.int .i64 L[j]) from (by
          obtain ⟨a', c', e1, _, _, h0 | ⟨o, h5, h6, h7⟩⟩ := HR4.out wz hz
          · rw [h0] at hiL; simp at hiL
          · simp only [Value.slice.injEq] at e1
            obtain ⟨rfl, _, _⟩ := e1
            exact ⟨o, h5, fun j hj => by
              have := (h7 j (by rw [List.length_map]; exact hj)).1
              rw [List.getElem_map] at this
              exact this⟩))
        obtain ⟨o1, ha4, p0⟩ := HPX.out _ hbr.out
        subst ha4
        have p1 := p0 i hiL2
        rw [hX] at p1
        have HP2 := Lib.hid fun (wz : World) (hz : Below w2.heap.size w2 wz) => (show ∀ j (hj : j < L.length), wz.cell? ⟨b0, o1 + j, none⟩ = some (.int .i64 L[j]) from (by
          obtain ⟨o2, ho2, p2⟩ := HPX.out _ hz
          simp only [Option.some.injEq, Addr.mk.injEq, true_and, and_true] at ho2
          subst ho2
          exact p2))
        have d1 : decide ((X : Int) < 1) = false := decide_eq_false (by omega)
        have d2 : decide ((200 : Int) < (X : Int)) = false := decide_eq_false (by omega)
        have d1n : decide (X < 1) = false := decide_eq_false (by omega)
        have d1z : ¬ X = 0 := by omega
        have d2n : decide (200 < X) = false := decide_eq_false (by omega)
        clear hfv hSO hX HPX p0
        rcases Nat.eq_zero_or_pos i with h0 | h0
        · subst h0
          clear hiL
          rw [Nat.add_zero] at p1
          go_wp2_with (go_at_call 34; refine (HSO1.out _ (HM.out.below (hB2.out.trans (hbr.out.mono hB2.out.size)))).mono ?_; rintro e w5 ⟨rfl, hbx⟩; have hb5 := Lib.hid (hbr.out.trans (hbx.mono hbr.out.size)); have p5 := (HP2.out _ hb5.out) 0 (by have := HLN.out; rw [List.length_map] at this; omega); rw [HX.out, Nat.add_zero] at p5; clear hbx)
          go_quiet (fail)
          go_wp2
          go_roundw
          case rel => exact ⟨1, rfl, by omega, Lib.hid (below_dn hb5.out _)⟩
          case measure => simp [RowKit.intOf]; omega
        · obtain ⟨j, hj⟩ : ∃ j, j + 1 = i := ⟨i - 1, by omega⟩
          have hjL : j < L.length := by omega
          obtain ⟨Y, hY⟩ : ∃ Y, L[j] = Y := ⟨_, rfl⟩
          have hYX : Y < X := by
            subst hj
            have h := HA.out j hiL2
            rw [hY, HX.out] at h
            exact h
          have HY := Lib.hid hY
          have hjn : j < n := by omega
          have d3 : decide ((X : Int) ≤ (Y : Int)) = false := decide_eq_false (by omega)
          have d4 : decide ((0 : Int) < (i : Int)) = true := decide_eq_true (by omega)
          have d3n : decide (X ≤ Y) = false := decide_eq_false (by omega)
          have d4n : decide (0 < i) = true := decide_eq_true (by omega)
          have hj1 : (i : Int) - 1 = (j : Int) := by omega
          clear hY hiL hj
          go_wp2_with (go_at_call 34; refine (HSO1.out _ (HM.out.below (hB2.out.trans (hbr.out.mono hB2.out.size)))).mono ?_; rintro e w5 ⟨rfl, hbx⟩; have hb5 := Lib.hid (hbr.out.trans (hbx.mono hbr.out.size)); have p5 := (HP2.out _ hb5.out) i hiL2; rw [HX.out] at p5; have p6 := (HP2.out _ hb5.out) j hjL; rw [HY.out] at p6; clear hbx)
          go_quiet (fail)
          go_wp2
          go_roundw
          case rel => exact ⟨i + 1, by go_num, by omega, Lib.hid (below_dn hb5.out _)⟩
          case measure => simp [RowKit.intOf]; omega
      · go_wp2
        go_ret
        exact ⟨rfl, hB2.out.trans (hbr.out.mono hB2.out.size)⟩

theorem reads (os : Os) {H : Type} (enc : TypeId × Value → H) : ∃ x, DataW.whole enc Tryd.prog ((laidWorld os).forCall (fun _ _ => 0) ⟨#[], #[.slice none 0 0], []⟩).memory Tryd.f12.params.toList Rows.fnSchemaTagsSpec.vars false (#[.slice none 0 0] : Array Value).toList 8 = some x :=
  Option.isSome_iff_exists.1 (by kernel_rfl)
set_option maxRecDepth 100000 in
theorem lifted (os : Os) (started : os.Started) (H : Type) (enc : TypeId × Value → H) (F : Stop.Interp) :
    ReturnsInHanded {} Tryd.checked os 12 .any ((OpenSpec.ofChange Rows.fnSchemaTagsSpec).preRow enc Tryd.prog Tryd.f12 Rows.fnSchemaTagsRow.domain false Rows.fnSchemaTagsRow.laid) (((OpenSpec.ofChange Rows.fnSchemaTagsSpec).at F).post enc Tryd.prog Tryd.f12 false true false false) := by
  obtain ⟨⟨ds0, gs0, places⟩, hx⟩ := reads os enc
  refine returnsInHanded_of_row (C := Tryd.checked) (s := OpenSpec.ofChange Rows.fnSchemaTagsSpec) own started (by kernel_rfl) Tryd.func12
    (witness_row_at (enc := enc) (C := Tryd.checked) false (laidWorld os) #[.slice none 0 0] rfl (by kernel_rfl) (by kernel_rfl) (by kernel_rfl)
      (OpenSpec.preRow_of_cond 8 hx (by kernel_rfl) (fun k hk => by cases hk) (by kernel_rfl) (laid_met os _))) ?_
  clear hx places ds0 gs0
  intro W base args ds gs before hval0 hW _ _ _ hL hSH _
  have hval : ∀ (j : Nat) t v, Tryd.f12.params[j]? = some t → args[j]? = some v → Value.okWide Tryd.prog W .any base t v := hval0
  have hW' := hW
  obtain ⟨p, q, hA0, hV, rfl, hfz, hnd⟩ := hW
  have hA : DataW.TrodAll enc Tryd.prog W 0 (fun _ => true) true Tryd.f12.params.toList args.toList ds p := hA0
  rw [Tryd.params12] at hA hval
  obtain ⟨v0, vs0, d0, ds0, p0, q0, hargs, rfl, rfl, h0, r0⟩ := trodAll_cons hA
  obtain ⟨rfl, rfl, rfl⟩ := trodAll_nil r0
  obtain rfl : args = #[v0] := by cases args; simp_all
  obtain ⟨rfl, rfl⟩ := trodVars_none hV
  obtain ⟨a0, len0, cap0, rfl⟩ := okWide_slice Tryd.underlying36 (hval 0 36 v0 rfl rfl)
  have k0 := h0
  have lt0 : ∀ x ∈ p0, x.block < W.heap.size := by obtain ⟨m, hm⟩ := k0; exact DataW.trod_lt m _ _ _ hm
  obtain ⟨z0, w0⟩ : ∃ zs, IsRow .u8 W a0 len0 cap0 zs := by
    obtain ⟨fuel, hf⟩ := h0
    rcases open_ints Tryd.underlying36 Tryd.underlying5 (by kernel_rfl) hf with ⟨hcs, _⟩ | ⟨x, l, c, zs, hcs, _, hl, hm, hz, _, hcell, hwz⟩
    · simp [Value.cells] at hcs
      obtain ⟨rfl, rfl, rfl⟩ := hcs
      exact ⟨[], .inl ⟨rfl, rfl, rfl, rfl⟩⟩
    · simp [Value.cells] at hcs
      obtain ⟨rfl, rfl, rfl⟩ := hcs
      exact ⟨zs, .inr ⟨_, rfl, hl, hm, by simpa using hz, hcell, hwz⟩⟩
  clear hA0 hval0
  refine (walk a0 len0 cap0 z0 W w0 hSH).mono fun e W' ⟨he, bel⟩ => ?_
  subst he
  exact ⟨_, rfl, _, _, _, [], _, [], hW', trodAll_mk1 (shut_bool Tryd.underlying4 _), (trodAll_cons_mk (Below.trod laidOut (by kernel_rfl) (of_decide_eq_true (by kernel_rfl)) k0 bel lt0) trodAll_mk0), rfl, bel.frame _, fun h => by cases h⟩

theorem said : Rows.FnSchemaTagsSaid :=
  OpenClaim.holds_of_cond 12 Tryd.f12 rfl rfl rfl rfl rfl rfl rfl ⟨rfl, rfl, rfl, rfl, rfl⟩ rfl rfl rfl rfl rfl (by kernel_rfl) Tryd.func12 (by kernel_rfl)
    (of_decide_eq_true (by kernel_rfl)) (by unfold Func.isWrapper; first | (rw [if_pos (by decide +kernel)]; kernel_rfl) | (rw [if_neg (by decide +kernel)]; exact ⟨rfl, rfl⟩))
    (fun os started H enc _ F => by rw [OpenClaim.pre_eq_preRow]; exact lifted os started H enc F)
theorem plain (f : FuncId) (fn : Func) (hf : Tryd.pinned.checked.prog.funcNamed "loop.example/wireforms/laws.FnSchemaTags" = some f) (hfn : Tryd.pinned.checked.prog.funcs[f]? = some fn) :
    false = Tryd.pinned.checked.prog.looks [] ∧ ∀ (j : Nat) t, fn.params[j]? = some t → Tryd.pinned.checked.prog.wantsStandIn t = false := by
  obtain rfl : f = 12 := Option.some.inj ((show Tryd.prog.funcNamed "loop.example/wireforms/laws.FnSchemaTags" = some 12 by kernel_rfl).symm.trans hf) |>.symm
  obtain rfl : fn = Tryd.f12 := (Option.some.inj (Tryd.func12.symm.trans hfn)).symm
  refine ⟨looks0, fun j t ht => ?_⟩
  rw [Tryd.params12] at ht
  have hm := Array.mem_of_getElem? ht
  simp only [List.mem_toArray, List.mem_cons, List.not_mem_nil, or_false] at hm
  obtain rfl := hm
  exact (show Tryd.prog.wantsStandIn 36 = false by kernel_rfl)
theorem proved : Rows.FnSchemaTagsCardSaid :=
  Claim7.holds_tied_plain_at .later [] _ _ _ _ said (fun _ h => by cases h) (by kernel_rfl) (fun _ h => by cases h) fnSchemaTags_row_tie rfl ⟨rfl, rfl⟩ (by kernel_rfl) rfl plain (by kernel_rfl)
end Go.Proofs.YtbkfjopoacbdgaaDoor.fnSchemaTags
