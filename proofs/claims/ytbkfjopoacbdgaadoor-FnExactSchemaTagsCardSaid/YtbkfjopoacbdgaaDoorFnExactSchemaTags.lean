/- The law FnExactSchemaTags holds for every input: the Go function returns true and its arguments read as before. No condition but that the listed tables of Go's library hold what the card ties. -/
import Derived.Test.YtbkfjopoacbdgaaDoorQ26
import Derived.Test.YtbkfjopoacbdgaaDoorWit
import Derived.Test.YtbkfjopoacbdgaaDoorCards
import Derived.Test.YtbkfjopoacbdgaaDoorTie
import Derived.WalkKit
import Derived.ProofKit
import Derived.OpenShut
import Derived.ShutString
import Derived.Deep.DeepHandedRow
import Derived.ChangeOld
import Derived.Below
import Derived.SevenTiedAt
namespace Go.Proofs.YtbkfjopoacbdgaaDoor.fnExactSchemaTags
open Go.ChangeShapes Go.WideShapes Go.ChangeAt Go.RowKit
open Go.ChangeMaps (open_string shut_string)
set_option linter.unusedVariables false

theorem own : ownKnob Tryd.prog.godebug = none := by kernel_rfl

theorem below_call {W w1 w2 : World} (h1 : Below W.heap.size W w1) (h2 : Below w1.heap.size w1 w2) : Below W.heap.size W w2 := h1.trans (h2.mono h1.size)
theorem below_dn {B : Nat} {a w : World} (h : Below B a w) (n : Nat) : Below B a (w.drewN n) := h.trans ⟨rfl, rfl, rfl, Nat.le_refl _, fun _ _ => rfl⟩
theorem ne_of {w1 : World} {xs : List Value} {k0 k1 : Nat} (h : xs = [] ∨ k0 < w1.heap.size) (h2 : w1.heap.size ≤ k1) : xs = [] ∨ k0 ≠ k1 := by
  rcases h with h | h
  · exact .inl h
  · exact .inr (by omega)
theorem walk (a0 : ByteArray) (a1 : ByteArray) (w0 : a0.size ≤ maxLen) (w1 : a1.size ≤ maxLen) (w : World) (hsh : w.ShapedOpen Tryd.prog) :
    Calls Tryd.prog 6 #[.string a0, .string a1] w fun e w' => e = .returned (.bool true) ∧ Below w.heap.size w w' := by
  by_cases hbig : 1048576 < a0.size
  · go_enter Tryd.func6, Tryd.ntmps6
    go_wp2
    go_ret
    exact ⟨rfl, Below.refl _ _⟩
  have hlen : a0.size ≤ 1048576 := by omega
  clear hbig
  by_cases hbig1 : 1048576 < a1.size
  · go_enter Tryd.func6, Tryd.ntmps6
    go_wp2
    go_ret
    exact ⟨rfl, Below.refl _ _⟩
  have hlen1 : a1.size ≤ 1048576 := by omega
  clear hbig1
  obtain ⟨m0, hm0⟩ := ml_of w hsh
  have HML := Lib.hid hm0
  clear hm0 hsh
  obtain ⟨B, hB⟩ : ∃ B, (typeIn a0.data.toList a1.data.toList).isSome = B := ⟨_, rfl⟩
  have hS := fun wz => schemaTags_s a0 a1 wz (by omega)
  have hI := fun wz hz => schemaTags_i a0 a1 m0 wz hz (by omega) (by omega)
  have hL := tags_len a0.data.toList a1.data.toList
  obtain ⟨L, hLL⟩ : ∃ L, tagsL a0.data.toList a1.data.toList = L := ⟨_, rfl⟩
  rw [hB, hLL] at hS hI
  rw [hLL] at hL
  have HS := Lib.hid hS
  have HI := Lib.hid hI
  clear hB hS hI hLL
  obtain ⟨m, hm⟩ : ∃ m : Int, m = 1 + (L.length : Int) := ⟨_, rfl⟩
  have hm0 : 1 ≤ m := by omega
  have HM := Lib.hid hm
  clear hm
  go_enter Tryd.func6, Tryd.ntmps6
  go_wp2_with (first | (go_at_call 26; have _u := n2; refine (held1I m k1 v1 _ _ (by omega) HM.out (((hR3.out.below' hB4.out).below' hB5.out).drewN n2)).mono ?_; rintro e w6 ⟨rfl, hb6⟩; have hB6 := Lib.hid hb6; clear hb6) | (go_at_call 24; have _u := hB5; refine (eqInts _ (by omega) k2 k0 v2 v0 _ hR5.out (((((hR0.out.below' hB2.out).drewN n1).beside' hM3.out hne.out).below' hB4.out).below' hB5.out)).mono ?_; rintro e wx ⟨rfl, n2, rfl⟩) | (go_at_call 23; have _u := hB4; refine (HI.out _ (((((HML.out.below hB0.out).below hB2.out).drewN n1).beside hM3.out hne0.out).below hB4.out)).mono ?_; rintro e w5 ⟨⟨k2, v2, rfl, hk2, r5⟩, b5⟩; have hR5 := Lib.hid r5; have hB5 := Lib.hid b5; clear r5 b5) | (go_at_call 26; refine (held1I m k1 v1 _ _ (by omega) HM.out hR3.out).mono ?_; rintro e w4 ⟨rfl, b4⟩; have hB4 := Lib.hid b4; clear b4) | (go_at_call 25; refine (marked1I m k1 v1 _ _ (by omega) HM.out (hR2.out.drewN n1)).mono ?_; rintro e w3 ⟨rfl, r3, b3⟩; have hR3 := Lib.hid r3; have hM3 := Lib.hid b3; clear r3 b3) | (go_at_call 24; refine (eqInts _ (by omega) k1 k0 v1 v0 _ hR2.out (hR0.out.below' hB2.out)).mono ?_; rintro e wx ⟨rfl, n1, rfl⟩) | (go_at_call 23; refine (HI.out _ (HML.out.below hB0.out)).mono ?_; rintro e w2 ⟨⟨k1, v1, rfl, hk1, r2⟩, b2⟩; have hne := Lib.hid (ne_of hR0.out.lt hk1); have hne0 := Lib.hid ((HML.out.below hB0.out).ne hk1); have hR2 := Lib.hid r2; have hB2 := Lib.hid b2; clear r2 b2) | (go_at_call 22; refine (HS.out _).mono ?_; rintro e w1 ⟨⟨k0, v0, rfl, hk0, r0⟩, b0⟩; have hR0 := Lib.hid r0; have hB0 := Lib.hid b0; clear r0 b0))
  go_ret
  have b2 := below_call hB0.out hB2.out
  have b3 := below_dn b2 n1
  have b4 := Beside.below b3 b3.size (Nat.le_trans hB0.out.size hk1) hM3.out
  have b5 := below_call (below_call b4 hB4.out) hB5.out
  exact ⟨rfl, below_call (below_dn b5 n2) hB6.out⟩

theorem reads (os : Os) {H : Type} (enc : TypeId × Value → H) : ∃ x, DataW.whole enc Tryd.prog ((laidWorld os).forCall (fun _ _ => 0) ⟨#[], #[.string ByteArray.empty, .string ByteArray.empty], []⟩).memory Tryd.f6.params.toList Rows.fnExactSchemaTagsSpec.vars false (#[.string ByteArray.empty, .string ByteArray.empty] : Array Value).toList 8 = some x :=
  Option.isSome_iff_exists.1 (by kernel_rfl)
set_option maxRecDepth 100000 in
theorem lifted (os : Os) (started : os.Started) (H : Type) (enc : TypeId × Value → H) (F : Stop.Interp) :
    ReturnsInHanded {} Tryd.checked os 6 .any ((OpenSpec.ofChange Rows.fnExactSchemaTagsSpec).preRow enc Tryd.prog Tryd.f6 Rows.fnExactSchemaTagsRow.domain false Rows.fnExactSchemaTagsRow.laid) (((OpenSpec.ofChange Rows.fnExactSchemaTagsSpec).at F).post enc Tryd.prog Tryd.f6 false true false false) := by
  obtain ⟨⟨ds0, gs0, places⟩, hx⟩ := reads os enc
  refine returnsInHanded_of_row (C := Tryd.checked) (s := OpenSpec.ofChange Rows.fnExactSchemaTagsSpec) own started (by kernel_rfl) Tryd.func6
    (witness_row_at (enc := enc) (C := Tryd.checked) false (laidWorld os) #[.string ByteArray.empty, .string ByteArray.empty] rfl (by kernel_rfl) (by kernel_rfl) (by kernel_rfl)
      (OpenSpec.preRow_of_cond 8 hx (by kernel_rfl) (fun k hk => by cases hk) (by kernel_rfl) (laid_met os _))) ?_
  clear hx places ds0 gs0
  intro W base args ds gs before hval0 hW _ _ _ hL hSH _
  have hval : ∀ (j : Nat) t v, Tryd.f6.params[j]? = some t → args[j]? = some v → Value.okWide Tryd.prog W .any base t v := hval0
  have hW' := hW
  obtain ⟨p, q, hA0, hV, rfl, hfz, hnd⟩ := hW
  have hA : DataW.TrodAll enc Tryd.prog W 0 (fun _ => true) true Tryd.f6.params.toList args.toList ds p := hA0
  rw [Tryd.params6] at hA hval
  obtain ⟨v0, vs0, d0, ds0, p0, q0, hargs, rfl, rfl, h0, r0⟩ := trodAll_cons hA
  obtain ⟨v1, vs1, d1, ds1, p1, q1, rfl, rfl, rfl, h1, r1⟩ := trodAll_cons r0
  obtain ⟨rfl, rfl, rfl⟩ := trodAll_nil r1
  obtain rfl : args = #[v0, v1] := by cases args; simp_all
  obtain ⟨rfl, rfl⟩ := trodVars_none hV
  obtain ⟨a0, rfl, rfl, rfl, w0⟩ := open_string Tryd.underlying9 (hval 0 9 v0 rfl rfl) h0
  obtain ⟨a1, rfl, rfl, rfl, w1⟩ := open_string Tryd.underlying9 (hval 1 9 v1 rfl rfl) h1
  clear hA0 hval0
  simp only [List.append_nil] at hW'
  refine (walk a0 a1 w0 w1 W hSH).mono fun e W' ⟨he, bel⟩ => ?_
  subst he
  exact ⟨_, rfl, _, _, _, [], [], [], hW', (trodAll_cons_mk (shut_bool Tryd.underlying4 _) trodAll_mk0), (trodAll_cons_mk (shut_string Tryd.underlying9 w0) (trodAll_cons_mk (shut_string Tryd.underlying9 w1) trodAll_mk0)), rfl, bel.frame _, fun h => by cases h⟩

theorem said : Rows.FnExactSchemaTagsSaid :=
  OpenClaim.holds_of_cond 6 Tryd.f6 rfl rfl rfl rfl rfl rfl rfl ⟨rfl, rfl, rfl, rfl, rfl⟩ rfl rfl rfl rfl rfl (by kernel_rfl) Tryd.func6 (by kernel_rfl)
    (of_decide_eq_true (by kernel_rfl)) (by unfold Func.isWrapper; first | (rw [if_pos (by decide +kernel)]; kernel_rfl) | (rw [if_neg (by decide +kernel)]; exact ⟨rfl, rfl⟩))
    (fun os started H enc _ F => by rw [OpenClaim.pre_eq_preRow]; exact lifted os started H enc F)
theorem plain (f : FuncId) (fn : Func) (hf : Tryd.pinned.checked.prog.funcNamed "loop.example/wireforms/laws.FnExactSchemaTags" = some f) (hfn : Tryd.pinned.checked.prog.funcs[f]? = some fn) :
    false = Tryd.pinned.checked.prog.looks [] ∧ ∀ (j : Nat) t, fn.params[j]? = some t → Tryd.pinned.checked.prog.wantsStandIn t = false := by
  obtain rfl : f = 6 := Option.some.inj ((show Tryd.prog.funcNamed "loop.example/wireforms/laws.FnExactSchemaTags" = some 6 by kernel_rfl).symm.trans hf) |>.symm
  obtain rfl : fn = Tryd.f6 := (Option.some.inj (Tryd.func6.symm.trans hfn)).symm
  refine ⟨looks0, fun j t ht => ?_⟩
  rw [Tryd.params6] at ht
  have hm := Array.mem_of_getElem? ht
  simp only [List.mem_toArray, List.mem_cons, List.not_mem_nil, or_false] at hm
  rcases hm with rfl | rfl
  all_goals first | exact (show Tryd.prog.wantsStandIn 9 = false by kernel_rfl)
theorem proved : Rows.FnExactSchemaTagsCardSaid :=
  Claim7.holds_tied_plain_at .later [] _ _ _ _ said (fun _ h => by cases h) (by kernel_rfl) (fun _ h => by cases h) fnExactSchemaTags_row_tie rfl ⟨rfl, rfl⟩ (by kernel_rfl) rfl plain (by kernel_rfl)
end Go.Proofs.YtbkfjopoacbdgaaDoor.fnExactSchemaTags
