/- The law FnSchemaUsed holds for every input: the Go function returns true and its arguments read as before. No condition but that the listed tables of Go's library hold what the card ties. -/
import Derived.Test.YtmdacedmjbiekaaGreatDoorR41
import Derived.Test.YtmdacedmjbiekaaGreatDoorCrdU
import Derived.WalkKit
import Derived.ProofKit
import Derived.Below
namespace Go.Proofs.YtmdacedmjbiekaaGreatDoor.fnSchemaUsed
open Go.ChangeShapes Go.WideShapes Go.ChangeAt Go.RowKit
open Go.ChangeMaps (open_string shut_string)
set_option linter.unusedVariables false
theorem below_call {W w1 w2 : World} (h1 : Below W.heap.size W w1) (h2 : Below w1.heap.size w1 w2) : Below W.heap.size W w2 := h1.trans (h2.mono h1.size)
theorem below_dn {B : Nat} {a w : World} (h : Below B a w) (n : Nat) : Below B a (w.drewN n) := h.trans ⟨rfl, rfl, rfl, Nat.le_refl _, fun _ _ => rfl⟩
theorem ne_of {w1 : World} {xs : List Value} {k0 k1 : Nat} (h : xs = [] ∨ k0 < w1.heap.size) (h2 : w1.heap.size ≤ k1) : xs = [] ∨ k0 ≠ k1 := by
  rcases h with h | h
  · exact .inl h
  · exact .inr (by omega)
theorem below_to {W w1 w2 : World} (h1 : Below W.heap.size W w1) (h2 : Below w1.heap.size w1 w2) : Hid (Below W.heap.size W w2) := Lib.hid (h1.trans (h2.mono h1.size))
set_option maxRecDepth 20000 in
set_option maxHeartbeats 4000000 in
theorem walk (a0 : Option Addr) (len0 cap0 : Nat) (z0 : List Int) (w : World) (w0 : IsRow .u8 w a0 len0 cap0 z0) (hsh : w.ShapedOpen Tryz.prog) :
    Calls Tryz.prog 5 #[.slice a0 len0 cap0] w fun e w' => e = .returned (.bool true) ∧ Below w.heap.size w w' := by
  obtain ⟨m, hm⟩ := ml_of w hsh
  have HM := Lib.hid hm
  clear hm hsh
  have HB := Lib.hid (bytes_of w0)
  clear w0
  by_cases hbig : 1048576 < len0
  · go_enter Tryz.func5, Tryz.ntmps5
    go_wp2
    go_ret
    exact ⟨rfl, Below.refl _ _⟩
  have hlen : len0 ≤ 1048576 := by omega
  clear hbig
  go_enter Tryz.func5, Tryz.ntmps5
  go_wp2_with (first | (go_at_call 24; refine (wfTexts L (by omega) b0 b1 v0 v1 _ (hR2.out.below' hb3) HR3.out).mono ?_; rintro e wx ⟨rfl, nq, rfl⟩; obtain ⟨a4, c4, rfl, hc4, hm4, h4⟩ := hR2.out; have HR := Lib.hid h4; obtain ⟨n, hn⟩ : ∃ n, (L.map tx).length = n := ⟨_, rfl⟩; have HLN := Lib.hid hn; have hn8 : n ≤ 8 := (by rw [← hn, List.length_map]; exact hl8); rw [hn] at hc4 ⊢; clear hn h4) | (go_at_call 14; have _u := hB2; refine (HS.out _).mono ?_; rintro e w3 ⟨⟨b1, v1, rfl, hk1, r1⟩, hb3⟩; have HR3 := Lib.hid r1; have B3 := below_to hB2.out hb3; clear r1) | (go_at_call 15; refine (HI.out _ (HM.out.below hb1)).mono ?_; rintro e w2 ⟨⟨b0, v0, rfl, hk0, r0⟩, hbx⟩; have hR2 := Lib.hid r0; have hB2 := below_to hb1 hbx; clear hbx r0) | (go_at_call 23; refine (drawSchemaUsed _ _ _ _ HB.out).mono ?_; rintro e w1 ⟨s, K, rfl, hs, hK, hb1⟩; have hS := fun wz => schemaUsed_s s K wz (by omega); have hI := fun wz hz => schemaUsed_i s K m wz hz (by omega) (by omega); have hSU := fun (q : ByteArray) (h6 : q.size ≤ 1048576) wz hz => schemaUsed_i s q m wz hz (by omega) h6; have hl8 := used_len s.data.toList K.data.toList; have hN := fun (nm : ByteArray) (h : nm.data.toList ∈ usedL s.data.toList K.data.toList) => used_next h; have hA := used_asc s.data.toList K.data.toList; obtain ⟨B, hB⟩ : ∃ B, (kindOf s.data.toList K.data.toList).isSome = B := ⟨_, rfl⟩; obtain ⟨L, hL⟩ : ∃ L, usedL s.data.toList K.data.toList = L := ⟨_, rfl⟩; rw [hB, hL] at hI hS; rw [hL] at hN hl8 hA; have HN := Lib.hid hN; have HI := Lib.hid hI; have HS := Lib.hid hS; have HSU := Lib.hid hSU; have HA := Lib.hid hA; clear hB hL hN hI hS hSU hA; cases B))
  · go_ret
    exact ⟨rfl, below_dn B3.out _⟩
  · have B4 := Lib.hid (below_dn B3.out nq)
    have HR4 := Lib.hid fun (wz : World) (hz : Below w2.heap.size w2 wz) => (show RowAt wz b0 (.slice a4 n c4) (L.map tx) from (by have h := hR2.out.below' hz; rw [HLN.out] at h; exact h))
    have B24 := Lib.hid (below_dn hb3 nq)
    have hzz : w2.heap.size ≤ (w3.drewN nq).heap.size := B24.out.size
    clear hb3
    go_loopw [10] (fun v wr => ∃ (i : Nat), v = .int .i64 i ∧ i ≤ n ∧ Hid (Below w2.heap.size w2 wr)) (fun v _ => n - (RowKit.intOf v).toNat)
    case atStart => exact ⟨0, rfl, by omega, B24⟩
    case round =>
      obtain ⟨i, rfl, hi, hbr⟩ := hrel
      by_cases hlt : i < n
      · have hiL : i < (L.map tx).length := by rw [HLN.out]; exact hlt
        have hiL2 : i < L.length := by rw [List.length_map] at hiL; exact hiL
        obtain ⟨X, hX⟩ : ∃ X : ByteArray, (⟨(L[i]).toArray⟩ : ByteArray) = X := ⟨_, rfl⟩
        have hXm : X.data.toList ∈ L := by rw [← hX]; exact List.getElem_mem hiL2
        obtain ⟨hsm, hle, h3⟩ := HN.out X hXm
        have hX3 : X.size ≤ 3 := by rw [← size_list]; exact h3
        have a1 := fun wz => run_string_add_sum (P := Tryz.prog) (w := wz) ⟨#[64]⟩ X (by show 1 + X.size ≤ _; omega)
        have a2 := fun wz => run_string_add_sum (P := Tryz.prog) (w := wz) (⟨#[64]⟩ ++ X) ⟨#[59]⟩ (by rw [ByteArray.size_append]; show 1 + X.size + 1 ≤ _; omega)
        have hSU := HSU.out (⟨#[64]⟩ ++ X ++ ⟨#[59]⟩) (by rw [ByteArray.size_append, ByteArray.size_append]; show 1 + X.size + 1 ≤ _; omega)
        rw [at_name, hsm] at hSU
        have hLe : (usedL s.data.toList (64 :: (X.data.toList ++ [59]))).length ≤ n := by rw [← HLN.out, List.length_map]; exact hle
        obtain ⟨U, hU⟩ : ∃ U, usedL s.data.toList (64 :: (X.data.toList ++ [59])) = U := ⟨_, rfl⟩
        rw [hU] at hSU hLe
        have HSU1 := Lib.hid hSU
        have HX := Lib.hid hX
        have HGET := Lib.hid fun (wz : World) (hz : Below w2.heap.size w2 wz) (j : Nat) (hj : j < L.length) => (show ∃ o, a4 = some ⟨b0, o, none⟩ ∧ wz.cell? ⟨b0, o + j, none⟩ = some (tx L[j]) from (by
          obtain ⟨o, h5, _, _, _, h7⟩ := (HR4.out wz hz).nth (i := j) (by rw [List.length_map]; exact hj)
          rw [List.getElem_map] at h7
          exact ⟨o, h5, h7⟩))
        obtain ⟨o1, ha4, p1⟩ := HGET.out _ hbr.out i hiL2
        rw [tx, HX.out] at p1
        subst ha4
        have HP := Lib.hid fun (wz : World) (hz : Below w2.heap.size w2 wz) (j : Nat) (hj : j < L.length) => (show wz.cell? ⟨b0, o1 + j, none⟩ = some (tx L[j]) from (by
          obtain ⟨o2, ho2, p2⟩ := HGET.out _ hz j hj
          simp only [Option.some.injEq, Addr.mk.injEq, true_and, and_true] at ho2
          subst ho2
          exact p2))
        have hprev : i = 0 ∨ ∃ (j : Nat) (Y : ByteArray), i = j + 1 ∧ (∀ wz, Below w2.heap.size w2 wz → wz.cell? ⟨b0, o1 + j, none⟩ = some (.string Y)) ∧ Op.bytesLess Y.toList X.toList = true := by
          cases i with
          | zero => exact .inl rfl
          | succ j => exact .inr ⟨j, ⟨(L[j]'(by omega)).toArray⟩, rfl, fun wz hz => HP.out wz hz j (by omega), asc_less HA.out hiL2 rfl (by rw [← HX.out])⟩
        have HP1 := Lib.hid fun (wz : World) (hz : Below w2.heap.size w2 wz) => (show wz.cell? ⟨b0, o1 + i, none⟩ = some (.string X) from (by
          have h := HP.out wz hz i hiL2
          rw [tx, HX.out] at h
          exact h))
        clear hXm hX hiL hiL2 HX HGET HP hsm hle hSU hU
        go_wp2_with (go_at_call 15; refine (HSU1.out _ (HM.out.below (hB2.out.trans (hbr.out.mono hB2.out.size)))).mono ?_; rintro e w5 ⟨⟨b5, v5, rfl, hk5, hr5⟩, hbx⟩; have hb5 := Lib.hid (hbr.out.trans (hbx.mono hbr.out.size)); have p5 := HP1.out _ hb5.out; obtain ⟨a5, c5, rfl, _, _, _⟩ := hr5; rw [List.length_map]; obtain ⟨nu, hnu⟩ : ∃ nu, U.length = nu := ⟨_, rfl⟩; rw [hnu] at hLe ⊢; clear hbx hnu)
        have gl : decide ((n : Int) < (nu : Int)) = false := decide_eq_false (by omega)
        have gl2 : decide (n < nu) = false := decide_eq_false (by omega)
        rcases hprev with h0 | ⟨j, Y, h1, hpj, hlj⟩
        · have gi : decide ((0 : Int) < (i : Int)) = false := decide_eq_false (by omega)
          have gi2 : decide (0 < i) = false := decide_eq_false (by omega)
          go_quiet (fail)
          go_wp2
          go_roundw
          case rel => exact ⟨i + 1, by go_num, by omega, Lib.hid (by have h := hb5.out; repeat (first | with_reducible exact h | with_reducible refine Below.drew ?_ | exact below_dn h _))⟩
          case measure => simp [RowKit.intOf]; omega
        · have gi : decide ((0 : Int) < (i : Int)) = true := decide_eq_true (by omega)
          have gi2 : decide (0 < i) = true := decide_eq_true (by omega)
          have pj := hpj _ hb5.out
          have kw : IntKind.i64.wrap ((i : Int) - 1) = (j : Int) := by rw [IntKind.wrap_i64]; omega
          have hj8 : j < n := by omega
          clear h1
          go_quiet (fail)
          go_wp2
          go_roundw
          case rel => exact ⟨i + 1, by go_num, by omega, Lib.hid (by have h := hb5.out; repeat (first | with_reducible exact h | with_reducible refine Below.drew ?_ | exact below_dn h _))⟩
          case measure => simp [RowKit.intOf]; omega
      · go_wp2
        go_ret
        exact ⟨rfl, hB2.out.trans (hbr.out.mono hB2.out.size)⟩

theorem proved : Rows.FnSchemaUsedCardSaid := proved_of fun a0 len0 cap0 z0 w w0 hsh => walk a0 len0 cap0 z0 w w0 hsh
end Go.Proofs.YtmdacedmjbiekaaGreatDoor.fnSchemaUsed
