/- NumPut and NumSize, of the program and of the reference: the bytes of a number. -/
import Derived.Test.YteackbhcjolfiaaNumFold
import Derived.Test.YteackbhcjolfiaaAid
import Derived.Test.YteackbhcjolfiaaPlainA
import Derived.ProofKit
import Derived.OpenShut
import Derived.Deep.RegionWith
namespace Go.Proofs.Yteackbhcjolfiaa
open Go.ChangeShapes Go.WideShapes Go.ChangeAt Go.RowKit

set_option maxRecDepth 20000 in
theorem l1Put_any (k : Nat) : ∀ (n : Int) (w : World), n ≤ k → 0 ≤ n → n ≤ 999999 →
    Calls Try.prog 33 #[.int .i64 n] w fun e w' => e = .returned (.string ⟨(Wf.putN n.toNat).toArray⟩) ∧ Below w.heap.size w w' := by
  induction k with
  | zero =>
    intro n w hk h0 _
    obtain rfl : n = 0 := by omega
    have hcv := run_convert_lit (P := Try.prog) 32 9 5 Try.underlying32 Try.underlying5 Try.underlying9
    go_enter Try.func33, Try.ntmps33
    go_wp2_with fail
    go_ret
    exact ⟨by rw [Wf.putN_lt (by omega)]; rfl, (Below.refl _ _).alloc (Nat.le_refl _) _⟩
  | succ k ih0 =>
    have ih := Lib.hid ih0
    clear ih0
    intro n w hk h0 hn
    by_cases h : n < 128
    · have hcv := run_convert_lit (P := Try.prog) 32 9 5 Try.underlying32 Try.underlying5 Try.underlying9
      have E := Lib.hid (show (Wf.putN n.toNat).toArray = #[UInt8.ofNat n.toNat] by rw [Wf.putN_lt (by omega)])
      go_enter Try.func33, Try.ntmps33
      go_wp2_with fail
      go_ret
      exact ⟨by rw [E.out]; rfl, (Below.refl _ _).alloc (Nat.le_refl _) _⟩
    · have E := Lib.hid (show Wf.putN n.toNat = [UInt8.ofNat (128 + n % 128).toNat] ++ Wf.putN (n / 128).toNat by
        rw [Wf.putN_ge (by omega), show (128 + n % 128).toNat = 128 + n.toNat % 128 by omega, show (n / 128).toNat = n.toNat / 128 by omega]; simp)
      have hc1 := fun W a c => run_convert_one (P := Try.prog) 32 9 5 Try.underlying32 Try.underlying5 Try.underlying9 W a c (128 + n % 128)
      have hl := (Wf.putN_len (n / 128).toNat (by omega)).2
      have w0 : n.tdiv 128 = n / 128 := Int.tdiv_eq_ediv_of_nonneg (by omega)
      have w1 : IntKind.i64.wrap (n / 128) = n / 128 := IntWalk.i64_in _ (by omega)
      have w2 : n.tmod 128 = n % 128 := Int.tmod_eq_emod_of_nonneg (by omega)
      have w3 : IntKind.i64.wrap (128 + n % 128) = 128 + n % 128 := IntWalk.i64_in _ (by omega)
      have w4 : IntKind.u8.wrap (128 + n % 128) = 128 + n % 128 := IntWalk.u8_in _ (by omega)
      have w5 : ∀ W : World, (Op.stringOp .add ⟨#[UInt8.ofNat (128 + n % 128).toNat]⟩ ⟨(Wf.putN (n / 128).toNat).toArray⟩).run Try.prog W = .ok (.string ⟨(Wf.putN n.toNat).toArray⟩) W :=
        run_add_bytes [UInt8.ofNat (128 + n % 128).toNat] (Wf.putN (n / 128).toNat) _ (by simp; omega) E.out
      clear E
      go_enter Try.func33, Try.ntmps33
      go_wp2_with fail
      go_region_with (go_at_call 33; refine (ih.out (n / 128) _ (by omega) (by omega) (by omega)).mono ?_; rintro e w' ⟨rfl, hb⟩; have hc := (bcell hb).1)
      all_goals go_wp2
      all_goals go_ret
      · exact ⟨rfl, (((Below.refl _ _).alloc (Nat.le_refl _) _).drew).trans (hb.mono (by simp))⟩
      · exact ⟨rfl, (((Below.refl _ _).alloc (Nat.le_refl _) _).drew).trans (hb.mono (by simp))⟩
      · exact ⟨rfl, ((Below.refl _ _).drew.trans hb).alloc (by have := hb.size; simpa using this) _⟩

/-- what NumPut gives -/
def putL (n : Int) : List UInt8 := if 0 ≤ n ∧ n ≤ 999999 then Wf.putN n.toNat else []
def putB (n : Int) : Bool := decide (0 ≤ n ∧ n ≤ 999999)
def putV (n : Int) : Value := .tuple #[.string ⟨(putL n).toArray⟩, .bool (putB n)]
theorem ret_sb {a b : ByteArray} {x y : Bool} (h1 : a = b) (h2 : x = y) : Ending.returned (.tuple #[.string a, .bool x]) = .returned (.tuple #[.string b, .bool y]) := by rw [h1, h2]
theorem put_no {n : Int} (h : ¬ (0 ≤ n ∧ n ≤ 999999)) : Ending.returned (.tuple #[.string ⟨#[]⟩, .bool false]) = .returned (putV n) := ret_sb (by rw [putL, if_neg h]) (by rw [putB, decide_eq_false h])
theorem put_yes {n : Int} {s : ByteArray} (h : 0 ≤ n ∧ n ≤ 999999) (hs : s = ⟨(Wf.putN n.toNat).toArray⟩) : Ending.returned (.tuple #[.string s, .bool true]) = .returned (putV n) := ret_sb (by rw [putL, if_pos h, hs]) (by rw [putB, decide_eq_true h])

theorem numPut_spec (n : Int) (w : World) : Calls Try.prog 17 #[.int .i64 n] w fun e w' => e = .returned (putV n) ∧ Below w.heap.size w w' := by
  by_cases h : 0 ≤ n ∧ n ≤ 999999
  · have h1 := h.1
    have h2 := h.2
    have H := Lib.hid h
    clear h
    go_enter Try.func17, Try.ntmps17
    go_wp2_with (first | (go_at_call 33; refine (l1Put_any n.toNat n _ (by omega) h1 h2).mono ?_; rintro e w' ⟨rfl, hb⟩) | (go_at_call 32; refine (l6In_yes _ _ _ _ (by omega) (by omega)).mono ?_; rintro e w' ⟨rfl, rfl⟩))
    go_ret2
    exact ⟨put_yes H.out rfl, by assumption⟩
  · have H := Lib.hid h
    have h1 : n < 0 ∨ 999999 < n := by omega
    clear h
    go_enter Try.func17, Try.ntmps17
    go_wp2_with (first | (go_at_call 32; refine (l6In_no _ _ _ _ (by omega)).mono ?_; rintro e w' ⟨rfl, rfl⟩))
    go_ret2
    exact ⟨put_no H.out, Below.refl _ _⟩

theorem info5 : (Try.prog.info? 5).map (fun i => (i.zero, i.size, i.bytes)) = some (some (.int .u8 0), 1, 1) := by kernel_rfl

/-- how many bytes are out, and how great what is left may be -/
def Room (k : Nat) (m : Int) : Prop := (k = 0 ∧ m ≤ 999999) ∨ (k = 1 ∧ m ≤ 7812) ∨ (k = 2 ∧ m ≤ 61)
theorem Room.more {l : List UInt8} {m : Int} {c : UInt8} (h : 128 ≤ m) (hr : Room l.length m) : Room (l ++ [c]).length (m / 128) := by
  have e : (l ++ [c]).length = l.length + 1 := by simp
  rw [e]
  unfold Room at hr ⊢
  omega
theorem Room.le {k : Nat} {m : Int} (hr : Room k m) : k ≤ 2 ∧ m ≤ 999999 := by unfold Room at hr; omega
theorem numPut_impl (n : Int) (w : World) : Calls Try.prog 18 #[.int .i64 n] w fun e w' => e = .returned (putV n) ∧ Below w.heap.size w w' := by
  by_cases h : 0 ≤ n ∧ n ≤ 999999
  · have h1 := h.1
    have h2 := h.2
    have H := Lib.hid h
    clear h
    have hcv := fun wx v (l : List UInt8) hl => run_convert_owned (P := Try.prog) wx 32 9 5 (base := w.heap.size) (et := 5) (v := v) (l := l) Try.underlying32 Try.underlying5 Try.underlying9 hl
    have HCV := Lib.hid hcv
    clear hcv
    go_enter Try.func18, Try.ntmps18
    go_wp2
    go_loopw [4, 0] (fun v i wr => ∃ (l : List UInt8) (m : Int), 0 ≤ m ∧ Room l.length m ∧ i = .int .i64 m ∧ Hid (l ++ Wf.putN m.toNat = Wf.putN n.toNat) ∧ wr.ownsRow w.heap.size 5 1 v l.length (Lib.byteCells l) ∧ Below w.heap.size w wr)
      (fun _ i _ => (intOf i).toNat)
    case atStart => exact ⟨[], n, h1, .inl ⟨rfl, h2⟩, rfl, rfl, World.ownsRow_nil _ _ _ _, Below.refl _ _⟩
    case round =>
      obtain ⟨l, m, hm1, hroom, rfl, hput, hown, hbel⟩ := hrel
      have hl := hroom.le.1
      have hm2 := hroom.le.2
      by_cases hlt : m < 128
      · have hm : IntKind.u8.wrap m = m := IntWalk.u8_in _ (by omega)
        have hsz := hbel.size
        have HMC := Lib.hid (show m = ((UInt8.ofNat m.toNat).toNat : Int) by rw [Wf.toNat_ofNat (by omega)]; omega)
        clear hroom
        go_wp2_with (at_builtin; refine wpList_append_byte _ rfl (.tmp 22) (.tmp 25) 32 rfl w.heap.size 5 Try.underlying32 info5 _ l rfl (hown.alloc _) ⟨wr.heap.size, 0, none⟩ m rfl (by simp) (UInt8.ofNat m.toNat) HMC.out (by omega) (by simp; omega) ?_; intro v1 w1 hown1 hb1; have hc1 := HCV.out w1 v1 _ hown1)
        go_ret2
        exact ⟨put_yes H.out (by rw [← hput.out, Wf.putN_lt (by omega)]), (hbel.alloc hsz _).trans hb1⟩
      · have hm0 : m % 128 + 128 < 256 := by omega
        have hmu : IntKind.u8.wrap (m % 128 + 128) = m % 128 + 128 := IntWalk.u8_in _ (by omega)
        have hsz := hbel.size
        have HMC := Lib.hid (show m % 128 + 128 = ((UInt8.ofNat (m % 128 + 128).toNat).toNat : Int) by rw [Wf.toNat_ofNat (by omega)]; omega)
        have HL := Lib.hid (hroom.more (c := UInt8.ofNat (m % 128 + 128).toNat) (by omega))
        clear hroom
        have HP := Lib.hid (show (l ++ [UInt8.ofNat (m % 128 + 128).toNat]) ++ Wf.putN (m / 128).toNat = Wf.putN n.toNat by
          rw [← hput.out, Wf.putN_ge (show 128 ≤ m.toNat by omega), show (m % 128 + 128).toNat = 128 + m.toNat % 128 by omega, show (m / 128).toNat = m.toNat / 128 by omega]; simp)
        go_wp2_with (at_builtin; refine wpList_append_byte _ rfl (.tmp 13) (.tmp 18) 32 rfl w.heap.size 5 Try.underlying32 info5 _ l rfl (hown.alloc _) ⟨wr.heap.size, 0, none⟩ (m % 128 + 128) rfl (by simp) (UInt8.ofNat (m % 128 + 128).toNat) HMC.out (by omega) (by simp; omega) ?_; intro v1 w1 hown1 hb1)
        go_roundw
        case rel => exact ⟨_, _, by omega, HL.out, rfl, HP.out, hown1, (hbel.alloc hsz _).trans hb1⟩
        case measure => simp [intOf]; omega
  · have H := Lib.hid h
    have h1 : n < 0 ∨ 999999 < n := by omega
    clear h
    go_enter Try.func18, Try.ntmps18
    go_wp2
    all_goals go_ret2
    all_goals exact ⟨put_no H.out, Below.refl _ _⟩

/-- what NumSize gives -/
def sizeI (n : Int) : Int := (putL n).length
theorem putL_len (n : Int) : (putL n).length ≤ 3 := by
  unfold putL
  split
  · rename_i h; exact (Wf.putN_len n.toNat (by omega)).2
  · simp
theorem ret_i {a b : Int} (h1 : a = b) : Ending.returned (.int .i64 a) = .returned (.int .i64 b) := by rw [h1]
theorem size_impl (n : Int) (w : World) : Calls Try.prog 24 #[.int .i64 n] w fun e w' => e = .returned (.int .i64 (sizeI n)) ∧ Below w.heap.size w w' := by
  go_enter Try.func24, Try.ntmps24
  go_wp2_with (go_at_call 18; refine (numPut_impl n _).mono ?_; rintro e w' ⟨rfl, hb⟩; rw [putV])
  go_ret
  exact ⟨ret_i (by simp [sizeI]), by assumption⟩
theorem size_spec (n : Int) (w : World) : Calls Try.prog 23 #[.int .i64 n] w fun e w' => e = .returned (.int .i64 (sizeI n)) ∧ Below w.heap.size w w' := by
  cases hp : putB n with
  | true =>
    go_enter Try.func23, Try.ntmps23
    go_wp2_with (go_at_call 17; refine (numPut_spec n _).mono ?_; rintro e w' ⟨rfl, hb⟩; rw [putV])
    go_ret
    exact ⟨ret_i (by simp [sizeI]), by assumption⟩
  | false =>
    have H := Lib.hid (show sizeI n = 0 by unfold sizeI putL; unfold putB at hp; rw [if_neg (of_decide_eq_false hp)]; rfl)
    go_enter Try.func23, Try.ntmps23
    go_wp2_with (go_at_call 17; refine (numPut_spec n _).mono ?_; rintro e w' ⟨rfl, hb⟩; rw [putV])
    go_ret
    exact ⟨ret_i H.out.symm, by assumption⟩
end Go.Proofs.Yteackbhcjolfiaa
