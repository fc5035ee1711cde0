/- Packed by pack.py: Ee. -/
import Derived.Shelf.Strings.SlTrimAscii
import Derived.Shelf.Strings.Prefix
import Derived.Shelf.Strings.Cut
import Derived.Shelf.Strings.Search3
import Derived.Shelf.Strings.Split
import Derived.Shelf.Strings.SplitShaped
import Derived.Shelf.Strings.Shaped
import Derived.Shelf.Small.Wraps
import Derived.Shelf.Strings.OnBuilder
import Derived.WalkKit
import Derived.Lib.UnsafeStr
import Derived.Lib.Hide
import Derived.ProofKit
import Derived.OpenShut
import Derived.BigQuiet
import Derived.WalkSpells
import Derived.KernelRfl
import Derived.Below
import Derived.Lib.SlTrimSet
import Derived.Deep.QuietTactic
import Derived.Deep.RegionWith
import Derived.Deep.RegionHeld3
import Derived.IntWalk
import Derived.Deep.DeepCutAuto
import Derived.Lib.Split
import Derived.Lib.IndexMore
import Derived.Lib.CountLaws
import Derived.Lib.SplitLaws
import Derived.Deep.AppendLies
import Derived.Deep.RegionLaw
import Derived.Maps.Own
import Derived.Maps.OwnOps
import Derived.Maps.OwnSet
import Derived.Maps.Views
import Derived.StringKeys
import Derived.Maps.AppendAt
import Derived.Deep.CutRange
import Derived.Deep.RegionHeldLaw
import Derived.WalkSmall
import Derived.Lib.PathFns
import Derived.Deep.WholeRow
import Derived.Test.YtidjpalnmnehmaaRows
import Derived.Test.YtidjpalnmnehmaaF0
import Derived.Test.YtidjpalnmnehmaaF1
import Derived.Test.YtidjpalnmnehmaaF2
import Derived.Test.YtidjpalnmnehmaaF3
import Derived.Test.YtidjpalnmnehmaaF4
import Derived.Test.YtidjpalnmnehmaaF5
import Derived.Test.YtidjpalnmnehmaaF6
import Derived.Test.YtidjpalnmnehmaaF7
import Derived.Test.YtidjpalnmnehmaaF8
import Derived.Test.YtidjpalnmnehmaaF9
import Derived.Test.YtidjpalnmnehmaaF10
import Derived.Test.YtidjpalnmnehmaaF11
import Derived.Test.YtidjpalnmnehmaaF12
import Derived.Test.YtidjpalnmnehmaaF13
import Derived.Test.YtidjpalnmnehmaaF14
import Derived.Test.YtidjpalnmnehmaaF15
import Derived.Test.YtidjpalnmnehmaaF16
import Derived.Test.YtidjpalnmnehmaaF17
import Derived.Test.YtidjpalnmnehmaaF18
import Derived.Test.YtidjpalnmnehmaaF19
import Derived.Test.YtidjpalnmnehmaaF20
import Derived.Test.YtidjpalnmnehmaaF21
import Derived.Test.YtidjpalnmnehmaaF22
import Derived.Test.YtidjpalnmnehmaaF23
import Derived.Test.YtidjpalnmnehmaaF24
import Derived.Test.YtidjpalnmnehmaaF26
import Derived.Test.YtidjpalnmnehmaaF30
import Derived.Test.YtidjpalnmnehmaaF34
import Derived.Test.YtidjpalnmnehmaaF35
import Derived.Test.YtidjpalnmnehmaaF36
import Derived.Test.YtidjpalnmnehmaaF37
import Derived.Test.YtidjpalnmnehmaaF40
import Derived.Test.YtidjpalnmnehmaaF42
namespace Go.Proofs.Ytidjpalnmnehmaa
open Go.ChangeShapes Go.WideShapes Go.ChangeAt Go.RowKit Go.Lib
set_option linter.unusedVariables false
set_option linter.unusedSimpArgs false
theorem cD3 {m : Nat} (h : m ≤ 3) : cD m ≤ 9288 ∧ bD m ≤ 52218:=by
  match m,h with
  | 0,_ => decide
  | 1,_ => decide
  | 2,_ => decide
  | 3,_ => decide
theorem cD4 : cD 4 = 74312 ∧ bD 4 = 417786:=by decide
theorem typed_pos {x : Wf.Sc} {n : Nat} {k : Wf.K} {u : Wf.V} (h : Wf.Typed x n k u) : 1 ≤ u.print.length:=by
  obtain ⟨c,t,e,_⟩:=Wf.print_head h
  rw [e];simp
theorem spoil_a (rb k : Nat) (w6 : World) (R6 : Rd w6 rb k) (hk : k ≤ 900000) : Calls Try.prog 10 #[.pointer (some ⟨rb,0,none⟩), .int .i64 5] (w6.alloc (.cells #[.string ⟨#[]⟩, .string ⟨#[48]⟩, .string ⟨#[44]⟩, .string ⟨#[125]⟩, .string ⟨#[45]⟩] 9)).drew fun e w7 => ∃ (z : Int) (X : ByteArray),e = .returned (.int .i64 z) ∧ 0 ≤ z ∧ z < 5 ∧ X.size ≤ 1 ∧ w7.cell? ⟨w6.heap.size,z.toNat,none⟩ = some (.string X) ∧ w6.heap.size < w7.heap.size ∧ Rd w7 rb (k + 1) ∧ Beside rb w6 w7:=by
  have R:=R6.alloc (.cells #[.string ⟨#[]⟩, .string ⟨#[48]⟩, .string ⟨#[44]⟩, .string ⟨#[125]⟩, .string ⟨#[45]⟩] 9)
  refine (pick rb k 5 (w6.alloc (.cells #[.string ⟨#[]⟩, .string ⟨#[48]⟩, .string ⟨#[44]⟩, .string ⟨#[125]⟩, .string ⟨#[45]⟩] 9)).drew (R.below (Below.drew (Below.refl _ _)) R.lt) (by omega) (by omega)).mono ?_
  rintro e w7 ⟨z,rfl,hz,_,hR7,hBs7⟩
  obtain ⟨hz0,hz1⟩:=hz (by omega)
  have hB : Beside rb (w6.alloc (.cells #[.string ⟨#[]⟩, .string ⟨#[48]⟩, .string ⟨#[44]⟩, .string ⟨#[125]⟩, .string ⟨#[45]⟩] 9)) w7:=(Beside.drew (Beside.refl rb _)).trans hBs7
  obtain ⟨X,hx0,hx1,hxc⟩:=cell_picks 1 [[],[48],[44],[125],[45]] (w1:=w6) (et:=9) hB R6.lt z hz0 hz1 (by decide)
  exact ⟨z,X,rfl,hz0,hz1,hx0,hxc,Nat.lt_of_lt_of_le (show w6.heap.size < (w6.alloc (.cells #[.string ⟨#[]⟩, .string ⟨#[48]⟩, .string ⟨#[44]⟩, .string ⟨#[125]⟩, .string ⟨#[45]⟩] 9)).heap.size by simp) hB.size,hR7,((Beside.refl rb w6).alloc _).trans hB⟩
theorem spoil_b (rb k : Nat) (w6 : World) (R6 : Rd w6 rb k) (hk : k ≤ 900000) : Calls Try.prog 10 #[.pointer (some ⟨rb,0,none⟩), .int .i64 5] w6.drew fun e w7 => ∃ (z : Int) (X : ByteArray),e = .returned (.int .i64 z) ∧ 0 ≤ z ∧ z < 5 ∧ X.size ≤ 1 ∧ (w7.alloc (.cells #[.string ⟨#[]⟩, .string ⟨#[48]⟩, .string ⟨#[44]⟩, .string ⟨#[125]⟩, .string ⟨#[45]⟩] 9)).cell? ⟨w7.heap.size,z.toNat,none⟩ = some (.string X) ∧ Rd w7 rb (k + 1) ∧ Beside rb w6 w7:=by
  refine (pick rb k 5 w6.drew (R6.below (Below.drew (Below.refl _ _)) R6.lt) (by omega) (by omega)).mono ?_
  rintro e w7 ⟨z,rfl,hz,_,hR7,hBs7⟩
  obtain ⟨hz0,hz1⟩:=hz (by omega)
  obtain ⟨X,hx0,hx1,hxc⟩:=cell_picks 1 [[],[48],[44],[125],[45]] (w1:=w7) (et:=9) (Beside.refl rb (w7.alloc (.cells #[.string ⟨#[]⟩, .string ⟨#[48]⟩, .string ⟨#[44]⟩, .string ⟨#[125]⟩, .string ⟨#[45]⟩] 9))) hR7.lt z hz0 hz1 (by decide)
  exact ⟨z,X,rfl,hz0,hz1,hx0,hxc,hR7,(Beside.drew (Beside.refl rb w6)).trans hBs7⟩
set_option maxRecDepth 20000 in
set_option maxHeartbeats 4000000 in
theorem l91Of (rb k : Nat) (s kt : ByteArray) (hs : s.size ≤ 1048576) (w : World) (H : Rd w rb k) (hk : k ≤ 700000) : Calls Try.prog 22 #[.pointer (some ⟨rb,0,none⟩), .string s, .string kt] w fun e w' => ∃ T : ByteArray,e = .returned (.string T) ∧ T.size ≤ 500000 ∧ Rd w' rb (k + 110000) ∧ Beside rb w w':=by
  have R0:=H.lt
  have HK:=hid (l3Kind s kt w hs)
  cases hko : kindOf s.data.toList kt.data.toList with
  | none =>
    have HO:=hid fun (e : Ending) (w' : World) (h : LkOut s.data.toList kt.data.toList w.heap.size e w') => (by unfold LkOut at h;rw [hko] at h;exact h : ∃ a n c,e = .returned (.tuple #[.slice a n c, .bool false]))
    clear hko
    go_enter Try.func22,Try.ntmps22
    go_wp2_with (go_at_call 28;refine HK.out.mono ?_;rintro e w2 ⟨ho,hb2⟩;obtain ⟨a,n,c,rfl⟩:=HO.out _ _ ho;have HB2:=hid hb2;clear ho hb2)
    go_ret
    exact ⟨_,rfl,by decide,(H.below HB2.out R0).mono (by omega),Beside.of_below HB2.out (Nat.le_refl _)⟩
  | some y =>
    obtain ⟨x,kd⟩:=y
    obtain ⟨hx,hkd⟩:=kindOf_ok hko
    obtain ⟨_,_,_,hkt,_⟩:=kindOf_text hko
    have hkk : tx kd.text = .string kt:=by rw [tx,show kd.text = kt.data.toList from hkt]
    obtain ⟨xn,hxn⟩ : ∃ xn,x.length = xn:=⟨_,rfl⟩
    have HO:=hid fun (e : Ending) (w' : World) (h : LkOut s.data.toList kt.data.toList w.heap.size e w') => (by unfold LkOut at h;rw [hko] at h;dsimp only at h;rw [hxn] at h;exact h : ∃ b a c,e = .returned (.tuple #[.slice a xn c, .bool true]) ∧ ScSp w' w.heap.size b (.slice a xn c) x)
    have HDR:=hid fun (m : Nat) (hm : m ≤ 4) (b : Nat) (vv : Value) (wz : World) (kz : Nat) (hr : Rd wz rb kz) (hc : kz + cD m ≤ 900000) (hs : ScSp wz w.heap.size b vv x) => (by
      have h:=dr_all x vv rb w.heap.size b hx m hm kd hkd wz kz hr hc hs R0
      rw [hkk] at h
      exact h)
    have HOUT:=hid fun (m : Nat) (u : Wf.V) (ht : Wf.Typed x m kd u) (hl : u.print.length ≤ 500000) (P : Nat → Prop) (p : Nat) (wz : World) (hv : LV wz P u p) => out m kd u ht P p wz wz hv (Below.refl _ _) (by omega)
    have HP:=hid fun (m : Nat) (u : Wf.V) (ht : Wf.Typed x m kd u) => typed_pos ht
    have C4:=hid cD4
    have C3:=hid fun (m : Nat) (h : m ≤ 3) => cD3 h
    clear hko hx hkd hkt hkk hxn
    go_enter Try.func22,Try.ntmps22
    go_wp2_with (first | (go_at_call 30;have _u:=HLV;refine (HOUT.out 14 u HT.out (by omega) _ p _ HLV.out).mono ?_;rintro e w4 ⟨rfl,hb4⟩;have HB4:=hid hb4;clear hb4) | (go_at_call 29;have _u:=HSP;refine (HDR.out 4 (Nat.le_refl _) _ _ w2 k (H.below HB2.out R0) (by rw [C4.out.1];omega) HSP.out).mono ?_;rintro e w3 ⟨u,p,rfl,ht,hpl,hlv,hr3,hb3⟩;have hul : u.print.length ≤ 417786:=(by rw [← C4.out.2];exact hpl);have HT:=hid ht;have HLV:=hid hlv;have R3:=hid hr3;have HB3:=hid hb3;clear ht hpl hlv hr3 hb3) | (go_at_call 28;refine HK.out.mono ?_;rintro e w2 ⟨ho,hb2⟩;obtain ⟨b,a,c,rfl,hsp⟩:=HO.out _ _ ho;have HSP:=hid hsp;have HB2:=hid hb2;clear ho hb2 hsp))
    have hup:=HP.out 14 u HT.out
    obtain ⟨T0,hT0⟩ : ∃ T : ByteArray,(⟨u.print.toArray⟩ : ByteArray) = T:=⟨_,rfl⟩
    have ht0 : T0.size = u.print.length:=by rw [← hT0];rfl
    have RT0:=hid ((R3.out.below HB4.out R3.out.lt).mono (show k + cD 4 ≤ k + 74312 + (3 - 3) * 9288 by rw [C4.out.1];omega))
    have BT0:=hid (HB3.out.trans (Beside.of_below (rb:=rb) HB4.out (Nat.le_refl _)))
    have BW2:=hid (Beside.of_below (rb:=rb) HB2.out (Nat.le_refl _))
    simp only [tx,hT0]
    clear hT0
    go_loopw [9,10] (fun s9 s10 wr => ∃ (i : Nat) (T : ByteArray),s9 = .string T ∧ s10 = .int .i64 i ∧ i ≤ 3 ∧ 1 ≤ T.size ∧ T.size ≤ 417786 ∧ Hid (Rd wr rb (k + 74312 + (3 - i) * 9288) ∧ Beside rb w2 wr)) (fun _ s10 _ => (RowKit.intOf s10).toNat)
    case atStart => exact ⟨3,T0,rfl,rfl,Nat.le_refl _,by omega,by omega,hid ⟨RT0.out,BT0.out⟩⟩
    case round =>
      obtain ⟨i,T,rfl,rfl,hi,hT1,hT2,hh⟩:=hrel
      by_cases hgo : 150 < T.size ∧ 0 < i
      · obtain ⟨hg1,hg2⟩:=hgo
        have d1 : decide ((150 : Int) < (T.size : Int)) = true:=decide_eq_true (by omega)
        have d2 : decide ((0 : Int) < (i : Int)) = true:=decide_eq_true (by omega)
        obtain ⟨c1,c2⟩:=C3.out i hi
        go_wp2_with (first | (go_at_call 30;have _u:=HLV7;refine (HOUT.out _ u7 HT7.out (by omega) _ p7 _ HLV7.out).mono ?_;rintro e w8 ⟨rfl,hb8⟩;have HB8:=hid hb8;clear hb8) | (go_at_call 29;refine (HDR.out i (by omega) _ _ wr (k + 74312 + (3 - i) * 9288) hh.out.1 (by omega) (HSP.out.beside hh.out.2 R0)).mono ?_;rintro e w7 ⟨u7,p7,rfl,ht,hpl,hlv,hr7,hb7⟩;have hul7 : u7.print.length ≤ 52218:=(by omega);have hup7:=HP.out _ u7 ht;have HT7:=hid ht;have HLV7:=hid hlv;have R7:=hid hr7;have HB7:=hid hb7;clear ht hpl hlv hr7 hb7))
        obtain ⟨T7,hT7⟩ : ∃ T : ByteArray,(⟨u7.print.toArray⟩ : ByteArray) = T:=⟨_,rfl⟩
        have ht7 : T7.size = u7.print.length:=by rw [← hT7];rfl
        simp only [tx,hT7]
        clear hT7
        go_roundw
        case rel => exact ⟨i - 1,T7,rfl,by congr 1;omega,by omega,by omega,by omega,hid ⟨(R7.out.below HB8.out R7.out.lt).mono (by omega),hh.out.2.trans (HB7.out.trans (Beside.of_below HB8.out (Nat.le_refl _)))⟩⟩
        case measure => simp [RowKit.intOf];omega
      · have RX:=hid (hh.out.1.mono (show k + 74312 + (3 - i) * 9288 ≤ k + 102176 by omega))
        have hcase : (¬ 150 < T.size) ∨ (150 < T.size ∧ i = 0):=by omega
        clear hgo
        rcases hcase with hg1 | ⟨hg1,rfl⟩
        all_goals
          first
          | have d1 : decide ((150 : Int) < (T.size : Int)) = false:=decide_eq_false (by omega)
          | have d1 : decide ((150 : Int) < (T.size : Int)) = true:=decide_eq_true (by omega)
          go_wp2_with (first | (go_at_call 10;have _u:=R5;refine (pick rb (k + 102177) (T.size : Int) _ R5.out (by omega) (by omega)).mono ?_;rintro e w6 ⟨z,rfl,hz,_,hR6,hBs6⟩;obtain ⟨hz0,hz1⟩:=hz (by omega);obtain ⟨kk,rfl⟩:=Int.eq_ofNat_of_zero_le hz0;have hkk : kk < T.size:=(by omega);have R6:=hid hR6;have B6:=hid (B5.out.trans hBs6);have RL6:=hR6.lt;obtain ⟨P1,hP1⟩ : ∃ P,T.extract 0 kk = P:=⟨_,rfl⟩;obtain ⟨P2,hP2⟩ : ∃ P,T.extract (kk + 1) T.size = P:=⟨_,rfl⟩;have s1 : ∀ wz,(Instr.slice 9 (.string T) none (some (.int .i64 kk)) none).run Try.prog wz = .ok (.string P1) wz:=fun wz => (by rw [← hP1];exact sl_pre T kk (by omega) wz);have s2 : ∀ wz,(Instr.slice 9 (.string T) (some (.int .i64 ((kk : Int) + 1))) none none).run Try.prog wz = .ok (.string P2) wz:=fun wz => (by rw [← hP2];exact sl_suf T (kk + 1) (by omega) wz);have kw : IntKind.i64.wrap ((kk : Int) + 1) = (kk : Int) + 1:=IntWalk.i64_in _ (by omega);have hp1 : P1.size ≤ 417786:=(by rw [← hP1];simp;omega);have hp2 : P2.size ≤ 417786:=(by rw [← hP2];simp;omega);have hp12 : P1.size + P2.size ≤ T.size:=(by rw [← hP1,← hP2];simp;omega);clear hP1 hP2 hz hR6 hBs6) | (go_at_call 10;refine (pick rb (k + 102176) 24 _ RX.out (by omega) (by omega)).mono ?_;rintro e w5 ⟨v5,rfl,hv5,_,hR5,hBs5⟩;obtain ⟨hv0,hv1⟩:=hv5 (by omega);have R5:=hid hR5;have B5:=hid (hh.out.2.trans hBs5);clear hR5 hBs5 hv5;rcases (Bool.eq_false_or_eq_true (v5 == (0 : Int))) with hq | hq))
          · go_region_law (first | ((try go_simp);go_at_call 10;refine (spoil_a rb (k + 102178) w6 R6.out (by omega)).mono ?_;rintro e w7 ⟨z,X,rfl,hz0,hz1,hx0,hxc,hl7,hR7,hB7⟩;have R7:=hid hR7;have B7:=hid (B6.out.trans hB7);have ha1 : ¬ 9223372036854775807 < P1.size + X.size:=(by omega);have ha2 : ¬ 9223372036854775807 < P1.size + X.size + P2.size:=(by omega);have ha3 : ¬ 9223372036854775807 < (P1 ++ X).size + P2.size:=(by rw [ByteArray.size_append];omega);clear hR7 hB7) | ((try go_simp);go_at_call 10;refine (spoil_b rb (k + 102178) w6 R6.out (by omega)).mono ?_;rintro e w7 ⟨z,X,rfl,hz0,hz1,hx0,hxc,hR7,hB7⟩;have R7:=hid hR7;have B7:=hid (B6.out.trans hB7);have ha1 : ¬ 9223372036854775807 < P1.size + X.size:=(by omega);have ha2 : ¬ 9223372036854775807 < P1.size + X.size + P2.size:=(by omega);have ha3 : ¬ 9223372036854775807 < (P1 ++ X).size + P2.size:=(by rw [ByteArray.size_append];omega);clear hR7 hB7))
            all_goals (go_wp2_with fail)
            all_goals go_ret
            all_goals first | exact ⟨_,rfl,by simp only [ByteArray.size_append];omega,R7.out.mono (by omega),BW2.out.trans B7.out⟩ | exact ⟨_,rfl,by simp only [ByteArray.size_append];omega,(R7.out.alloc _).mono (by omega),BW2.out.trans (B7.out.alloc _)⟩
          · go_ret
            exact ⟨T,rfl,by omega,R5.out.mono (by omega),BW2.out.trans B5.out⟩
set_option maxRecDepth 20000 in
theorem l91Three (rb k : Nat) (w : World) (H : Rd w rb k) (hk : k ≤ 600000) : Calls Try.prog 15 #[.pointer (some ⟨rb,0,none⟩)] w fun e w' => ∃ s K T : ByteArray,e = .returned (.tuple #[.string s, .string K, .string T]) ∧ s.size ≤ 1900 ∧ K.size ≤ 100 ∧ T.size ≤ 500000 ∧ Rd w' rb (k + 110180) ∧ Beside rb w w':=by
  go_enter Try.func15,Try.ntmps15
  go_wp2_with (first | (go_at_call 22;have _u:=R3;refine (l91Of rb (k + 180) s K (by omega) _ R3.out (by omega)).mono ?_;rintro e w4 ⟨T,rfl,hT,hR4,hB4⟩;have R4:=Lib.hid hR4;have B4:=Lib.hid (B3.out.trans hB4);clear hR4 hB4) | (go_at_call 21;have _u:=R2;refine (l91Some rb (k + 170) s (by omega) _ R2.out (by omega)).mono ?_;rintro e w3 ⟨K,rfl,hK,hR3,hB3⟩;have R3:=Lib.hid hR3;have B3:=Lib.hid (B2.out.trans hB3);clear hR3 hB3) | (go_at_call 20;refine (l91Schema rb k _ H (by omega)).mono ?_;rintro e w2 ⟨s,rfl,hs,hR2,hB2⟩;have R2:=Lib.hid hR2;have B2:=Lib.hid hB2;clear hR2 hB2))
  exact bodyPost_ret (v:=.tuple #[.string s, .string K, .string T]) (by simp [results,Try.results15,go_sem, *]) rfl ⟨_,_,_,rfl,hs,hK,hT,R4.out,B4.out⟩
end Go.Proofs.Ytidjpalnmnehmaa
