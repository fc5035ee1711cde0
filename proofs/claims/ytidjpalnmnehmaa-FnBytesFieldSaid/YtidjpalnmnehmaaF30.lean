/- Packed by pack.py: Kw Dr Ds Je Jf Jg La5 Dt Du Ve Vg Vu Vv Vw Vr Vs. -/
import Derived.Shelf.Strings.SlTrimAscii
import Derived.Shelf.Strings.Prefix
import Derived.Shelf.Strings.Cut
import Derived.Shelf.Strings.Search3
import Derived.Shelf.Strings.Split
import Derived.Shelf.Strings.SplitShaped
import Derived.Shelf.Strings.Shaped
import Derived.Shelf.Small.Wraps
import Derived.Shelf.Strings.OnBuilder
import Derived.WalkKit
import Derived.Lib.UnsafeStr
import Derived.Lib.Hide
import Derived.ProofKit
import Derived.OpenShut
import Derived.BigQuiet
import Derived.WalkSpells
import Derived.KernelRfl
import Derived.Below
import Derived.Lib.SlTrimSet
import Derived.Deep.QuietTactic
import Derived.Deep.RegionWith
import Derived.Deep.RegionHeld3
import Derived.IntWalk
import Derived.Deep.DeepCutAuto
import Derived.Lib.Split
import Derived.Lib.IndexMore
import Derived.Lib.CountLaws
import Derived.Lib.SplitLaws
import Derived.Deep.AppendLies
import Derived.Deep.RegionLaw
import Derived.Maps.Own
import Derived.Maps.OwnOps
import Derived.Maps.OwnSet
import Derived.Maps.Views
import Derived.StringKeys
import Derived.Maps.AppendAt
import Derived.Deep.CutRange
import Derived.Deep.RegionHeldLaw
import Derived.WalkSmall
import Derived.Lib.PathFns
import Derived.Deep.WholeRow
import Derived.Test.YtidjpalnmnehmaaRows
import Derived.Test.YtidjpalnmnehmaaF0
import Derived.Test.YtidjpalnmnehmaaF1
import Derived.Test.YtidjpalnmnehmaaF2
import Derived.Test.YtidjpalnmnehmaaF3
import Derived.Test.YtidjpalnmnehmaaF4
import Derived.Test.YtidjpalnmnehmaaF5
import Derived.Test.YtidjpalnmnehmaaF6
import Derived.Test.YtidjpalnmnehmaaF7
import Derived.Test.YtidjpalnmnehmaaF8
import Derived.Test.YtidjpalnmnehmaaF9
import Derived.Test.YtidjpalnmnehmaaF10
import Derived.Test.YtidjpalnmnehmaaF11
import Derived.Test.YtidjpalnmnehmaaF12
import Derived.Test.YtidjpalnmnehmaaF13
import Derived.Test.YtidjpalnmnehmaaF14
import Derived.Test.YtidjpalnmnehmaaF15
import Derived.Test.YtidjpalnmnehmaaF16
import Derived.Test.YtidjpalnmnehmaaF17
import Derived.Test.YtidjpalnmnehmaaF18
import Derived.Test.YtidjpalnmnehmaaF19
import Derived.Test.YtidjpalnmnehmaaF20
import Derived.Test.YtidjpalnmnehmaaF21
import Derived.Test.YtidjpalnmnehmaaF22
import Derived.Test.YtidjpalnmnehmaaF23
import Derived.Test.YtidjpalnmnehmaaF24
namespace Go.Proofs.Ytidjpalnmnehmaa
open Go.ChangeShapes Go.WideShapes Go.ChangeAt Go.RowKit Go.Lib
set_option linter.unusedVariables false
theorem cell_pick (c : List Value) {w1 w2 : World} {rb et : Nat} (hb : Beside rb (w1.alloc (.cells c.toArray et)) w2) (hr : rb < w1.heap.size) (v : Int) (h0 : 0 ≤ v) (h1 : v < c.length) : ∃ x ∈ c,w2.cell? ⟨w1.heap.size,v.toNat,none⟩ = some x:=by
  refine ⟨c[v.toNat]'(by omega),List.getElem_mem _, ?_⟩
  refine hb.cell_some ?_ (by omega)
  simp [List.getElem?_eq_getElem (show v.toNat < c.length by omega)]
theorem cell_picks (m : Nat) (l : List (List UInt8)) {w1 w2 : World} {rb et : Nat} (hb : Beside rb (w1.alloc (.cells (l.map tx).toArray et)) w2) (hr : rb < w1.heap.size) (v : Int) (h0 : 0 ≤ v) (h1 : v < l.length) (hl : (l.all fun n => decide (n.length ≤ m)) = true) : ∃ x : ByteArray,x.size ≤ m ∧ x.data.toList ∈ l ∧ w2.cell? ⟨w1.heap.size,v.toNat,none⟩ = some (.string x):=by
  obtain ⟨x,hx,hc⟩:=cell_pick _ hb hr v h0 (by simpa using h1)
  obtain ⟨n,hn,rfl⟩:=List.mem_map.1 hx
  have:=List.all_eq_true.1 hl n hn
  exact ⟨⟨n.toArray⟩,by simpa [tx_size] using this,hn,hc⟩
set_option maxRecDepth 20000 in
set_option maxHeartbeats 1000000 in
theorem l91Kind (rb k : Nat) (w : World) (H : Rd w rb k) (hk : k ≤ 900000) :
    Calls Try.prog 27 #[.pointer (some ⟨rb,0,none⟩)] w fun e w' => ∃ s : ByteArray,e = .returned (.string s) ∧ s.size ≤ 100 ∧ Rd w' rb (k + 7) ∧ Beside rb w w':=by
  have R0:=H.lt
  go_enter Try.func27,Try.ntmps27
  go_wp2_with (first | (go_at_call 10;refine (pick rb (k + 1) 4 _ hR2 (by omega) (by omega)).mono ?_;rintro e w3 ⟨n,rfl,hn,_,hR3,hBs3⟩;obtain ⟨hn0,hn1⟩:=hn (by omega);have B3:=Lib.hid (B2.out.trans hBs3);clear hBs3) | (go_at_call 10;refine (pick rb k 8 _ (H.alloc _) (by omega) (by omega)).mono ?_;rintro e w2 ⟨v,rfl,hv,_,hR2,hBs⟩;obtain ⟨hv0,hv1⟩:=hv (by omega);obtain ⟨x,hx0,hx1,hxc⟩:=cell_picks 3 [[110],[116],[102],[110],[116],[64,97,59],[64,98,59],[64,99,59]] hBs H.lt v hv0 hv1 (by decide);have B2:=Lib.hid (((Beside.refl rb w).alloc _).trans hBs);clear hBs))
  go_loopw [3,4] (fun v3 v4 wr => ∃ (t : ByteArray) (i : Int) (m : Nat),v3 = .string t ∧ v4 = .int .i64 i ∧ 0 ≤ i ∧ i ≤ 3 ∧ m + i.toNat ≤ 5 ∧ t.size ≤ 10 * m ∧ m ≤ 5 ∧ Rd wr rb (k + m) ∧ Hid (Beside rb w wr)) (fun _ v _ => (RowKit.intOf v).toNat)
  case atStart => exact ⟨x,n,2,rfl,rfl,hn0,by omega,by omega,by omega,by omega,hR3,B3⟩
  case round =>
    obtain ⟨t,i,m,rfl,rfl,hi0,hi1,hm,ht,hm5,hR,hBB⟩:=hrel
    by_cases hi : 1 < i
    · go_wp2_with (go_at_call 10;refine (pick rb (k + m) 3 _ (hR.alloc _) (by omega) (by omega)).mono ?_;rintro e w4 ⟨u,rfl,hu,_,hR4,hBs4⟩;obtain ⟨hu0,hu1⟩:=hu (by omega);obtain ⟨y,hy0,hy1,hyc⟩:=cell_picks 1 [[91],[63],[91]] hBs4 hR.lt u hu0 hu1 (by decide);have B4:=Lib.hid ((hBB.out.alloc _).trans hBs4);clear hBs4)
      go_roundw
      case rel => exact ⟨_,_,m + 1,rfl,rfl,by omega,by omega,by omega,by simp [ByteArray.size_append];omega,by omega,hR4,B4⟩
      case measure => simp [RowKit.intOf];omega
    · go_wp2_with (first | (go_at_call 10;refine (pick rb (k + m + 1) 8 _ (hR5.alloc _) (by omega) (by omega)).mono ?_;rintro e w6 ⟨v6,rfl,hv6,_,hR6,hBs6⟩;obtain ⟨hv60,hv61⟩:=hv6 (by omega);obtain ⟨z,hz0,hz1,hzc⟩:=cell_picks 20 [[],[120],[64,59],[64,65,59],[91],[63,63,63,63,63,63,63,63,63,63,63,63,63,63,110],[64,97],[110,110]] hBs6 hR5.lt v6 hv60 hv61 (by decide);have B6:=Lib.hid ((B5.out.alloc _).trans hBs6);clear hBs6) | (go_at_call 10;refine (pick rb (k + m) 30 _ hR (by omega) (by omega)).mono ?_;rintro e w5 ⟨v5,rfl,hv5,_,hR5,hBs5⟩;have B5:=Lib.hid (hBB.out.trans hBs5);clear hBs5 hv5))
      all_goals go_ret
      · exact ⟨z,rfl,by omega,hR6.mono (by omega),B6.out⟩
      · exact ⟨t,rfl,by omega,hR5.mono (by omega),B5.out⟩
end Go.Proofs.Ytidjpalnmnehmaa

namespace Go.Proofs.Ytidjpalnmnehmaa
open Go.ChangeShapes Go.WideShapes Go.ChangeAt Go.RowKit Go.Lib
set_option linter.unusedVariables false
set_option linter.unusedSimpArgs false
def Drew (n : Nat) (rb k : Nat) (w : World) (e : Ending) (w' : World) : Prop:=∃ s : ByteArray,e = .returned (.string s) ∧ s.size ≤ n ∧ Rd w' rb k ∧ Beside rb w w'
set_option maxRecDepth 20000 in
set_option maxHeartbeats 2000000 in
theorem l91Field (rb k : Nat) (T NM : ByteArray) (g : Nat) (hg : g ≤ 999999) (hn : NM.size ≤ 10) (w : World) (H : Rd w rb k) (hk : k ≤ 900000) :
    Calls Try.prog 35 #[.pointer (some ⟨rb,0,none⟩), .string T, .int .i64 g, .string NM] w fun e w' => Drew 130 rb (k + 9) w e w':=by
  have R0:=H.lt
  have HD:=hid fun wz => l6Dec g g wz (Nat.le_refl _) (by omega)
  have ld:=Wf.dec_len6 hg
  obtain ⟨D,hD⟩ : ∃ D : ByteArray,(⟨(Wf.dec g).toArray⟩ : ByteArray) = D:=⟨_,rfl⟩
  simp only [tx,hD] at HD
  have hds : D.size ≤ 6:=by rw [← hD,tx_size];exact ld
  have HH:=hid H
  clear hD ld H
  go_enter Try.func35,Try.ntmps35
  go_wp2_with (first | (go_at_call 10;have _u:=hR4;have _t : (K.toList == [110]) = true:=(by assumption);refine (pick rb (k + 8) 8 _ (hR4.alloc _) (by omega) (by omega)).mono ?_;rintro e w5 ⟨u,rfl,hu,_,hR5,hBs5⟩;obtain ⟨hu0,hu1⟩:=hu (by omega);obtain ⟨x,hx0,hx1,hxc⟩:=cell_picks 6 [[53],[55,55],[57,57,57,57,57,57],[48]] hBs5 hR4.lt (u / 2 % 4) (by omega) (by simp;omega) (by decide);have B5:=Lib.hid ((B4.out.alloc _).trans hBs5);clear hBs5) | (go_at_call 10;have _u:=hR4;have _t : (K.toList == [116]) = true:=(by assumption);refine (pick rb (k + 8) 7 _ (hR4.alloc _) (by omega) (by omega)).mono ?_;rintro e w5 ⟨u,rfl,hu,_,hR5,hBs5⟩;obtain ⟨hu0,hu1⟩:=hu (by omega);obtain ⟨x,hx0,hx1,hxc⟩:=cell_picks 3 [[104,105],[97,32,98],[]] hBs5 hR4.lt (u / 3) (by omega) (by simp;omega) (by decide);have B5:=Lib.hid ((B4.out.alloc _).trans hBs5);clear hBs5) | (go_at_call 10;have _u:=hR4;have _t : (K.toList == [102]) = true:=(by assumption);refine (pick rb (k + 8) 7 _ (hR4.alloc _) (by omega) (by omega)).mono ?_;rintro e w5 ⟨u,rfl,hu,_,hR5,hBs5⟩;obtain ⟨hu0,hu1⟩:=hu (by omega);obtain ⟨x,hx0,hx1,hxc⟩:=cell_picks 3 [[121,101,115],[121,101,115],[110,111]] hBs5 hR4.lt (u / 3) (by omega) (by simp;omega) (by decide);have B5:=Lib.hid ((B4.out.alloc _).trans hBs5);clear hBs5) | (go_at_call 10;refine (pick rb (k + 7) 3 _ R3.out (by omega) (by omega)).mono ?_;rintro e w4 ⟨v,rfl,hv,_,hR4,hBs⟩;obtain ⟨hv0,hv1⟩:=hv (by omega);have B4:=Lib.hid (B3.out.trans hBs);clear hBs) | (go_at_call 27;refine (l91Kind rb k _ R1.out (by omega)).mono ?_;rintro e w3 ⟨K,rfl,hK,hR3,hBs3⟩;have B3:=Lib.hid (B1.out.trans hBs3);have R3:=Lib.hid hR3;clear hBs3 hR3) | (go_at_call 41;refine (HD.out _).mono ?_;rintro e w1 ⟨rfl,hb1⟩;have R1:=Lib.hid (HH.out.below hb1 R0);have B1:=Lib.hid (Beside.of_below (rb:=rb) hb1 (Nat.le_refl _));clear hb1))
  all_goals go_ret
  all_goals have c58 : (⟨#[58]⟩ : ByteArray).size = 1:=rfl
  all_goals have c61 : (⟨#[61]⟩ : ByteArray).size = 1:=rfl
  all_goals have c62 : (⟨#[61,39]⟩ : ByteArray).size = 2:=rfl
  all_goals have c39 : (⟨#[39]⟩ : ByteArray).size = 1:=rfl
  all_goals first | exact ⟨_,rfl,by simp [ByteArray.size_append];omega,hR5.mono (by omega),B5.out⟩ | exact ⟨_,rfl,by simp [ByteArray.size_append];omega,hR4.mono (by omega),B4.out⟩ | exact ⟨_,rfl,by simp [ByteArray.size_append];omega,R3.out.mono (by omega),B3.out⟩ | exact ⟨_,rfl,by simp [ByteArray.size_append];omega,R1.out.mono (by omega),B1.out⟩
theorem l91FieldI (rb k : Nat) (T NM : ByteArray) (g : Int) (hg0 : 0 ≤ g) (hg : g ≤ 999999) (hn : NM.size ≤ 10) (w : World) (H : Rd w rb k) (hk : k ≤ 900000) :
    Calls Try.prog 35 #[.pointer (some ⟨rb,0,none⟩), .string T, .int .i64 g, .string NM] w fun e w' => Drew 130 rb (k + 9) w e w':=by
  obtain ⟨n,rfl⟩:=Int.eq_ofNat_of_zero_le hg0
  exact l91Field rb k T NM n (by omega) hn w H hk
set_option maxRecDepth 20000 in
set_option maxHeartbeats 2000000 in
theorem l91Type (rb k : Nat) (T NM : ByteArray) (hT : T.size ≤ 1) (hT1 : 1 ≤ T.size) (hn : NM.size ≤ 1) (w : World) (H : Rd w rb k) (hk : k ≤ 800000) :
    Calls Try.prog 25 #[.pointer (some ⟨rb,0,none⟩), .string T, .string NM] w fun e w' => ∃ s : ByteArray,e = .returned (.string s) ∧ 1 ≤ s.size ∧ s.size ≤ 600 ∧ Rd w' rb (k + 50) ∧ Beside rb w w':=by
  have R0:=H.lt
  have HH:=hid H
  have kc1:=fun W a c (q : Int) h => run_convert_one (P:=Try.prog) 22 9 5 Try.underlying22 Try.underlying5 Try.underlying9 W a c q h
  have c61 : (⟨#[61]⟩ : ByteArray).size = 1:=rfl
  have c44 : (⟨#[44]⟩ : ByteArray).size = 1:=rfl
  have c10 : (⟨#[10]⟩ : ByteArray).size = 1:=rfl
  clear H
  go_enter Try.func25,Try.ntmps25
  go_wp2_with (first | (go_at_call 10;have _u:=hR1;refine (pick rb (k + 1) 8 _ hR1 (by omega) (by omega)).mono ?_;rintro e w2 ⟨v2,rfl,hv2,_,hR2,hBs2⟩;have B2:=Lib.hid (B1.out.trans hBs2);clear hBs2 hv2;rcases (Bool.eq_false_or_eq_true (v2 == (0 : Int))) with hq | hq) | (go_at_call 10;refine (pick rb k 4 _ HH.out (by omega) (by omega)).mono ?_;rintro e w1 ⟨v1,rfl,hv1,_,hR1,hBs⟩;obtain ⟨hv10,hv11⟩:=hv1 (by omega);have B1:=Lib.hid hBs;clear hBs))
  all_goals
    go_loopw [7,8,10] (fun s tg iv wr => ∃ (S : ByteArray) (t : Int) (i : Nat),s = .string S ∧ tg = .int .i64 t ∧ iv = .int .i64 i ∧ i ≤ 4 ∧ 0 ≤ t ∧ t ≤ 3 * i ∧ S.size ≤ 3 + 140 * i ∧ 1 ≤ S.size ∧ Rd wr rb (k + 2 + 11 * i) ∧ Hid (Beside rb w wr)) (fun _ _ v _ => 4 - (RowKit.intOf v).toNat)
    case atStart => exact ⟨_,_,0,rfl,rfl,rfl,by omega,by omega,by omega,by simp [ByteArray.size_append];omega,by simp [ByteArray.size_append];omega,by first | exact hR2 | exact hR1.mono (by omega),by first | exact B2 | exact B1⟩
    case round =>
      obtain ⟨S,t,i,rfl,rfl,rfl,hi4,ht0,ht1,hS,hS1,hR,hB⟩:=hrel
      go_wp2_with (first | (go_at_call 35;have _u:=hR7;refine (l91FieldI rb (k + 2 + 11 * i + 2) T ⟨#[112 + UInt8.ofNat i]⟩ _ (by omega) (by omega) (show (1 : Nat) ≤ 10 by omega) _ (hR7.alloc _) (by omega)).mono ?_;rintro e w8 ⟨F,rfl,hF,hR8,hBs8⟩;have B8:=Lib.hid ((B7.out.alloc _).trans hBs8);clear hBs8) | (go_at_call 10;have _u:=hR6;refine (pick rb (k + 2 + 11 * i + 1) 2 _ hR6 (by omega) (by omega)).mono ?_;rintro e w7 ⟨v7,rfl,hv7,_,hR7,hBs7⟩;obtain ⟨hv70,hv71⟩:=hv7 (by omega);have B7:=Lib.hid (B6.out.trans hBs7);clear hBs7;rcases (show v7 = 0 ∨ v7 = 1 by omega) with rfl | rfl) | (go_at_call 10;refine (pick rb (k + 2 + 11 * i) 3 _ hR (by omega) (by omega)).mono ?_;rintro e w6 ⟨v6,rfl,hv6,_,hR6,hBs6⟩;obtain ⟨hv60,hv61⟩:=hv6 (by omega);have B6:=Lib.hid (hB.out.trans hBs6);clear hBs6))
      all_goals first | (go_roundw;(case rel => exact ⟨_,_,i + 1,rfl,rfl,by go_num,by omega,by omega,by omega,by simp [ByteArray.size_append];omega,by simp [ByteArray.size_append];omega,hR8.mono (by omega),B8⟩);(case measure => simp [RowKit.intOf];omega)) | (go_ret;exact ⟨_,rfl,by simp [ByteArray.size_append];omega,by simp [ByteArray.size_append];omega,hR.mono (by omega),hB.out⟩)

theorem mem_pos {x : ByteArray} {l : List (List UInt8)} (h : x.data.toList ∈ l) (hl : (l.all fun n => decide (1 ≤ n.length)) = true) : 1 ≤ x.size:=by
  have:=List.all_eq_true.1 hl _ h
  have h2 : 1 ≤ x.data.toList.length:=by simpa using this
  rw [size_list] at h2
  exact h2
theorem el_picks (m : Nat) (l : List (List UInt8)) (v : Int) (h0 : 0 ≤ v) (h1 : v < l.length) (hl : (l.all fun n => decide (n.length ≤ m)) = true) : ∃ x : ByteArray,x.size ≤ m ∧ x.data.toList ∈ l ∧ ∀ h : v.toNat < (l.map tx).length,(l.map tx)[v.toNat]'h = .string x:=by
  have hv : v.toNat < l.length:=by omega
  have:=List.all_eq_true.1 hl l[v.toNat] (List.getElem_mem _)
  exact ⟨⟨(l[v.toNat]).toArray⟩,by simpa [tx_size] using this,List.getElem_mem _,fun h => by rw [List.getElem_map]⟩
set_option maxRecDepth 20000 in
set_option maxHeartbeats 2000000 in
theorem l91Schema (rb k : Nat) (w : World) (H : Rd w rb k) (hk : k ≤ 700000) :
    Calls Try.prog 20 #[.pointer (some ⟨rb,0,none⟩)] w fun e w' => ∃ s : ByteArray,e = .returned (.string s) ∧ s.size ≤ 1900 ∧ Rd w' rb (k + 170) ∧ Beside rb w w':=by
  have R0:=H.lt
  have HH:=hid H
  clear H
  go_enter Try.func20,Try.ntmps20
  go_upto_region 2 with (first | (go_at_call 25;have _u:=hR5;refine (l91Type rb (k + 102) x2 ⟨#[99]⟩ hx21 hx22 (show (1 : Nat) ≤ 1 by omega) _ hR5 (by omega)).mono ?_;rintro e w6 ⟨S3,rfl,hS31,hS32,hR6,hBs6⟩;have B6:=Lib.hid (B5.out.trans hBs6);clear hBs6) | (go_at_call 10;have _u:=hR4;refine (pick rb (k + 101) 3 _ (hR4.alloc _) (by omega) (by omega)).mono ?_;rintro e w5 ⟨v5,rfl,hv5,_,hR5,hBs5⟩;obtain ⟨hv50,hv51⟩:=hv5 (by omega);obtain ⟨x2,hx21,hx2m,hx2c⟩:=cell_picks 1 [[82],[69],[85]] hBs5 hR4.lt v5 hv50 hv51 (by decide);have hx22:=mem_pos hx2m (by decide);have B5:=Lib.hid ((B4.out.alloc _).trans hBs5);clear hBs5) | (go_at_call 25;have _u:=hR3;refine (l91Type rb (k + 51) x1 ⟨#[98]⟩ hx11 hx12 (show (1 : Nat) ≤ 1 by omega) _ hR3 (by omega)).mono ?_;rintro e w4 ⟨S2,rfl,hS21,hS22,hR4,hBs4⟩;have B4:=Lib.hid (B3.out.trans hBs4);clear hBs4) | (go_at_call 10;have _u:=hR2;refine (pick rb (k + 50) 4 _ (hR2.alloc _) (by omega) (by omega)).mono ?_;rintro e w3 ⟨v3,rfl,hv3,_,hR3,hBs3⟩;obtain ⟨hv30,hv31⟩:=hv3 (by omega);obtain ⟨x1,hx11,hx1m,hx1c⟩:=cell_picks 1 [[82],[85],[85],[69]] hBs3 hR2.lt v3 hv30 hv31 (by decide);have hx12:=mem_pos hx1m (by decide);have B3:=Lib.hid ((B2.out.alloc _).trans hBs3);clear hBs3) | (go_at_call 25;refine (l91Type rb k ⟨#[82]⟩ ⟨#[97]⟩ (show (1 : Nat) ≤ 1 by omega) (show (1 : Nat) ≤ 1 by omega) (show (1 : Nat) ≤ 1 by omega) _ HH.out (by omega)).mono ?_;rintro e w2 ⟨S1,rfl,hS11,hS12,hR2,hBs2⟩;have B2:=Lib.hid hBs2;clear hBs2))
  go_cut [3,30] from 23 (fun s3 s30 wx => ∃ (S : ByteArray) (b : Bool),s3 = .string S ∧ s30 = .bool b ∧ 1 ≤ S.size ∧ S.size ≤ 1800 ∧ Rd wx rb (k + 160) ∧ Hid (Beside rb w wx))
  case first =>
    have hsz : (S1 ++ S2 ++ S3).size ≤ 1800:=by simp [ByteArray.size_append];omega
    have hsz1 : 1 ≤ (S1 ++ S2 ++ S3).size:=by simp [ByteArray.size_append];omega
    have HSO:=hid fun wz => schemaOk_s (S1 ++ S2 ++ S3) wz (by omega)
    obtain ⟨B,hB⟩ : ∃ B,okL (S1 ++ S2 ++ S3).data.toList = B:=⟨_,rfl⟩
    rw [hB] at HSO
    clear hB
    go_wp2_with (first | (go_at_call 10;have _u:=hR7;refine (pick rb (k + 152) 8 _ hR7 (by omega) (by omega)).mono ?_;rintro e w8 ⟨v8,rfl,hv8,_,hR8,hBs8⟩;have B8:=Lib.hid (B7.out.trans hBs8);clear hBs8) | (go_at_call 26;refine (HSO.out _).mono ?_;rintro e w7 ⟨rfl,hb7⟩;have hR7:=hR6.below hb7 hR6.lt;have B7:=Lib.hid (B6.out.trans (Beside.of_below hb7 (Nat.le_refl _)));clear hb7))
    all_goals go_meet
    all_goals exact ⟨_,_,rfl,rfl,hsz1,hsz,by first | exact hR8.mono (by omega) | exact hR7.mono (by omega),by first | exact B8 | exact B7⟩
  case rest =>
    obtain ⟨S,b,rfl,rfl,hS1,hS2,hR,hB⟩:=hcut
    go_upto_if 30 with fail
    go_cut [3] from 23 (fun s3 wx => ∃ (S' : ByteArray),s3 = .string S' ∧ 1 ≤ S'.size ∧ S'.size ≤ 1800 ∧ wx = wc)
    case first =>
      cases b
      · go_wp2_with fail
        go_meet
        exact ⟨S,rfl,hS1,hS2,rfl⟩
      · go_wp2_with fail
        go_meet
        exact ⟨_,rfl,by decide,by decide,rfl⟩
    case rest =>
      obtain ⟨S',rfl,hS3,hS4,rfl⟩:=hcut
      go_wp2_with (first | (go_at_call 10;have _u:=hR9;refine (pick rb (k + 161) S'.size _ hR9 (by omega) (by omega)).mono ?_;rintro e w10 ⟨v10,rfl,hv10,_,hR10,hBs10⟩;obtain ⟨hv100,hv101⟩:=hv10 (by omega);obtain ⟨n10,rfl⟩:=Int.eq_ofNat_of_zero_le hv100;have B10:=Lib.hid (B9.out.trans hBs10);clear hBs10 hv10) | (go_at_call 10;refine (pick rb (k + 160) 24 _ hR (by omega) (by omega)).mono ?_;rintro e w9 ⟨v9,rfl,hv9,_,hR9,hBs9⟩;have B9:=Lib.hid (hB.out.trans hBs9);clear hBs9 hv9))
      · have kk1 : n10 < S'.size:=by omega
        have kk2 : n10 ≤ S'.size:=by omega
        have kk3 : n10 + 1 ≤ S'.size:=by omega
        have kk4 : (0 : Int) ≤ (n10 : Int) + 1:=by omega
        have kk5 : (n10 : Int) + 1 ≤ (S'.size : Int):=by omega
        have kw : IntKind.i64.wrap ((n10 : Int) + 1) = (n10 : Int) + 1:=by
          have:=wrap_nat_i64 (n10 + 1) (by omega)
          rw [show ((n10 + 1 : Nat) : Int) = (n10 : Int) + 1 by omega] at this
          exact this
        have ks : ∀ wz,(Instr.slice 9 (.string S') (some (.int .i64 ((n10 : Int) + 1))) none none).run Try.prog wz = .ok (.string (S'.extract (n10 + 1) S'.size)) wz:=fun wz => run_slice_string_l wz 9 S' Try.underlying9 .i64 ((n10 : Int) + 1) kk4 kk5
        go_region_with (first | (go_at_call 10;refine (pick rb (k + 162) 5 _ ((hR10.alloc _).drewN 1) (by omega) (by omega)).mono ?_;rintro e w11 ⟨v11,rfl,hv11,_,hR11,hBs11⟩;obtain ⟨hv110,hv111⟩:=hv11 (by omega);obtain ⟨x,hx0,hxm,hxc⟩:=cell_picks 1 [[],[44],[58],[49],[10]] (w1:=w10) (Beside.trans (Beside.drew (Beside.refl _ _)) hBs11) hR10.lt v11 hv110 hv111 (by decide);have a1:=fun wz => run_string_add_sum (P:=Try.prog) (w:=wz) (S'.extract 0 n10) x (by rw [ByteArray.size_extract];omega);have a2:=fun wz => run_string_add_sum (P:=Try.prog) (w:=wz) (S'.extract 0 n10 ++ x) (S'.extract (n10 + 1) S'.size) (by rw [ByteArray.size_append,ByteArray.size_extract,ByteArray.size_extract];omega);have B11:=Lib.hid (((B10.out.alloc _).drew).trans hBs11);clear hBs11 hv11) | (go_at_call 10;refine (pick rb (k + 162) 5 _ (hR10.drewN 1) (by omega) (by omega)).mono ?_;rintro e w11 ⟨v11,rfl,hv11,_,hR11,hBs11⟩;obtain ⟨hv110,hv111⟩:=hv11 (by omega);obtain ⟨x,hx0,hxm,hxc⟩:=el_picks 1 [[],[44],[58],[49],[10]] v11 hv110 hv111 (by decide);have hel : ∀ h,[Value.string ⟨#[]⟩,Value.string ⟨#[44]⟩,Value.string ⟨#[58]⟩,Value.string ⟨#[49]⟩,Value.string ⟨#[10]⟩][v11.toNat]'h = .string x:=(fun h => hxc h);clear hxc;have a1:=fun wz => run_string_add_sum (P:=Try.prog) (w:=wz) (S'.extract 0 n10) x (by rw [ByteArray.size_extract];omega);have a2:=fun wz => run_string_add_sum (P:=Try.prog) (w:=wz) (S'.extract 0 n10 ++ x) (S'.extract (n10 + 1) S'.size) (by rw [ByteArray.size_append,ByteArray.size_extract,ByteArray.size_extract];omega);have B11:=Lib.hid ((B10.out.drew).trans hBs11);clear hBs11 hv11))
        all_goals go_wp2_with fail
        all_goals go_ret
        all_goals exact ⟨_,rfl,by rw [ByteArray.size_append,ByteArray.size_append,ByteArray.size_extract,ByteArray.size_extract];omega,by first | exact hR11.mono (by omega) | exact (hR11.alloc _).mono (by omega),by first | exact B11.out | exact B11.out.alloc _⟩
      · go_ret
        exact ⟨S',rfl,by omega,hR9.mono (by omega),B9.out⟩

def BothOut (l kt : List UInt8) (lo : Nat) (e : Ending) (w' : World) : Prop:=match kindOf l kt with
  | some y => ∃ sb,e = .returned (.tuple #[ptr sb,kV y.2, .bool true]) ∧ ScL w' lo sb y.1
  | none => ∃ p a b c,e = .returned (.tuple #[.pointer p, .agg #[.string a, .string b, .string c], .bool false])
theorem RsOut.no {l : List UInt8} {lo : Nat} {e : Ending} {w' : World} (h : RsOut l lo e w') (hl : Wf.schemaOf l = none) : ∃ p,e = .returned (.tuple #[.pointer p, .bool false]):=by
  unfold RsOut at h;rw [hl] at h;exact h
theorem RsOut.yes {l : List UInt8} {lo : Nat} {e : Ending} {w' : World} {x : Wf.Sc} (h : RsOut l lo e w') (hl : Wf.schemaOf l = some x) : ∃ sb,e = .returned (.tuple #[ptr sb, .bool true]) ∧ ScL w' lo sb x:=by
  unfold RsOut at h;rw [hl] at h;exact h
def TnOut (l nm : List UInt8) (lo : Nat) (e : Ending) (w' : World) : Prop:=match typeIn l nm with
  | some y => ∃ sb tb,e = .returned (.tuple #[ptr sb,ptr tb, .bool true]) ∧ ScL w' lo sb y.1 ∧ TyL w' lo tb y.2
  | none => e = .returned (.tuple #[.pointer none, .pointer none, .bool false])

theorem RsOut.ok {l : List UInt8} {lo : Nat} {e : Ending} {w' : World} (h : RsOut l lo e w') : ∃ p,e = .returned (.tuple #[.pointer p, .bool (okL l)]):=by
  unfold RsOut at h
  unfold okL
  cases hl : Wf.schemaOf l with
  | none => rw [hl] at h;exact h
  | some x => rw [hl] at h;obtain ⟨sb,he,_⟩:=h;exact ⟨_,he⟩
theorem TnOut.no {l nm : List UInt8} {lo : Nat} {e : Ending} {w' : World} (h : TnOut l nm lo e w') (hl : typeIn l nm = none) : e = .returned (.tuple #[.pointer none, .pointer none, .bool false]):=by
  unfold TnOut at h;rw [hl] at h;exact h
theorem TnOut.yes {l nm : List UInt8} {lo : Nat} {e : Ending} {w' : World} {y : Wf.Sc × Wf.Ty} (h : TnOut l nm lo e w') (hl : typeIn l nm = some y) : ∃ sb tb,e = .returned (.tuple #[ptr sb,ptr tb, .bool true]) ∧ ScL w' lo sb y.1 ∧ TyL w' lo tb y.2:=by
  unfold TnOut at h;rw [hl] at h;exact h
theorem BothOut.no {l kt : List UInt8} {lo : Nat} {e : Ending} {w' : World} (h : BothOut l kt lo e w') (hl : kindOf l kt = none) : ∃ p a b c,e = .returned (.tuple #[.pointer p, .agg #[.string a, .string b, .string c], .bool false]):=by
  unfold BothOut at h;rw [hl] at h;exact h
theorem BothOut.yes {l kt : List UInt8} {lo : Nat} {e : Ending} {w' : World} {y : Wf.Sc × Wf.K} (h : BothOut l kt lo e w') (hl : kindOf l kt = some y) : ∃ sb,e = .returned (.tuple #[ptr sb,kV y.2, .bool true]) ∧ ScL w' lo sb y.1:=by
  unfold BothOut at h;rw [hl] at h;exact h

theorem FieldOut.no {W : World} {t : Wf.Ty} {g : Int} {e : Ending} (h : FieldOut W t g e) (hl : fieldI t g = none) : e = .returned (.pointer none):=by
  unfold FieldOut at h;rw [hl] at h;exact h
theorem FieldOut.yes {W : World} {t : Wf.Ty} {g : Int} {e : Ending} {f : Wf.Fd} (h : FieldOut W t g e) (hl : fieldI t g = some f) : ∃ fb o,e = .returned (.pointer (some ⟨fb,o,none⟩)) ∧ FdAt W fb o t.sort f:=by
  unfold FieldOut at h;rw [hl] at h;exact h
end Go.Proofs.Ytidjpalnmnehmaa

namespace Go.Proofs.Ytidjpalnmnehmaa
open Go.ChangeShapes Go.WideShapes Go.ChangeAt Go.RowKit Go.Lib
set_option linter.unusedVariables false
theorem RowAt.lt {w : World} {b : Nat} {v : Value} {xs : List Value} (h : RowAt w b v xs) : xs = [] ∨ b < w.heap.size:=by
  obtain ⟨a,cap,h1,h2,h3,h4 | ⟨o,h5,h6,h7⟩⟩:=h
  · exact .inl h4
  · exact .inr h6
end Go.Proofs.Ytidjpalnmnehmaa

namespace Go.Proofs.Ytidjpalnmnehmaa
open Go.ChangeShapes Go.WideShapes Go.ChangeAt Go.RowKit Go.Lib
set_option linter.unusedVariables false
set_option linter.unusedSimpArgs false

theorem LkOut.form {l kt : List UInt8} {lo : Nat} {e : Ending} {w' : World} (h : LkOut l kt lo e w') : ∃ a n c b,e = .returned (.tuple #[.slice a n c, .bool b]):=by
  unfold LkOut at h
  cases hk : kindOf l kt with
  | none => rw [hk] at h;obtain ⟨a,n,c,rfl⟩:=h;exact ⟨_,_,_,_,rfl⟩
  | some y => rw [hk] at h;obtain ⟨b,a,c,rfl,_⟩:=h;exact ⟨_,_,_,_,rfl⟩
set_option maxRecDepth 20000 in
set_option maxHeartbeats 1000000 in
theorem l91Text (rb k : Nat) (w : World) (H : Rd w rb k) (hk : k ≤ 900000) :
    Calls Try.prog 42 #[.pointer (some ⟨rb,0,none⟩)] w fun e w' => ∃ b : List UInt8,e = .returned (tx (39 :: (b ++ [39]))) ∧ b.all Wf.isTxt = true ∧ b.length ≤ 12 ∧ Rd w' rb (k + 1) ∧ Beside rb w w':=by
  have R0:=H.lt
  go_enter Try.func42,Try.ntmps42
  go_wp2_with (go_at_call 10;refine (pick rb k 6 _ (H.alloc _) (by omega) (by omega)).mono ?_;rintro e w3 ⟨n,rfl,hn,_,hR3,hBs3⟩;obtain ⟨hn0,hn1⟩:=hn (by omega);obtain ⟨x,hx0,hx1,hxc⟩:=cell_picks 12 [[],[97],[104,105],[97,32,98],[122,122,57],[97,98,99,100,101,102,103,104,105,106,107,108]] hBs3 R0 n hn0 hn1 (by decide);have B3:=Lib.hid (((Beside.refl rb w).alloc _).trans hBs3);clear hBs3)
  have hall:=List.all_eq_true.1 (show ([[],[97],[104,105],[97,32,98],[122,122,57],[97,98,99,100,101,102,103,104,105,106,107,108]] : List (List UInt8)).all (fun b => b.all Wf.isTxt && decide (b.length ≤ 12)) = true by decide) _ hx1
  rw [Bool.and_eq_true,decide_eq_true_eq] at hall
  go_ret
  refine ⟨x.data.toList, ?_,hall.1,hall.2,hR3,B3.out⟩
  refine congrArg (fun s => Ending.returned (Value.string s)) ?_
  rw [eq_list]
  simp [ByteArray.data_append]
set_option maxRecDepth 20000 in
set_option maxHeartbeats 2000000 in
theorem l91Some (rb k : Nat) (s : ByteArray) (hs : s.size ≤ 1048576) (w : World) (H : Rd w rb k) (hk : k ≤ 800000) :
    Calls Try.prog 21 #[.pointer (some ⟨rb,0,none⟩), .string s] w fun e w' => ∃ K : ByteArray,e = .returned (.string K) ∧ K.size ≤ 100 ∧ Rd w' rb (k + 10) ∧ Beside rb w w':=by
  have R0:=H.lt
  have HK:=hid fun (kt : ByteArray) (wz : World) => l3Kind s kt wz hs
  go_enter Try.func21,Try.ntmps21
  go_wp2_with (first | (go_at_call 28;refine (HK.out x _).mono ?_;rintro e w4 ⟨ho,hb4⟩;obtain ⟨a,n,c,b,rfl⟩:=ho.form;have R4:=hid (hR3.below hb4 hR3.lt);have B4:=hid (B3.out.trans (Beside.of_below hb4 (Nat.le_refl _)));clear ho hb4;cases b) | (go_at_call 27;refine (l91Kind rb (k + 1) _ hR2 (by omega)).mono ?_;rintro e w3 ⟨K,rfl,hK,hR4,hBs4⟩;have B5:=hid (B2.out.trans hBs4);clear hBs4) | (go_at_call 10;have _u:=hR2;refine (pick rb (k + 1) 11 _ (hR2.alloc _) (by omega) (by omega)).mono ?_;rintro e w3 ⟨n,rfl,hn,_,hR3,hBs3⟩;obtain ⟨hn0,hn1⟩:=hn (by omega);obtain ⟨x,hx0,hx1,hxc⟩:=cell_picks 4 [[64,97,59],[64,97,59],[64,97,59],[64,98,59],[64,99,59],[91,110],[63,64,97,59],[110],[116],[91,64,98,59],[63,91,102]] hBs3 hR2.lt n hn0 hn1 (by decide);have B3:=Lib.hid ((B2.out.alloc _).trans hBs3);clear hBs3) | (go_at_call 10;refine (pick rb k 30 _ H (by omega) (by omega)).mono ?_;rintro e w2 ⟨v,rfl,hv,_,hR2,hBs⟩;obtain ⟨hv0,hv1⟩:=hv (by omega);have B2:=Lib.hid hBs;clear hBs hv;rcases (Bool.eq_false_or_eq_true (v == (0 : Int))) with hq | hq))
  all_goals go_ret
  all_goals first | exact ⟨K,rfl,by omega,hR4.mono (by omega),B5.out⟩ | exact ⟨_,rfl,by decide,R4.out.mono (by omega),B4.out⟩ | exact ⟨x,rfl,by omega,R4.out.mono (by omega),B4.out⟩

theorem VC.one {W : World} {P : Nat → Prop} {b o : Nat} {cs : List Value} {v : Wf.V} (hv : VC W P v cs) (hb : P b) (hlt : b < W.heap.size) (hc : ∀ j u,cs[j]? = some u → W.cell? ⟨b,o + j,none⟩ = some u) (what : UInt8) (text : List UInt8) (tag : Nat) (hs : ShapeV what tag [v]) : VC W P (.mk what text tag [v]) [.int .u8 what.toNat,tx text, .int .i64 tag, .slice (some ⟨b,o,none⟩) 1 1]:=by
  simp only [VC,VCs]
  exact ⟨some ⟨b,o,none⟩,1,rfl,Nat.le_refl _,by unfold maxLen;omega,hs, .inr ⟨b,o,rfl,hb,hlt,⟨cs,hv,hc⟩,trivial⟩⟩
structure Zero (wr : World) (b : Nat) : Prop where
  lt : b < wr.heap.size
  r0 : wr.cell? ⟨b,0,none⟩ = some (.int .u8 0)
  r1 : wr.cell? ⟨b,1,none⟩ = some (.string ⟨#[]⟩)
  r2 : wr.cell? ⟨b,2,none⟩ = some (.int .i64 0)
  r3 : wr.cell? ⟨b,3,none⟩ = some (.slice none 0 0)
  f0 : wr.frozen? ⟨b,0,none⟩ = false
  f1 : wr.frozen? ⟨b,1,none⟩ = false
  f2 : wr.frozen? ⟨b,2,none⟩ = false
  f3 : wr.frozen? ⟨b,3,none⟩ = false
theorem Zero.same {wr w2 : World} {b : Nat} (h : Zero wr b) (hs : wr.heap.size ≤ w2.heap.size) (h1 : w2.heap[b]? = wr.heap[b]?) : Zero w2 b:=by
  have cd:=fun o => World.cell?_of_block (w:=wr) (w':=w2) (a:=⟨b,o,none⟩) h1
  have cf:=fun o => World.frozen?_of_block (w:=wr) (w':=w2) (a:=⟨b,o,none⟩) h1
  exact ⟨Nat.lt_of_lt_of_le h.lt hs,(cd 0).trans h.r0,(cd 1).trans h.r1,(cd 2).trans h.r2,(cd 3).trans h.r3,(cf 0).trans h.f0,(cf 1).trans h.f1,(cf 2).trans h.f2,(cf 3).trans h.f3⟩
theorem Zero.step {wr w2 : World} {b rb : Nat} (h : Zero wr b) (hb : Beside rb wr w2) (hr : b ≠ rb) : Zero w2 b:=h.same hb.size (hb.block _ h.lt hr)
theorem Zero.below {wr w2 : World} {b B : Nat} (h : Zero wr b) (hb : Below B wr w2) (hr : b < B) : Zero w2 b:=h.same hb.size (hb.block _ hr)
section
variable (x : Wf.Sc) (rb sb : Nat) (W : World) (n : Nat) (t : Wf.Ty) (s : List UInt8) (w : World)
end

structure Blk (wr : World) (b q g : Nat) : Prop where
  lt : b < wr.heap.size
  r0 : wr.cell? ⟨b,0,none⟩ = some (.int .u8 q)
  r1 : wr.cell? ⟨b,1,none⟩ = some (.string ⟨#[]⟩)
  r2 : wr.cell? ⟨b,2,none⟩ = some (.int .i64 g)
  r3 : wr.cell? ⟨b,3,none⟩ = some (.slice none 0 0)
  f2 : wr.frozen? ⟨b,2,none⟩ = false
  f3 : wr.frozen? ⟨b,3,none⟩ = false
theorem Blk.step {wr w2 : World} {b rb q g : Nat} (h : Blk wr b q g) (hb : Beside rb wr w2) (hr : b ≠ rb) : Blk w2 b q g:=by
  have h1:=hb.block _ h.lt hr
  have cd:=fun o => World.cell?_of_block (w:=wr) (w':=w2) (a:=⟨b,o,none⟩) h1
  have cf:=fun o => World.frozen?_of_block (w:=wr) (w':=w2) (a:=⟨b,o,none⟩) h1
  exact ⟨Nat.lt_of_lt_of_le h.lt hb.size,(cd 0).trans h.r0,(cd 1).trans h.r1,(cd 2).trans h.r2,(cd 3).trans h.r3,(cf 2).trans h.f2,(cf 3).trans h.f3⟩
section
variable (rb sb : Nat) (W : World) (t : Wf.Ty) (s : List UInt8) (w : World)
end

section
variable (rb sb : Nat) (W : World) (t : Wf.Ty) (s : List UInt8) (w : World)
end
end Go.Proofs.Ytidjpalnmnehmaa




namespace Go.Proofs.Ytidjpalnmnehmaa
open Go.ChangeShapes Go.WideShapes Go.ChangeAt Go.RowKit Go.Lib
set_option linter.unusedVariables false
set_option linter.unusedSimpArgs false
theorem VC.fld {W : World} {P : Nat → Prop} {g : Nat} {v : Wf.V} {cs : List Value} (h : VC W P (.mk 61 [] g [v]) cs) : ∃ (b2 o2 c2 q3 g3 n3 c3 : Nat) (T3 : ByteArray) (a3 : Option Addr),cs = [.int .u8 61, .string ⟨#[]⟩, .int .i64 g, .slice (some ⟨b2,o2,none⟩) 1 c2] ∧ 1 ≤ c2 ∧ c2 ≤ maxLen ∧ P b2 ∧ b2 < W.heap.size ∧ VC W P v [.int .u8 q3, .string T3, .int .i64 g3, .slice a3 n3 c3] ∧ W.cell? ⟨b2,o2,none⟩ = some (.int .u8 q3) ∧ W.cell? ⟨b2,o2 + 1,none⟩ = some (.string T3) ∧ W.cell? ⟨b2,o2 + 2,none⟩ = some (.int .i64 g3) ∧ W.cell? ⟨b2,o2 + 3,none⟩ = some (.slice a3 n3 c3):=by
  obtain ⟨a,c,rfl,h1,h2,h3,h4⟩:=h.form
  rcases h4 with h4 | ⟨b2,o2,ha,hp,hb,hv⟩
  · simp [Wf.V.kids] at h4
  · simp only [Wf.V.kids,VCs] at hv
    obtain ⟨⟨ks,hk,hc⟩,_⟩:=hv
    obtain ⟨q3,g3,n3,c3,T3,a3,rfl⟩:=hk.cells4
    subst ha
    refine ⟨b2,o2,c,q3,g3,n3,c3,T3,a3,rfl,h1,h2,hp,hb,hk,by simpa using hc 0 _ rfl,hc 1 _ rfl,hc 2 _ rfl,hc 3 _ rfl⟩
end Go.Proofs.Ytidjpalnmnehmaa
