/- Packed by pack.py: Dr. -/
import Derived.Test.YtmdacedmjbiekaaGreatDoorR38
import Derived.Test.YtmdacedmjbiekaaGreatDoorR3
import Derived.Test.YtmdacedmjbiekaaGreatDoorR0
namespace Go.Proofs.YtmdacedmjbiekaaGreatDoor
open Go.ChangeShapes Go.WideShapes Go.ChangeAt Go.RowKit Go.Lib
set_option linter.unusedVariables false
set_option linter.unusedSimpArgs false
def Drew (n:Nat) (rb k:Nat) (w:World) (e:Ending) (w':World):Prop:=∃ s:ByteArray,e=.returned (.string s)∧s.size≤n∧Rd w' rb k∧Beside rb w w'
set_option maxRecDepth 20000 in
set_option maxHeartbeats 2000000 in
theorem l91Field (rb k:Nat) (T NM:ByteArray) (g:Nat) (hg:g≤999999) (hn:NM.size≤10) (w:World) (H:Rd w rb k) (hk:k≤900000) :
  Calls Tryz.prog 121 #[.pointer (some ⟨rb,0,none⟩), .string T, .int .i64 g, .string NM] w fun e w'=>Drew 130 rb (k+9) w e w':=by
 have R0:=H.lt
 have HD:=hid fun wz=>l6Dec g g wz (Nat.le_refl _) (by omega)
 have ld:=Wf.dec_len6 hg
 obtain⟨D,hD⟩:∃ D:ByteArray,(⟨(Wf.dec g).toArray⟩:ByteArray)=D:=⟨_,rfl⟩
 simp only[tx,hD] at HD
 have hds:D.size≤6:=by rw[← hD,tx_size];exact ld
 have HH:=hid H
 clear hD ld H
 go_enter Tryz.func121,Tryz.ntmps121
 go_wp2_with (first|(go_at_call 44;have _u:=hR4;have _t:(K.toList==[110])=true:=(by assumption);refine(pick rb (k+8) 8 _ (hR4.alloc _) (by omega) (by omega)).mono ?_;rintro e w5 ⟨u,rfl,hu,_,hR5,hBs5⟩;obtain⟨hu0,hu1⟩:=hu (by omega);obtain⟨x,hx0,hx1,hxc⟩:=cell_picks 6 [[53],[55,55],[57,57,57,57,57,57],[48]] hBs5 hR4.lt (u / 2 % 4) (by omega) (by simp;omega) (by decide);have B5:=Lib.hid ((B4.out.alloc _).trans hBs5);clear hBs5)|(go_at_call 44;have _u:=hR4;have _t:(K.toList==[116])=true:=(by assumption);refine(pick rb (k+8) 7 _ (hR4.alloc _) (by omega) (by omega)).mono ?_;rintro e w5 ⟨u,rfl,hu,_,hR5,hBs5⟩;obtain⟨hu0,hu1⟩:=hu (by omega);obtain⟨x,hx0,hx1,hxc⟩:=cell_picks 3 [[104,105],[97,32,98],[]] hBs5 hR4.lt (u / 3) (by omega) (by simp;omega) (by decide);have B5:=Lib.hid ((B4.out.alloc _).trans hBs5);clear hBs5)|(go_at_call 44;have _u:=hR4;have _t:(K.toList==[102])=true:=(by assumption);refine(pick rb (k+8) 7 _ (hR4.alloc _) (by omega) (by omega)).mono ?_;rintro e w5 ⟨u,rfl,hu,_,hR5,hBs5⟩;obtain⟨hu0,hu1⟩:=hu (by omega);obtain⟨x,hx0,hx1,hxc⟩:=cell_picks 3 [[121,101,115],[121,101,115],[110,111]] hBs5 hR4.lt (u / 3) (by omega) (by simp;omega) (by decide);have B5:=Lib.hid ((B4.out.alloc _).trans hBs5);clear hBs5)|(go_at_call 44;refine(pick rb (k+7) 3 _ R3.out (by omega) (by omega)).mono ?_;rintro e w4 ⟨v,rfl,hv,_,hR4,hBs⟩;obtain⟨hv0,hv1⟩:=hv (by omega);have B4:=Lib.hid (B3.out.trans hBs);clear hBs)|(go_at_call 86;refine(l91Kind rb k _ R1.out (by omega)).mono ?_;rintro e w3 ⟨K,rfl,hK,hR3,hBs3⟩;have B3:=Lib.hid (B1.out.trans hBs3);have R3:=Lib.hid hR3;clear hBs3 hR3)|(go_at_call 124;refine(HD.out _).mono ?_;rintro e w1 ⟨rfl,hb1⟩;have R1:=Lib.hid (HH.out.below hb1 R0);have B1:=Lib.hid (Beside.of_below (rb:=rb) hb1 (Nat.le_refl _));clear hb1))
 all_goals go_ret
 all_goals have c58:(⟨#[58]⟩:ByteArray).size=1:=rfl
 all_goals have c61:(⟨#[61]⟩:ByteArray).size=1:=rfl
 all_goals have c62:(⟨#[61,39]⟩:ByteArray).size=2:=rfl
 all_goals have c39:(⟨#[39]⟩:ByteArray).size=1:=rfl
 all_goals first|exact⟨_,rfl,by simp[ByteArray.size_append];omega,hR5.mono (by omega),B5.out⟩|exact⟨_,rfl,by simp[ByteArray.size_append];omega,hR4.mono (by omega),B4.out⟩|exact⟨_,rfl,by simp[ByteArray.size_append];omega,R3.out.mono (by omega),B3.out⟩|exact⟨_,rfl,by simp[ByteArray.size_append];omega,R1.out.mono (by omega),B1.out⟩
theorem l91FieldI (rb k:Nat) (T NM:ByteArray) (g:Int) (hg0:0≤g) (hg:g≤999999) (hn:NM.size≤10) (w:World) (H:Rd w rb k) (hk:k≤900000) :
  Calls Tryz.prog 121 #[.pointer (some ⟨rb,0,none⟩), .string T, .int .i64 g, .string NM] w fun e w'=>Drew 130 rb (k+9) w e w':=by
 obtain⟨n,rfl⟩:=Int.eq_ofNat_of_zero_le hg0
 exact l91Field rb k T NM n (by omega) hn w H hk
set_option maxRecDepth 20000 in
set_option maxHeartbeats 2000000 in
theorem l91Type (rb k:Nat) (T NM:ByteArray) (hT:T.size≤1) (hT1:1≤T.size) (hn:NM.size≤1) (w:World) (H:Rd w rb k) (hk:k≤800000) :
  Calls Tryz.prog 82 #[.pointer (some ⟨rb,0,none⟩), .string T, .string NM] w fun e w'=>∃ s:ByteArray,e=.returned (.string s)∧1≤s.size∧s.size≤600∧Rd w' rb (k+50)∧Beside rb w w':=by
 have R0:=H.lt
 have HH:=hid H
 have kc1:=fun W a c (q:Int) h=>run_convert_one (P:=Tryz.prog) 28 9 5 Tryz.underlying28 Tryz.underlying5 Tryz.underlying9 W a c q h
 have c61:(⟨#[61]⟩:ByteArray).size=1:=rfl
 have c44:(⟨#[44]⟩:ByteArray).size=1:=rfl
 have c10:(⟨#[10]⟩:ByteArray).size=1:=rfl
 clear H
 go_enter Tryz.func82,Tryz.ntmps82
 go_wp2_with (first|(go_at_call 44;have _u:=hR1;refine(pick rb (k+1) 8 _ hR1 (by omega) (by omega)).mono ?_;rintro e w2 ⟨v2,rfl,hv2,_,hR2,hBs2⟩;have B2:=Lib.hid (B1.out.trans hBs2);clear hBs2 hv2;rcases(Bool.eq_false_or_eq_true (v2==(0:Int))) with hq|hq)|(go_at_call 44;refine(pick rb k 4 _ HH.out (by omega) (by omega)).mono ?_;rintro e w1 ⟨v1,rfl,hv1,_,hR1,hBs⟩;obtain⟨hv10,hv11⟩:=hv1 (by omega);have B1:=Lib.hid hBs;clear hBs))
 all_goals
  go_loopw [7,8,10] (fun s tg iv wr=>∃ (S:ByteArray) (t:Int) (i:Nat),s=.string S∧tg=.int .i64 t∧iv=.int .i64 i∧i≤4∧0≤t∧t≤3 * i∧S.size≤3+140 * i∧1≤S.size∧Rd wr rb (k+2+11 * i)∧Hid (Beside rb w wr)) (fun _ _ v _=>4-(RowKit.intOf v).toNat)
  case atStart=>exact⟨_,_,0,rfl,rfl,rfl,by omega,by omega,by omega,by simp[ByteArray.size_append];omega,by simp[ByteArray.size_append];omega,by first|exact hR2|exact hR1.mono (by omega),by first|exact B2|exact B1⟩
  case round =>
   obtain⟨S,t,i,rfl,rfl,rfl,hi4,ht0,ht1,hS,hS1,hR,hB⟩:=hrel
   go_wp2_with (first|(go_at_call 121;have _u:=hR7;refine(l91FieldI rb (k+2+11 * i+2) T ⟨#[112+UInt8.ofNat i]⟩ _ (by omega) (by omega) (show(1:Nat)≤10 by omega) _ (hR7.alloc _) (by omega)).mono ?_;rintro e w8 ⟨F,rfl,hF,hR8,hBs8⟩;have B8:=Lib.hid ((B7.out.alloc _).trans hBs8);clear hBs8)|(go_at_call 44;have _u:=hR6;refine(pick rb (k+2+11 * i+1) 2 _ hR6 (by omega) (by omega)).mono ?_;rintro e w7 ⟨v7,rfl,hv7,_,hR7,hBs7⟩;obtain⟨hv70,hv71⟩:=hv7 (by omega);have B7:=Lib.hid (B6.out.trans hBs7);clear hBs7;rcases(show v7=0∨v7=1 by omega) with rfl|rfl)|(go_at_call 44;refine(pick rb (k+2+11 * i) 3 _ hR (by omega) (by omega)).mono ?_;rintro e w6 ⟨v6,rfl,hv6,_,hR6,hBs6⟩;obtain⟨hv60,hv61⟩:=hv6 (by omega);have B6:=Lib.hid (hB.out.trans hBs6);clear hBs6))
   all_goals first|(go_roundw;(case rel=>exact⟨_,_,i+1,rfl,rfl,by go_num,by omega,by omega,by omega,by simp[ByteArray.size_append];omega,by simp[ByteArray.size_append];omega,hR8.mono (by omega),B8⟩);(case measure=>simp[RowKit.intOf];omega))|(go_ret;exact⟨_,rfl,by simp[ByteArray.size_append];omega,by simp[ByteArray.size_append];omega,hR.mono (by omega),hB.out⟩)
end Go.Proofs.YtmdacedmjbiekaaGreatDoor
