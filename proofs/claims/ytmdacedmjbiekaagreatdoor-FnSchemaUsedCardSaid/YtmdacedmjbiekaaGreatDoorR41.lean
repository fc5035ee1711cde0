/- Packed by pack.py: Dt Du. -/
import Derived.Test.YtmdacedmjbiekaaGreatDoorR40
import Derived.Test.YtmdacedmjbiekaaGreatDoorR38
import Derived.Test.YtmdacedmjbiekaaGreatDoorR34
namespace Go.Proofs.YtmdacedmjbiekaaGreatDoor
open Go.ChangeShapes Go.WideShapes Go.ChangeAt Go.RowKit Go.Lib
set_option linter.unusedVariables false
set_option linter.unusedSimpArgs false

theorem LkOut.form {l kt:List UInt8} {lo:Nat} {e:Ending} {w':World} (h:LkOut l kt lo e w'):∃ a n c b,e=.returned (.tuple #[.slice a n c, .bool b]):=by
 unfold LkOut at h
 cases hk:kindOf l kt with
 | none=>rw[hk] at h;obtain⟨a,n,c,rfl⟩:=h;exact⟨_,_,_,_,rfl⟩
 | some y=>rw[hk] at h;obtain⟨b,a,c,rfl,_⟩:=h;exact⟨_,_,_,_,rfl⟩
set_option maxRecDepth 20000 in
set_option maxHeartbeats 2000000 in
theorem l91Some (rb k:Nat) (s:ByteArray) (hs:s.size≤1048576) (w:World) (H:Rd w rb k) (hk:k≤800000) :
  Calls Tryz.prog 53 #[.pointer (some ⟨rb,0,none⟩), .string s] w fun e w'=>∃ K:ByteArray,e=.returned (.string K)∧K.size≤100∧Rd w' rb (k+10)∧Beside rb w w':=by
 have R0:=H.lt
 have HK:=hid fun(kt:ByteArray) (wz:World)=>l3Kind s kt wz hs
 go_enter Tryz.func53,Tryz.ntmps53
 go_wp2_with (first|(go_at_call 35;refine(HK.out x _).mono ?_;rintro e w4 ⟨ho,hb4⟩;obtain⟨a,n,c,b,rfl⟩:=ho.form;have R4:=hid (hR3.below hb4 hR3.lt);have B4:=hid (B3.out.trans (Beside.of_below hb4 (Nat.le_refl _)));clear ho hb4;cases b)|(go_at_call 86;refine(l91Kind rb (k+1) _ hR2 (by omega)).mono ?_;rintro e w3 ⟨K,rfl,hK,hR4,hBs4⟩;have B5:=hid (B2.out.trans hBs4);clear hBs4)|(go_at_call 44;have _u:=hR2;refine(pick rb (k+1) 11 _ (hR2.alloc _) (by omega) (by omega)).mono ?_;rintro e w3 ⟨n,rfl,hn,_,hR3,hBs3⟩;obtain⟨hn0,hn1⟩:=hn (by omega);obtain⟨x,hx0,hx1,hxc⟩:=cell_picks 4 [[64,97,59],[64,97,59],[64,97,59],[64,98,59],[64,99,59],[91,110],[63,64,97,59],[110],[116],[91,64,98,59],[63,91,102]] hBs3 hR2.lt n hn0 hn1 (by decide);have B3:=Lib.hid ((B2.out.alloc _).trans hBs3);clear hBs3)|(go_at_call 44;refine(pick rb k 30 _ H (by omega) (by omega)).mono ?_;rintro e w2 ⟨v,rfl,hv,_,hR2,hBs⟩;obtain⟨hv0,hv1⟩:=hv (by omega);have B2:=Lib.hid hBs;clear hBs hv;rcases(Bool.eq_false_or_eq_true (v==(0:Int))) with hq|hq))
 all_goals go_ret
 all_goals first|exact⟨K,rfl,by omega,hR4.mono (by omega),B5.out⟩|exact⟨_,rfl,by decide,R4.out.mono (by omega),B4.out⟩|exact⟨x,rfl,by omega,R4.out.mono (by omega),B4.out⟩
set_option maxRecDepth 20000 in
theorem drawSchemaUsed (w:World) (a:Option Addr) (len cap:Nat) (h:Bytes w w.heap.size a len cap):Calls Tryz.prog 23 #[.slice a len cap] w fun e w'=>∃ s K:ByteArray,e=.returned (.tuple #[.string s, .string K])∧s.size≤1900∧K.size≤100∧Below w.heap.size w w':=by
 have HO:=Lib.hid (openRd w a len cap h)
 clear h
 go_enter Tryz.func23,Tryz.ntmps23
 go_wp2_with (first|(go_at_call 53;refine(l91Some rb 170 s (by omega) _ hR3.out (by omega)).mono ?_;rintro e w3 ⟨K,rfl,hK,hR4,hBs4⟩;have hB3:=Lib.hid (Beside.below hB2.out hB2.out.size hrb hBs4))|(go_at_call 42;refine(l91Schema rb 0 _ hR.out (by omega)).mono ?_;rintro e w2 ⟨s,rfl,hs,hR2,hBs⟩;have hB2:=Lib.hid (Beside.below hB.out hB.out.size hrb hBs);have hR3:=hid (hR2.mono (show 0+170≤170 by omega));clear hBs)|(go_at_call 41;refine HO.out.mono ?_;rintro e w1 ⟨rb,rfl,hrb,hR1,hB1⟩;have hR:=hid hR1;have hB:=hid hB1;clear hR1 hB1))
 go_ret2
 exact⟨_,_,rfl,hs,hK,hB3.out⟩
end Go.Proofs.YtmdacedmjbiekaaGreatDoor
